/- A part of the proof: a symbolic executor over abstract values, and its soundness. -/
import Derived.Test.YthbcodbcndiapaaGreatDoorP1
import Derived.Laws.IdiomCopy
import Derived.Laws.Cells
import Derived.Laws.BytesString
set_option linter.all false
namespace Go.Sx
section
open Go

variable [Ghost] {P:Program} {o:Oper} {ev:Operand->SV} {H:List SObj} {K:Out->List SObj->Prop}

theorem z3w(hnd:∀c,o.op≠ .defer c)
 (h:∀ (E:EnD) (C:Cx) (e:Operand->Value),Wd C H->Ghost.inv E C H->(∀x∈o.op.operands,(ev x).den C (e x))->∃s v H' C',K (.ret s) H'∧((execOp e o).run P C.w= .ok (.value v) C'.w∨((execOp e o).run P C.w= .ok .skip C'.w∧v=undef))∧Wd C' H'∧Stp E C H C' H'∧s.den C' v):
 OpV P o ev H K:=by
 intro E C r n a next Q hw hg hv h1 _
 obtain ⟨s,v,H',C',hk,hrun,hw',hx,hs⟩:=h E C a.eval hw hg hv;refine ⟨fun f _=>q4U r f,?_⟩;rw [Oper.semAt_eq _ _ _ hnd];rcases hrun with hrun| ⟨hrun,rfl⟩
 . rw [hrun];exact h1 s v H' C' hk hw' hx hs
 rw [hrun];exact h1 s _ H' C' hk hw' hx hs
theorem q0O(hnd:∀c,o.op≠ .defer c)
 (h:∀ (C:Cx) (e:Operand->Value),Wd C H->(∀x∈o.op.operands,(ev x).den C (e x))->∃s v H' C',K (.ret s) H'∧((execOp e o).run P C.w= .ok (.value v) C'.w∨((execOp e o).run P C.w= .ok .skip C'.w∧v=undef))∧Wd C' H'∧Ext ⟨C,H⟩ C' H'∧s.den C' v):
 OpV P o ev H K:=by
 intro E C r n a next Q hw _ hv h1 _
 obtain ⟨s,v,H',C',hk,hrun,hw',hx,hs⟩:=h C a.eval hw hv;refine ⟨fun f _=>q4U r f,?_⟩;rw [Oper.semAt_eq _ _ _ hnd];rcases hrun with hrun| ⟨hrun,rfl⟩
 . rw [hrun];exact h1 s v H' C' hk hw' (.of hx) hs
 rw [hrun];exact h1 s _ H' C' hk hw' (.of hx) hs

variable {s:SV}
def q0l(hnd:∀c,o.op≠ .defer c)
 (h:∀ (C:Cx) (e:Operand->Value),Wd C H->(∀x∈o.op.operands,(ev x).den C (e x))->∃v,(execOp e o).run P C.w= .ok (.value v) C.w∧s.den C v)(hk:K (.ret s) H):
 OpV P o ev H K:=
 q0O hnd fun C e hw hv=>by obtain ⟨v,h1,h2⟩:=h C e hw hv;exact ⟨s,v,H,C,hk,.inl h1,hw,Ext.refl _ _,h2⟩

def Cx.grow(C:Cx)(o:Obj):Cx:={ρ:=fun h=>if h=C.n then some C.w.heap.size else C.ρ h,n:=C.n+1,I:=C.I,w:=C.w.alloc o}

variable {b:Nat}
def q1x(w:World)(o:Obj)(h:b<w.heap.size):(w.alloc o).heap[b]?=w.heap[b]?:=by show (w.heap.push o)[b]?=_;rw [Array.getElem?_push,if_neg (by omega)]
theorem q1y(w:World)(o:Obj):(w.alloc o).heap[w.heap.size]?=some o:=by show (w.heap.push o)[w.heap.size]?=_;rw [Array.getElem?_push,if_pos rfl]
variable {w:World}
def q9P{m:Nat}(h:World.bsize w b=some m):b<w.heap.size:=by
 unfold World.bsize at h;rcases AI b w.heap.size with hl|hl
 . exact hl
 rw [BD hl] at h;simp at h

variable {C:Cx}
def q6C(hi:∀b,C.I b->b<C.w.heap.size)(o:Obj):Evo C (C.grow o) where
 n:=CE _
 ρ:=fun h hh=>by simp only [Cx.grow];rw [if_neg (by omega)]
 I:=fun b hb=>⟨hb,q1x _ _ (hi b hb)⟩
 sz:=fun b m hm=>by have:=q9P hm;unfold World.bsize at hm⊢;simp only [Cx.grow];rw [q1x _ _ this];exact hm

def q0p{α:Type}{H:List α}{x y:α}{h:Nat}(hh:(H++ [x])[h]?=some y):(h<H.length∧H[h]?=some y)∨(h=H.length∧y=x):=by
 rcases CW h H.length with hl|hl|hl
 . exact .inl ⟨hl,by rwa [Ai hl] at hh⟩
 . subst hl;rw [Ao (Af _)] at hh;simp at hh;exact .inr ⟨rfl,hh.symm⟩
 rw [Ao (by omega),AW (by simp;omega)] at hh;simp at hh

def q5H(hw:Wd C H)(o:Obj)(so:SObj)(hs:objDen (C.grow o) C.n so):Wd (C.grow o) (H++ [so])∧Ext ⟨C,H⟩ (C.grow o) (H++ [so]):=by
 have he:=q6C hw.imm o;have hown:∀b,OwnB (C.grow o) (H++ [so]) b->OwnB C H b∨b=C.w.heap.size:=by
  rintro b ⟨h,x,hx,hl,hb⟩;rcases q0p hx with ⟨h1,h2⟩ | ⟨h1,h2⟩
  . refine .inl ⟨h,x,h2,hl,?_⟩;simp only [Cx.grow] at hb;rwa [if_neg (by rw [hw.n];omega)] at hb
  subst h1;simp only [Cx.grow] at hb;rw [if_pos hw.n.symm] at hb;exact .inr (Option.some.inj hb).symm
 have hgs:(C.grow o).w.heap.size=C.w.heap.size+1:=Array.size_push _;refine ⟨⟨?_,?_,?_,?_,?_⟩,⟨he,by rw [hgs];exact CE _,rfl,rfl,rfl,fun b hb _=>q1x _ _ hb,fun b hb=>.inl hb,fun b hb=> ?_,fun _ _ hn=>q5m hn⟩⟩
 . simp [Cx.grow,hw.n]
 . intro h x hx;rcases q0p hx with ⟨h1,h2⟩ | ⟨h1,h2⟩
   . by_cases hl:x.live=true
     . refine q0E he.I h (he.ρ h (by rw [hw.n];exact h1)) (fun b hb=>q1x _ _ (hw.own b ⟨h,x,h2,hl,hb⟩).2) (q0h he) (hw.obj h x h2)
     cases x<;>first|trivial|simp [SObj.live] at hl
   subst h2;rw [h1,<-hw.n];exact hs
 . intro b hb;rcases hown b hb with h1|rfl
   . have:=hw.own b h1;exact ⟨this.1,by rw [hgs];omega⟩
   refine ⟨fun hi=>absurd (hw.imm _ hi) (by omega),by rw [hgs];omega⟩
 . intro h h' x x' b hx hx' hl hl' hb hb';rcases q0p hx with ⟨h1,h2⟩ | ⟨h1,h2⟩ <;>rcases q0p hx' with ⟨h1',h2'⟩ | ⟨h1',h2'⟩
   . rw [he.ρ h (by rw [hw.n];exact h1)] at hb;rw [he.ρ h' (by rw [hw.n];exact h1')] at hb';exact hw.inj h h' x x' b h2 h2' hl hl' hb hb'
   . exfalso;rw [he.ρ h (by rw [hw.n];exact h1)] at hb;have:=(hw.own b ⟨h,x,h2,hl,hb⟩).2;simp only [Cx.grow,h1',<-hw.n,if_true] at hb';cases hb';omega
   . exfalso;rw [he.ρ h' (by rw [hw.n];exact h1')] at hb';have:=(hw.own b ⟨h',x',h2',hl',hb'⟩).2;simp only [Cx.grow,h1,<-hw.n,if_true] at hb;cases hb;omega
   omega
 . intro b hb;have:=hw.imm b hb;rw [hgs];omega
 rcases hown b hb with h1|rfl
 . exact .inr h1
 exact .inl (Af _)

def z1h(hw:Wd C H){h:Nat}{so so':SObj}(ho:H[h]?=some so)(hl:so.live=true)(hl':so'.live=true)(hb:C.ρ h=some b)(w':World)
 (hoth:∀b',b'≠b->w'.heap[b']?=C.w.heap[b']?)(hsz:w'.heap.size=C.w.heap.size)(hbs:∀m,World.bsize C.w b=some m->World.bsize w' b=some m)
 (hos:w'.os=C.w.os)(htp:w'.tape=C.w.tape)(hop:w'.output=C.w.output)(hs:objDen {C with w:=w'} h so'):
 Wd {C with w:=w'} (H.set h so')∧Ext ⟨C,H⟩ {C with w:=w'} (H.set h so')∧Evo C {C with w:=w'}:=by
 have hob:OwnB C H b:=⟨h,so,ho,hl,hb⟩;have hne:∀b',C.I b'->b'≠b:=fun b' hi e=>(hw.own b hob).1 (e▸hi)
 have he:Evo C {C with w:=w'}:=⟨Af _,fun _ _=>rfl,fun b' hi=>⟨hi,hoth b' (hne b' hi)⟩,fun b' m hm=>by
  by_cases hbb:b'=b
  . subst hbb;exact hbs m hm
  unfold World.bsize at hm⊢;rw [hoth b' hbb];exact hm⟩
 have hlt:h<H.length:=(Ag.1 ho).1;have hget:∀ {h' x},(H.set h so')[h']?=some x->(h'=h∧x=so')∨(h'≠h∧H[h']?=some x):=by
  intro h' x hx;by_cases e:h'=h
  . subst e;rw [Ar hlt] at hx;cases hx;exact .inl ⟨rfl,rfl⟩
  rw [Aq (Ne.symm e)] at hx;exact .inr ⟨e,hx⟩
 have hown:∀b',OwnB {C with w:=w'} (H.set h so') b'->OwnB C H b':=by
  rintro b' ⟨h',x,hx,hlx,hbx⟩;rcases hget hx with ⟨rfl,rfl⟩ | ⟨h1,h2⟩
  . exact ⟨h',so,ho,hl,hbx⟩
  exact ⟨h',x,h2,hlx,hbx⟩
 refine ⟨⟨?_,?_,?_,?_,?_⟩,⟨he,by rw [show ({C with w:=w'}:Cx).w.heap.size=C.w.heap.size from hsz];exact Af _,hos,htp,hop,fun b' _ hn=>hoth b' (fun e=>hn (e▸hob)),fun b' hi=>.inl hi,fun b' hb'=>.inr (hown b' hb'),fun _ _ hn=>q3R ho hl hn⟩,he⟩
 . simp [hw.n]
 . intro h' x hx;rcases hget hx with ⟨rfl,rfl⟩ | ⟨h1,h2⟩
   . exact hs
   by_cases hlx:x.live=true
   . exact q0E he.I h' rfl (fun b' hb'=>hoth b' (fun e=>h1 (hw.inj h' h x so b h2 ho hlx hl (e▸hb') hb))) (q0h he) (hw.obj h' x h2)
   cases x<;>first|trivial|simp [SObj.live] at hlx
 . intro b' hb';have:=hw.own b' (hown b' hb');exact ⟨this.1,by rw [hsz];exact this.2⟩
 . intro h1 h2 x x' b' hx hx' hlx hlx' hb1 hb2;have g1:∃y,H[h1]?=some y∧y.live=true:=by
    rcases hget hx with ⟨rfl,rfl⟩ | ⟨_,h2⟩
    . exact ⟨so,ho,hl⟩
    exact ⟨x,h2,hlx⟩
   have g2:∃y,H[h2]?=some y∧y.live=true:=by
    rcases hget hx' with ⟨rfl,rfl⟩ | ⟨_,h2⟩
    . exact ⟨so,ho,hl⟩
    exact ⟨x',h2,hlx'⟩
   obtain ⟨y1,e1,l1⟩:=g1;obtain ⟨y2,e2,l2⟩:=g2;exact hw.inj h1 h2 y1 y2 b' e1 e2 l1 l2 hb1 hb2
 intro b' hi;have:=hw.imm b' hi;rw [show ({C with w:=w'}:Cx).w.heap.size=C.w.heap.size from hsz];exact this

def aggOf(P:Program)(t:TypeId):Option (Option Nat):=
 match P.underlying t,P.info? t with
 |some (.struct _),some i=>some (some i.size)
 |some (.array _ _),some i=>some (some i.size)
 |some _,some _=>some none
 |_,_=>none

variable {t:TypeId}{x:Option Nat}
def q2z(h:aggOf P t=some x)(w:World):(isAgg t).run P w= .ok x.isSome w:=by
 unfold aggOf at h;simp only [isAgg,underlying,Sem.run_bind,run_program,Result.andThen];cases hu:P.underlying t with
 |none=>rw [hu] at h;cases hi:P.info? t<;>simp at h
 |some d=>
  rw [hu] at h;cases hi:P.info? t with
  |none=>rw [hi] at h;cases d<;>simp at h
  |some i=>cases d<;>simp [hi] at h<;>subst h<;>simp
def q0m{n:Nat}(h:(P.info? t).map (·.size)=some n)(w:World):(sizeOf t).run P w= .ok n w:=by
 cases hi:P.info? t with
 |none=>simp [hi] at h
 |some i=>simp [hi] at h;simp [sizeOf,typeInfo,hi,h]
def q8s{n:Nat}(h:aggOf P t=some (some n)):(P.info? t).map (·.size)=some n:=by
 unfold aggOf at h;cases hu:P.underlying t with
 |none=>rw [hu] at h;cases hi:P.info? t<;>simp at h
 |some d=>
  rw [hu] at h;cases hi:P.info? t with
  |none=>rw [hi] at h;cases d<;>simp at h
  |some i=>cases d<;>simp [hi] at h<;>simp [h]

def pick(cs:List SV)(off:Nat):Option Nat->Option SV
 |none=>cs[off]?
 |some n=>if off+n<=cs.length then some (.agg ((cs.drop off).take n)) else none

theorem q0I(b off i:Nat):(⟨b,off,none⟩:Addr).add i=⟨b,off+i,none⟩:=by unfold Addr.add;split<;>simp_all

variable {vs:List Value}{cs:List SV}
theorem q1k(ht:aggOf P t=some x){base off:Nat}(hd:SV.denL C cs vs)
 (hc:∀j u,vs[j]?=some u->w.cell? ⟨b,base+j,none⟩=some u)(hp:pick cs off x=some s):∃v,(loadVar t ⟨b,base+off,none⟩).run P w= .ok v w∧s.den C v:=by
 cases x with
 |none=>simp only [pick] at hp;obtain ⟨v,hv,hs⟩:=q1Z hd hp;refine ⟨v,?_,hs⟩;have:=hc off v hv;simp [loadVar,q2z ht,Result.andThen,this]
 |some n=>
  simp only [pick] at hp;split at hp
  . rename_i hle;cases hp;have hlen:((vs.drop off).take n).length=n:=by have:=q0A hd;simp;omega
    refine ⟨.agg ((vs.drop off).take n).toArray,?_,?_⟩
    . have hl:=run_loadCells_list (P:=P) w ⟨b,base+off,none⟩ ((vs.drop off).take n) (fun j v hj=>by
       rw [q0I,Nat.add_assoc];refine hc (off+j) v ?_;rw [AN] at hj;split at hj
       . rwa [AA] at hj
       cases hj)
      rw [hlen] at hl;simp [loadVar,q2z ht,q0m (q8s ht),Result.andThen,hl]
    rw [SV.den];exact ⟨_,rfl,q5i n (q5r off hd)⟩
  cases hp

def q0o{T:TypeId}{fz:Nat×Nat}(h:w.heap[b]?=some (.cells vs.toArray T fz))(j:Nat):w.cell? ⟨b,j,none⟩=vs[j]?:=by simp [World.cell?,h]

def rawL(vs:List Value):List SV:=vs.map .raw
theorem q1n{C:Cx}:∀ (vs:List Value),SV.denL C (rawL vs) vs
 | []=>by simp [rawL,SV.denL]
 |v :: vs=>by simp only [rawL,AC];exact q0d.2 ⟨v,vs,rfl,by rw [SV.den],q1n vs⟩
def q1l{C:Cx}:∀ {vs us:List Value},SV.denL C (rawL vs) us->us=vs
 | [],us,h=>by simpa [rawL,SV.denL] using h
 |v :: vs,us,h=>by simp only [rawL,AC] at h;obtain ⟨u,us',rfl,h1,h2⟩:=q0d.1 h;rw [SV.den] at h1;subst h1;rw [q1l h2]

def SV.ofT(ag:Option Nat)(t:Ty)(x:t.den):Option SV:=match ag with
 |none=>match t.cells x with
  | [s]=>some s
  |_=>none
 |some _=>if t.plain then some (.agg (t.cells x)) else some (.dat t x)
variable {ag:Option Nat}
theorem q5g{off:Nat}{T:TypeId}{t:Ty}{x:t.den}(ht:aggOf P T=some ag)(hl:Lies C.I C.w b off t x)(hs:SV.ofT ag t x=some s)(hm:ag=none∨ag=some t.size):
 ∃v,(loadVar T ⟨b,off,none⟩).run P C.w= .ok v C.w∧s.den C v:=by
 obtain ⟨us,hr,hc⟩:=hl;have hlen:=t.rel_size _ _ hr;have hd:=t.cells_den _ _ hr;cases ag with
 |none=>
  unfold SV.ofT at hs;simp only at hs;split at hs
  . rename_i s' hcs;cases hs;obtain ⟨v,h1,h2⟩:=q1k (P:=P) (off:=0) ht hd hc (s:=s) (by rw [hcs];rfl);rw [AB] at h1;exact ⟨v,h1,h2⟩
  cases hs
 |some n=>
  obtain rfl:n=t.size:=by rcases hm with h|h<;>cases h;rfl
  obtain ⟨v,h1,h2⟩:=q1k (P:=P) (C:=C) (off:=0) (s:=.agg (rawL us)) ht (q1n us) hc (by simp [pick,rawL,hlen];exact Ad (by simp [hlen]));rw [AB] at h1;rw [SV.den] at h2;obtain ⟨vs,rfl,h2⟩:=h2;rw [q1l h2] at h1;refine ⟨_,h1,?_⟩;unfold SV.ofT at hs;simp only at hs;split at hs
  . cases hs;rw [SV.den];exact ⟨_,rfl,hd⟩
  cases hs;rw [SV.den];exact ⟨_,rfl,hr⟩
def ZLd(C:Cx)(ag:Option Nat)(b off:Nat)(s:SV):Prop:=(∃cs vs,SV.denL C cs vs∧(∀j u,vs[j]?=some u->C.w.cell? ⟨b,off+j,none⟩=some u)∧pick cs 0 ag=some s)∨
 ∃t x,Lies C.I C.w b off t x∧SV.ofT ag t x=some s∧(ag=none∨ag=some t.size)
variable {x:Operand}
def j3W{off:Nat}(hop:o.op= .load t x)(ht:aggOf P t=some ag)(he:ev x= .raw (.pointer (some ⟨b,off,none⟩)))
 (h:∀E C,Wd C H->Ghost.inv E C H->∃s,ZLd C ag b off s∧K (.ret s) H):OpV P o ev H K:=by
 refine z3w (by rw [hop];intro c hc;cases hc) fun E C e hw hg hv=> ?_;have hx:=hv x (by rw [hop];simp [Op.operands]);rw [he,SV.den] at hx;obtain ⟨s,hz,hk⟩:=h E C hw hg;have main:∃v,(loadVar t ⟨b,off,none⟩).run P C.w= .ok v C.w∧s.den C v:=by
  rcases hz with ⟨cs,vs,hd,hc,hp⟩ | ⟨ty,y,hl,hs,hm⟩
  . obtain ⟨v,h1,h2⟩:=q1k (P:=P) ht (b:=b) (base:=off) (off:=0) hd hc hp;rw [AB] at h1;exact ⟨v,h1,h2⟩
  exact q5g ht hl hs hm
 obtain ⟨v,h1,h2⟩:=main;exact ⟨s,v,H,C,hk,.inl (by simp [execOp,hop,hx,Instr.loadAt,Instr.sureAddr,Result.andThen,h1]),hw,.of (Ext.refl _ _),h2⟩

def z1l{h off:Nat}{T:TypeId}(hop:o.op= .load t x)(ht:aggOf P t=some ag)(he:ev x= .ptr h off)
 (hH:H[h]?=some (.cells T cs))(hp:pick cs off ag=some s)(hk:K (.ret s) H):OpV P o ev H K:=by
 refine q0l (by rw [hop];intro c hc;cases hc) (s:=s) (fun C e hw hv=> ?_) hk;have hx:=hv x (by rw [hop];simp [Op.operands]);rw [he,SV.den] at hx;obtain ⟨_,b,hb,hv'⟩:=hx;obtain ⟨b',vs,hb',hcell,hd⟩:=hw.obj h _ hH;rw [hb] at hb';cases hb';obtain ⟨v,h1,h2⟩:=q1k ht (b:=b) (base:=0) (off:=off) hd (fun j u hj=>by rw [Ae,q0o hcell];exact hj) hp;rw [Ae] at h1;exact ⟨v,by simp [execOp,hop,hv',Instr.loadAt,Instr.sureAddr,Result.andThen,h1],h2⟩

def q9L{ty:Ty}{d:ty.den}{kk:Nat}(hop:o.op= .load t x)(ht:aggOf P t=some ag)(he:ev x= .iptr ty d kk)
 (hp:pick (ty.cells d) kk ag=some s)(hk:K (.ret s) H):OpV P o ev H K:=by
 refine q0l (by rw [hop];intro c hc;cases hc) (s:=s) (fun C e hw hv=> ?_) hk;have hx:=hv x (by rw [hop];simp [Op.operands]);rw [he,SV.den] at hx;obtain ⟨b,off,vs,hv',_,hr,hc⟩:=hx;obtain ⟨v,h1,h2⟩:=q1k ht (b:=b) (base:=off) (off:=kk) (Ty.cells_den _ _ _ hr) hc hp;exact ⟨v,by simp [execOp,hop,hv',Instr.loadAt,Instr.sureAddr,Result.andThen,h1],h2⟩

def q9X{h i kk:Nat}{ty:Ty}{xs:List ty.den}{d:ty.den}(hop:o.op= .load t x)(ht:aggOf P t=some ag)(he:ev x= .rptr h ty i kk)
 (hH:H[h]?=some (.row ty xs))(hi:xs[i]?=some d)(hp:pick (ty.cells d) kk ag=some s)(hk:K (.ret s) H):OpV P o ev H K:=by
 refine q0l (by rw [hop];intro c hc;cases hc) (s:=s) (fun C e hw hv=> ?_) hk;have hx:=hv x (by rw [hop];simp [Op.operands]);rw [he,SV.den] at hx;obtain ⟨_,b,hb,hv'⟩:=hx;rcases hw.obj h _ hH with ⟨h1,h2⟩ | ⟨b',arr,T,fz,hb',hcell,hfz,hsz,hrow⟩
 . subst h2;simp at hi
 rw [hb] at hb';cases hb';obtain ⟨us,hr,hc⟩:=hrow i d hi;obtain ⟨v,h1,h2⟩:=q1k ht (b:=b) (base:=i*ty.size) (off:=kk) (Ty.cells_den _ _ _ hr) (fun j u hj=>by have:=hc j u hj;rwa [Ae] at this) hp;exact ⟨v,by simp [execOp,hop,hv',Instr.loadAt,Instr.sureAddr,Result.andThen,h1],h2⟩
end
open Go

variable {H:List SObj}
variable {I:Nat->Prop} {w:World} {b off:Nat}
def Lies.fst{a c:Ty}{x:(Ty.prod a c).den}(h:Lies I w b off (.prod a c) x):Lies I w b off a x.1:=by obtain ⟨us,⟨v1,v2,rfl,h1,_⟩,hc⟩:=h;exact ⟨v1,h1,fun j u hu=>hc j u (by rw [Ai (Ag.1 hu).1];exact hu)⟩
def Lies.snd{a c:Ty}{x:(Ty.prod a c).den}(h:Lies I w b off (.prod a c) x):Lies I w b (off+a.size) c x.2:=by obtain ⟨us,⟨v1,v2,rfl,h1,h2⟩,hc⟩:=h;have hl:=a.rel_size _ _ h1;refine ⟨v2,h2,fun j u hu=> ?_⟩;rw [Nat.add_assoc];refine hc (a.size+j) u ?_;rw [Ao (by omega),<-hu];congr 1;omega

def q7y{α:Type}:∀ {vss:List (List α)},(∀us∈vss,us.length=1)->∀i:Nat,vss.flatten[i]?=(vss[i]?).bind fun (l:List α)=>l[0]?
 | [],_,i=>by simp
 |us :: vss,h,i=>by
  obtain ⟨u,rfl⟩:=Bt.1 (h us (Bp ..));cases i with
  |zero=>simp
  |succ i=>have:=q7y (vss:=vss) (fun x hx=>h x (AM _ hx)) i;simpa using this
variable {n:Nat}
def q0V{e:Ty}{ys:List e.den}{us:List Value}(he:e.size=1):(Ty.arr n e).rel I w ys us ↔ ys.length=n∧us.length=n∧∀ (i:Nat) y u,ys[i]?=some y->us[i]?=some u->e.rel I w y [u]:=by
 constructor
 . rintro ⟨hn,vss,rfl,hl,h⟩;have h1:∀us∈vss,us.length=1:=fun us hu=>by obtain ⟨i,hi,rfl⟩:=A9 hu;rw [<-he];exact e.rel_size _ _ (h i (ys[i]'(by omega)) _ (Ac _) (Ac hi))
   refine ⟨hn,by rw [flat_len h1,hl,hn,AD],fun i y u hy hu=> ?_⟩;rw [q7y h1] at hu;cases hv:vss[i]? with
   |none=>simp [hv] at hu
   |some us=>have h2:=h1 us (BN hv);obtain ⟨u',rfl⟩:=Bt.1 h2;simp [hv] at hu;subst hu;exact h i y _ hy hv
 rintro ⟨hn,hl,h⟩;refine ⟨hn,us.map fun u=>[u],?_,by simp;omega,fun i y u hy hu=> ?_⟩
 . clear h hl;induction us with
   |nil=>rfl
   |cons u us ih=>rw [AC,A7,<-ih];rfl
 rw [AF] at hu;cases hv:us[i]? with
 |none=>simp [hv] at hu
 |some v=>simp [hv] at hu;subst hu;exact h i y v hy hv
def q3v{e:Ty}{ys:List e.den}(he:e.size=1):Lies I w b off (.arr n e) ys ↔ ys.length=n∧∀ (i:Nat) y,ys[i]?=some y->Lies I w b (off+i) e y:=by
 constructor
 . rintro ⟨us,hr,hc⟩;obtain ⟨hn,hl,h⟩:=(q0V he).1 hr;refine ⟨hn,fun i y hy=> ?_⟩;have hi:i<us.length:=by have:=(Ag.1 hy).1;omega
   have hu:us[i]?=some us[i]:=Ac hi;refine ⟨[us[i]],h i y _ hy hu,fun j u hj=> ?_⟩;cases j with
   |zero=>simp at hj;subst hj;exact hc i _ hu
   |succ j=>simp at hj
 rintro ⟨hn,h⟩;have key:∀ (ys:List e.den) (off:Nat),(∀ (i:Nat) y,ys[i]?=some y->Lies I w b (off+i) e y)->∃us:List Value,us.length=ys.length∧(∀ (i:Nat) y u,ys[i]?=some y->us[i]?=some u->e.rel I w y [u])∧∀j u,us[j]?=some u->w.cell? ⟨b,off+j,none⟩=some u:=by
  intro ys;induction ys with
  |nil=>intro off _;exact ⟨[],rfl,fun i y u h=>by simp at h,fun j u h=>by simp at h⟩
  |cons y ys ih=>
   intro off h;obtain ⟨us,h1,h2,h3⟩:=ih (off+1) fun i y hy=>by rw [Nat.add_assoc,Bs 1 i];exact h (i+1) y (by simpa using hy)
   obtain ⟨vs,g1,g2⟩:=h 0 y rfl;have:=e.rel_size _ _ g1;rw [he] at this;obtain ⟨v,rfl⟩:=Bt.1 this;refine ⟨v :: us,by simp [h1],fun i y' u hy hu=> ?_,fun j u hj=> ?_⟩
   . cases i with
     |zero=>simp at hy hu;subst hy hu;exact g1
     |succ i=>exact h2 i y' u (by simpa using hy) (by simpa using hu)
   cases j with
   |zero=>simp at hj;subst hj;exact g2 0 _ rfl
   |succ j=>rw [Bs j 1,<-Nat.add_assoc];exact h3 j u (by simpa using hj)
 obtain ⟨us,h1,h2,h3⟩:=key ys off h;exact ⟨us,(q0V he).2 ⟨hn,by omega,h2⟩,h3⟩
theorem Lies.elem{n i:Nat}{e:Ty}{ys:List e.den}(he:e.size=1)(h:Lies I w b off (.arr n e) ys)(hi:i<n):Lies I w b (off+i) e (ys.getD i e.dflt):=by obtain ⟨hn,h⟩:=(q3v he).1 h;exact h i _ (by rw [Aa,Ac (by omega)];rfl)
def Lies.part{n i m:Nat}{e:Ty}{ys:List e.den}(he:e.size=1)(h:Lies I w b off (.arr n e) ys)(hi:i+m<=n):Lies I w b (off+i) (.arr m e) ((ys.drop i).take m):=by
 obtain ⟨hn,h⟩:=(q3v he).1 h;refine (q3v he).2 ⟨by simp;omega,fun j y hy=> ?_⟩;rw [AN] at hy;split at hy
 . rw [AA] at hy;rw [Nat.add_assoc];exact h _ _ hy
 cases hy

variable {C:Cx}
def q1Q{h i:Nat}{t:Ty}{xs:List t.den}{x:t.den}(hw:Wd C H)(hH:H[h]?=some (.row t xs))(hx:xs[i]?=some x):∃b,C.ρ h=some b∧Lies C.I C.w b (i*t.size) t x:=by
 rcases hw.obj h _ hH with ⟨h1,h2⟩ | ⟨b',arr,T,fz,hb',hcell,hfz,hsz,hrow⟩
 . subst h2;simp at hx
 obtain ⟨us,h1,h2⟩:=hrow i x hx;exact ⟨b',hb',us,h1,fun j u hj=>by have:=h2 j u hj;rwa [Ae] at this⟩
def q9e{h i m:Nat}{t:Ty}{xs:List t.den}(hw:Wd C H)(hH:H[h]?=some (.row t xs))(ht:t.size=1)(hi:i+m<=xs.length)(hm:0<m):∃b,C.ρ h=some b∧Lies C.I C.w b i (.arr m t) ((xs.drop i).take m):=by
 have h0:xs[i]?=some xs[i]:=Ac (by omega);obtain ⟨b,hb,_⟩:=q1Q hw hH h0;refine ⟨b,hb,(q3v ht).2 ⟨by simp;omega,fun j y hy=> ?_⟩⟩;rw [AN] at hy;split at hy
 . rw [AA] at hy;obtain ⟨b',hb',hl⟩:=q1Q hw hH hy;rw [hb] at hb';cases hb';rwa [ht,AD] at hl
 cases hy
section

variable [Ghost] {P:Program} {o:Oper} {ev:Operand->SV} {H:List SObj} {K:Out->List SObj->Prop}

variable {α:Type}
def splice(vs:List α)(o:Nat)(us:List α):List α:=vs.take o++us++vs.drop (o+us.length)
def q0u{vs us:List α}{o:Nat}(h:o+us.length<=vs.length):(splice vs o us).length=vs.length:=by simp [splice];omega
variable {cs:List SV}{vs:List Value}
theorem q4s{ds:List SV}{us:List Value}{o:Nat}(h:SV.denL C cs vs)(k:SV.denL C ds us):SV.denL C (splice cs o ds) (splice vs o us):=by unfold splice;rw [q0A k];exact q0x.2 ⟨_,_,rfl,q0x.2 ⟨_,_,rfl,q5i o h,k⟩,q5r _ h⟩
def q7j{vs:List α}{o:Nat}{u:α}{us:List α}(h:o<vs.length):splice vs o (u :: us)=splice (vs.set o u) (o+1) us:=by
 unfold splice;apply Bf;intro i;rcases CW i o with hi|hi|hi
 . rw [Ai (by simp;omega),Ai (by simp;omega),Ai (by simp;omega),Ai (by simp;omega)];rw [AN,AN,if_pos hi,if_pos (by omega),Aq (by omega)]
 . subst hi;rw [Ai (by simp;omega),Ao (by simp;omega)];rw [Ai (by simp;omega),Ai (by simp;omega),AN,if_pos (by omega),Ar h];simp [Bj (C7 h)]
 rcases AI i (o+ (us.length+1)) with h2|h2
 . rw [Ai (by simp;omega),Ao (by simp;omega)];rw [Ai (by simp;omega),Ao (by simp;omega)];simp only [Ak,Bk,Bj (C7 h)];rw [show min (o+1) vs.length=o+1 from Bj h,show i-o=(i- (o+1))+1 from by omega,List.getElem?_cons_succ]
 rw [Ao (by simp;omega),Ao (by simp;omega)];simp only [Ab,Ak,Bk,AK,AA,Bj (C7 h)];rw [show min (o+1) vs.length=o+1 from Bj h,Aq (by omega)];congr 1;omega

theorem z0J{o:Nat}{T:TypeId}{fz:Nat×Nat}(h:w.heap[b]?=some (.cells vs.toArray T fz))(u:Value):(w.setCell ⟨b,o,none⟩ u).heap[b]?=some (.cells (vs.set o u).toArray T fz):=by
 have:((w.heap.modify b fun|.cells c elem frozen=>.cells (if (none:Option Nat).isSome then c else c.setIfInBounds o u) elem frozen|o=>o))[b]?=some (.cells (vs.set o u).toArray T fz):=by rw [Array.getElem?_modify,if_pos rfl,h];simp
 exact this
def q9z{o b':Nat}(u:Value)(h:b'≠b):(w.setCell ⟨b,o,none⟩ u).heap[b']?=w.heap[b']?:=by unfold World.setCell;simp only [Array.getElem?_modify];rw [if_neg (fun e=>h e.symm)]

def q1O{b:Nat}{T:TypeId}{fz:Nat×Nat}:∀ (us:List Value) (o:Nat) (w:World) (vs:List Value),w.heap[b]?=some (.cells vs.toArray T fz)->o+us.length<=vs.length->
 (w.setCells b o us).heap[b]?=some (.cells (splice vs o us).toArray T fz)
 | [],o,w,vs,h,_=>by simp only [World.setCells];rw [h];simp [splice]
 |u :: us,o,w,vs,h,hl=>by simp only [AK] at hl;simp only [World.setCells];rw [q1O us (o+1) _ (vs.set o u) (z0J h u) (by rw [Bk];omega),q7j (by omega)]
def q0B{b b':Nat}(h:b'≠b):∀ (us:List Value) (o:Nat) (w:World),(w.setCells b o us).heap[b']?=w.heap[b']?
 | [],_,_=>rfl
 |u :: us,o,w=>by simp only [World.setCells];rw [q0B h us (o+1),q9z u h]
def q1m{b:Nat}:∀ (us:List Value) (o:Nat) (w:World),(w.setCells b o us).heap.size=w.heap.size
 | [],_,_=>rfl
 |u :: us,o,w=>by simp only [World.setCells];rw [q1m us (o+1)];simp
theorem q1V{b:Nat}:∀ (us:List Value) (o:Nat) (w:World),(w.setCells b o us).os=w.os
 | [],_,_=>rfl
 |u :: us,o,w=>by simp only [World.setCells];rw [q1V us (o+1)];rfl
theorem q1o{b:Nat}:∀ (us:List Value) (o:Nat) (w:World),(w.setCells b o us).tape=w.tape
 | [],_,_=>rfl
 |u :: us,o,w=>by simp only [World.setCells];rw [q1o us (o+1)];rfl
theorem q0Z{b:Nat}:∀ (us:List Value) (o:Nat) (w:World),(w.setCells b o us).output=w.output
 | [],_,_=>rfl
 |u :: us,o,w=>by simp only [World.setCells];rw [q0Z us (o+1)];rfl

def SV.one:SV->Bool
 |.any|.agg _|.tup _|.dat _ _=>false
 |.raw v=>v.oneCell'
 |_=>true
theorem z8K:∀ {s:SV} {v:Value},s.one=true->s.den C v->v.oneCell'=true
 |.any,_,h,_=>by simp [SV.one] at h
 |.agg _,_,h,_=>by simp [SV.one] at h
 |.tup _,_,h,_=>by simp [SV.one] at h
 |.dat _ _,_,h,_=>by simp [SV.one] at h
 |.raw u,v,h,d=>by rw [SV.den] at d;subst d;simpa [SV.one] using h
 |.isl t xs,v,_,d=>by rw [SV.den] at d;obtain ⟨A,n,c,e,_⟩:=d;cases e;rfl
 |.fsl t xs,v,_,d=>by rw [SV.den] at d;obtain ⟨_,A,rfl⟩:=d;rfl
 |.iptr ..,v,_,d=>by rw [SV.den] at d;obtain ⟨_,_,_,rfl,_⟩:=d;rfl
 |.ptr ..,v,_,d=>by rw [SV.den] at d;obtain ⟨_,_,_,rfl⟩:=d;rfl
 |.rptr ..,v,_,d=>by rw [SV.den] at d;obtain ⟨_,_,_,rfl⟩:=d;rfl
 |.bld ..,v,_,d=>by rw [SV.den] at d;obtain ⟨_,⟨_,_,rfl⟩ | ⟨_,_,_,_,rfl,_⟩⟩:=d<;>rfl
 |.osl ..,v,_,d=>by rw [SV.den] at d;obtain ⟨_,_,_,rfl,_⟩:=d;rfl
 |.csl ..,v,_,d=>by rw [SV.den] at d;obtain ⟨_,_,_,rfl,_⟩:=d;rfl
 |.fn ..,v,_,d=>by rw [SV.den] at d;obtain ⟨_,_,rfl,_⟩:=d;rfl
 |.iface ..,v,_,d=>by rw [SV.den] at d;obtain ⟨_,rfl,_⟩:=d;rfl
 |.mp _,v,_,d=>by rw [SV.den] at d;obtain ⟨_,_,_,rfl⟩:=d;rfl
 |.imap ..,v,_,d=>by rw [SV.den] at d;obtain ⟨_,rfl,_⟩:=d;rfl

def ones:List SV->Bool
 | []=>true
 |s :: l=>s.one&& ones l
def q4S{C:Cx}:∀ {l:List SV} {vs:List Value},ones l=true->SV.denL C l vs->∀v∈vs,v.oneCell'=true
 | [],_,_,h,v,hv=>by rw [q0y] at h;subst h;cases hv
 |s :: l,_,ho,h,v,hv=>by
  obtain ⟨u,us,rfl,h1,h2⟩:=q0d.1 h;simp [ones] at ho;rcases Bm.1 hv with rfl|hv
  . exact z8K ho.1 h1
  exact q4S ho.2 h2 v hv

def SV.flat:SV->Option (List SV)
 |.any|.tup _=>none
 |.agg l=>some l
 |.raw v=>some (rawL v.cells.toList)
 |.dat t x=>some (t.cells x)
 |s=>some [s]
theorem q3s{s:SV}{v:Value}(hf:s.flat=some cs)(h:s.den C v):SV.denL C cs v.cells.toList:=by
 have one:∀ (s:SV),s.one=true->s.flat=some [s]->s.den C v->SV.denL C [s] v.cells.toList:=fun s h1 h2 hd=>by
  have:=z8K h1 hd;have hc:v.cells= #[v]:=by cases v<;>first|rfl|simp [Value.oneCell'] at this
  rw [hc];exact q0d.2 ⟨v,[],rfl,hd,q0y.2 rfl⟩
 cases s with
 |any=>simp [SV.flat] at hf
 |tup l=>simp [SV.flat] at hf
 |agg l=>cases hf;rw [SV.den] at h;obtain ⟨vs,rfl,hl⟩:=h;simpa [Value.cells] using hl
 |raw u=>cases hf;rw [SV.den] at h;subst h;exact q1n _
 |dat t x=>cases hf;rw [SV.den] at h;obtain ⟨vs,rfl,hr⟩:=h;simpa [Value.cells] using t.cells_den _ _ hr
 |_=>cases hf;exact one _ rfl rfl h

variable {x:Operand}
def z3B(hop:o.op= .move x∨o.op= .assign x)(hk:K (.ret (ev x)) H):OpV P o ev H K:=by refine q0l (by rcases hop with h|h<;> (rw [h];intro c hc;cases hc)) (s:=ev x) (fun C e _ hv=> ?_) hk;have hx:=hv x (by rcases hop with h|h<;> (rw [h];simp [Op.operands]));exact ⟨e x,by rcases hop with h|h<;>simp [execOp,h],hx⟩

def z9G{c y:Operand}{b:Bool}(hop:o.op= .pick c x y)(hc:ev c= .raw (.bool b))(hk:K (.ret (if b then ev x else ev y)) H):OpV P o ev H K:=by refine q0l (by rw [hop];intro c hc;cases hc) (fun C e _ hv=> ?_) hk;have h0:=hv c (by rw [hop];simp [Op.operands]);have h1:=hv x (by rw [hop];simp [Op.operands]);have h2:=hv y (by rw [hop];simp [Op.operands]);rw [hc,SV.den] at h0;refine ⟨if b then e x else e y,by simp [execOp,hop,h0,asBool],?_⟩;cases b<;>simpa

def SV.nonNil:SV->Bool
 |.ptr .. |.iptr .. |.rptr .. |.fn .. =>true
 |.raw (.pointer (some _))=>true
 |_=>false
def z1d(hop:o.op= .nilCheck x)(hn:(ev x).nonNil=true)(hk:K (.ret (ev x)) H):OpV P o ev H K:=by
 refine q0l (by rw [hop];intro c hc;cases hc) (s:=ev x) (fun C e _ hv=> ?_) hk;have hx:=hv x (by rw [hop];simp [Op.operands]);refine ⟨e x,?_,hx⟩;generalize hs:ev x=s at hx hn;unfold SV.nonNil at hn;split at hn<;>first| (cases hn;done) |rw [SV.den] at hx
 . obtain ⟨_,_,_,hv⟩:=hx;simp [execOp,hop,hv]
 . obtain ⟨_,_,_,hv,_⟩:=hx;simp [execOp,hop,hv]
 . obtain ⟨_,_,_,hv⟩:=hx;simp [execOp,hop,hv]
 . obtain ⟨_,_,hv,_⟩:=hx;simp [execOp,hop,hv]
 simp [execOp,hop,hx]

def z2F{i:Nat}{l:List SV}{s:SV}(hop:o.op= .extract x i)(hx:ev x= .tup l)(hs:l[i]?=some s)(hk:K (.ret s) H):OpV P o ev H K:=by refine q0l (by rw [hop];intro c hc;cases hc) (s:=s) (fun C e _ hv=> ?_) hk;have h0:=hv x (by rw [hop];simp [Op.operands]);rw [hx,SV.den] at h0;obtain ⟨vs,h0,hl⟩:=h0;obtain ⟨v,h1,h2⟩:=q1Z hl hs;exact ⟨v,by simp [execOp,hop,h0,Instr.extract,h1],h2⟩

def q1R{C:Cx}{ev:Operand->SV}{e:Operand->Value}:∀ (xs:List Operand),(∀x∈xs,(ev x).den C (e x))->SV.denL C (xs.map ev) (xs.map e)
 | [],_=>by simp [SV.denL]
 |x :: xs,h=>by simp only [AC];exact q0d.2 ⟨_,_,rfl,h x (by simp),q1R xs fun y hy=>h y (by simp [hy])⟩

def z0r{T:TypeId}{nm:String}{fi ca:Array Operand}(hop:o.op= .makeFunc (.methodOf T nm) fi ca)(h1:fi.size=0)(h2:ca.size=0)(hk:K (.ret (.raw (.func (.methodOf T nm) #[] #[]))) H):OpV P o ev H K:=by obtain rfl:=A0 h1;obtain rfl:=A0 h2;refine q0l (by rw [hop];intro c hc;cases hc) (fun C e _ hv=> ?_) hk;exact ⟨.func (.methodOf T nm) #[] #[],by simp [execOp,hop,Instr.makeFunc],by rw [SV.den]⟩
def z0O{f:Nat}{fi ca:Array Operand}(hop:o.op= .makeFunc (.func f) fi ca)(hk:K (.ret (.fn f (fi.toList.map ev) (ca.toList.map ev))) H):OpV P o ev H K:=by refine q0l (by rw [hop];intro c hc;cases hc) (fun C e _ hv=> ?_) hk;rw [hop] at hv;simp only [Op.operands,Array.mem_append] at hv;refine ⟨.func (.func f) (fi.map e) (ca.map e),by simp [execOp,hop,Instr.makeFunc],?_⟩;rw [SV.den];refine ⟨fi.toList.map e,ca.toList.map e,by simp [<-Array.toList_map],q1R _ fun x hx=>hv x (.inl (by simpa using hx)),q1R _ fun x hx=>hv x (.inr (by simpa using hx))⟩

def notIface(P:Program)(t:TypeId):Bool:=match P.underlying t with
 |some (.interface _)=>false
 |some _=>true
 |none=>false
def q5Y{T:TypeId}(hop:o.op= .makeInterface T x)(ht:notIface P T=true)(hk:K (.ret (.iface T (ev x))) H):OpV P o ev H K:=by
 refine q0l (by rw [hop];intro c hc;cases hc) (fun C e _ hv=> ?_) hk;have h0:=hv x (by rw [hop];simp [Op.operands]);refine ⟨.iface T (e x),?_,by rw [SV.den];exact ⟨_,rfl,h0⟩⟩;unfold notIface at ht;cases hu:P.underlying T with
 |none=>simp [hu] at ht
 |some d=>cases d<;>simp [hu] at ht<;>simp [execOp,hop,Instr.makeInterface,underlying,Result.andThen,hu]

def q5T(hi:∀b,C.I b->b<C.w.heap.size)(T:TypeId)(h:SV.denL C cs vs):objDen (C.grow (.cells vs.toArray T)) C.n (.cells T cs):=
 ⟨C.w.heap.size,vs,by simp [Cx.grow],q1y _ _,q0h (q6C hi _) h⟩

theorem z7f{T:TypeId}{zs:List Value}(hop:o.op= .alloc T)(hz:(P.info? T).bind (fun i=>i.zero.map (·.cells.toList))=some zs)(hk:K (.ret (.ptr H.length 0)) (H++ [.cells T (rawL zs)])):OpV P o ev H K:=by
 refine q0O (by rw [hop];intro c hc;cases hc) fun C e hw _=> ?_;obtain ⟨g1,g2⟩:=q5H hw (.cells zs.toArray T) (.cells T (rawL zs)) (q5T hw.imm T (q1n zs));refine ⟨_,.pointer (some ⟨C.w.heap.size,0,none⟩),_,_,hk,.inl ?_,g1,g2,?_⟩
 . cases hi:P.info? T with
   |none=>simp [hi] at hz
   |some i=>
    cases hz0:i.zero with
    |none=>simp [hi,hz0] at hz
    |some z=>simp [hi,hz0] at hz;simp [execOp,hop,Instr.alloc,zeroValue,typeInfo,hi,hz0,Result.andThen,newVar,newRow,Cx.grow,<-hz]
 rw [SV.den];exact ⟨by simp [Cx.grow,hw.n],C.w.heap.size,by simp [Cx.grow,hw.n],rfl⟩

theorem j4m{T:TypeId}(hop:o.op= .box T x)(hf:(ev x).flat=some cs)(hk:K (.ret (.ptr H.length 0)) (H++ [.cells T cs])):OpV P o ev H K:=by
 refine q0O (by rw [hop];intro c hc;cases hc) fun C e hw hv=> ?_;have hd:=q3s hf (hv x (by rw [hop];simp [Op.operands]));obtain ⟨g1,g2⟩:=q5H hw (.cells (e x).cells T) (.cells T cs) (by have:=q5T hw.imm T hd;simpa using this);refine ⟨_,.pointer (some ⟨C.w.heap.size,0,none⟩),_,_,hk,.inl ?_,g1,g2,?_⟩
 . simp [execOp,hop,Instr.box,Result.andThen,newVar,newRow,Cx.grow]
 rw [SV.den];exact ⟨by simp [Cx.grow,hw.n],C.w.heap.size,by simp [Cx.grow,hw.n],rfl⟩

def q9o{T ty:TypeId}{y:Operand}{h:Nat}{ds:List SV}(hop:o.op= .store ty x y)(hs:(P.info? ty).map (·.size)=some n)(he:ev x= .ptr h off)(hH:H[h]?=some (.cells T cs))
 (hf:(ev y).flat=some ds)(hn:ds.length=n)(hb:off+n<=cs.length)(h1:ones ds=true)(hk:K (.ret .any) (H.set h (.cells T (splice cs off ds)))):OpV P o ev H K:=by
 refine q0O (by rw [hop];intro c hc;cases hc) fun C e hw hv=> ?_;have hx:=hv x (by rw [hop];simp [Op.operands]);have hy:=q3s hf (hv y (by rw [hop];simp [Op.operands]));rw [he,SV.den] at hx;obtain ⟨_,b,hbb,hx⟩:=hx;obtain ⟨b',vs,hb',hcell,hd⟩:=hw.obj h _ hH;rw [hbb] at hb';cases hb';have hlen:(e y).cells.toList.length=n:=by rw [q0A hy,hn]
 have hvl:vs.length=cs.length:=q0A hd;have hrun:(storeCells ⟨b,off,none⟩ (e y).cells.toList 0).run P C.w= .ok () (C.w.setCells b (off+0) (e y).cells.toList):=run_storeCells_cells b off _ 0 C.w
  (fun j hj=>by rw [q0o hcell];rw [Ac (by omega)];rfl)
  (fun j _=>by simp [World.frozen?,hcell]) (q4S h1 hy)
 rw [AB] at hrun;have hnew:=q1O (e y).cells.toList off C.w vs hcell (by omega);obtain ⟨g1,g2,g3⟩:=z1h (so':=.cells T (splice cs off ds)) hw hH rfl rfl hbb (C.w.setCells b off (e y).cells.toList) (fun b' hb'=>q0B hb' _ _ _) (q1m _ _ _)
  (fun m hm=>by
   unfold World.bsize at hm⊢;rw [hnew];rw [hcell] at hm;simp at hm⊢
   rw [q0u (by omega)];exact hm)
  (q1V _ _ _) (q1o _ _ _) (q0Z _ _ _)
  ⟨b,_,hbb,hnew,by
   have he:Evo C {C with w:=C.w.setCells b off (e y).cells.toList}:=⟨Af _,fun _ _=>rfl,fun b' hi=>⟨hi,q0B (fun (eq:b'=b)=>(hw.own b ⟨h,_,hH,rfl,hbb⟩).1 (eq▸hi)) _ _ _⟩,fun b' m hm=>by
    by_cases hbb':b'=b
    . subst hbb';unfold World.bsize at hm⊢;rw [hnew];rw [hcell] at hm;simp at hm⊢;rw [q0u (by omega)];exact hm
    unfold World.bsize at hm⊢;rw [q0B hbb'];exact hm⟩
   exact q0h he (q4s hd hy)⟩
 refine ⟨_,undef,_,_,hk,.inr ⟨?_,rfl⟩,g1,g2,by rw [SV.den];trivial⟩;have hsz:(e y).cells.size=n:=by rw [<-Au];exact hlen
 simp [execOp,hop,hx,Instr.storeAt,Instr.sureAddr,Result.andThen,storeVar,q0m hs,hsz,hrun]
def ZSt(E:EnD)(C:Cx)(H:List SObj)(b off:Nat)(us:List Value):Prop:=∃ (vs:List Value) (T:TypeId) (fz:Nat×Nat),C.w.heap[b]?=some (.cells vs.toArray T fz)∧off+us.length<=vs.length∧(∀j,j<us.length->¬(fz.1<=off+j∧off+j<fz.2))∧
 Wd {C with w:=C.w.setCells b off us} H∧Stp E C H {C with w:=C.w.setCells b off us} H
def j4R{ty:TypeId}{y:Operand}{ds:List SV}(hop:o.op= .store ty x y)(hs:(P.info? ty).map (·.size)=some n)(he:ev x= .raw (.pointer (some ⟨b,off,none⟩)))
 (hf:(ev y).flat=some ds)(hn:ds.length=n)(h1:ones ds=true)(h:∀E C us,Wd C H->Ghost.inv E C H->SV.denL C ds us->ZSt E C H b off us)(hk:K (.ret .any) H):OpV P o ev H K:=by
 refine z3w (by rw [hop];intro c hc;cases hc) fun E C e hw hg hv=> ?_;have hx:=hv x (by rw [hop];simp [Op.operands]);have hy:=q3s hf (hv y (by rw [hop];simp [Op.operands]));rw [he,SV.den] at hx;have hlen:(e y).cells.toList.length=n:=by rw [q0A hy,hn]
 obtain ⟨vs,T,fz,hcell,hfit,hfz,g1,g2⟩:=h E C _ hw hg hy;have hrun:(storeCells ⟨b,off,none⟩ (e y).cells.toList 0).run P C.w= .ok () (C.w.setCells b (off+0) (e y).cells.toList):=run_storeCells_cells b off _ 0 C.w
  (fun j hj=>by rw [q0o hcell];rw [Ac (by omega)];rfl)
  (fun j hj=>by
   have:=hfz j hj;simp only [World.frozen?,hcell];rw [BU];simp only [decide_eq_false_iff_not]
   omega) (q4S h1 hy)
 rw [AB] at hrun;refine ⟨.any,undef,H,_,hk,.inr ⟨?_,rfl⟩,g1,g2,by rw [SV.den];trivial⟩;have hsz:(e y).cells.size=n:=by rw [<-Au];exact hlen
 simp [execOp,hop,hx,Instr.storeAt,Instr.sureAddr,Result.andThen,storeVar,q0m hs,hsz,hrun]
end
section

variable [Ghost] {P:Program} {o:Oper} {ev:Operand->SV} {H:List SObj} {K:Out->List SObj->Prop}

theorem q9h(x y:ByteArray):(x.toList==y.toList)=decide (x=y):=by
 rw [B5];simp only [beq_iff_eq,decide_eq_true_eq,ByteArray.toList_eq];constructor
 . intro h;cases x;cases y;simp at h;simp [h]
 rintro rfl;rfl

def xorK(k:IntKind)(a b:Int):Int:=k.wrap ((BitVec.ofInt k.bits a^^^ BitVec.ofInt k.bits b).toNat:Int)
def orK(k:IntKind)(a b:Int):Int:=k.wrap ((BitVec.ofInt k.bits a|||BitVec.ofInt k.bits b).toNat:Int)
def andK(k:IntKind)(a b:Int):Int:=k.wrap ((BitVec.ofInt k.bits a&&& BitVec.ofInt k.bits b).toNat:Int)
def binV(op:BinOp):Value->Value->Option (Value×Prop)
 |.int k a,.int k' b=>match op with
  |.shl=>some (.int k (k.wrap (a*2^ min b.toNat k.bits)),0<=b)
  |.shr=>some (.int k (a.fdiv (2^ min b.toNat k.bits)),0<=b)
  |.add=>if k=k' then some (.int k (k.wrap (a+b)),True) else none
  |.sub=>if k=k' then some (.int k (k.wrap (a-b)),True) else none
  |.mul=>if k=k' then some (.int k (k.wrap (a*b)),True) else none
  |.quo=>if k=k' then some (.int k (k.wrap (a.tdiv b)),b≠0) else none
  |.rem=>if k=k' then some (.int k (a.tmod b),b≠0) else none
  |.and=>if k=k' then some (.int k (andK k a b),True) else none
  |.or=>if k=k' then some (.int k (orK k a b),True) else none
  |.xor=>if k=k' then some (.int k (xorK k a b),True) else none
  |.andNot=>if k=k' then some (.int k (k.wrap (BitVec.ofInt k.bits a&&& ~~~(BitVec.ofInt k.bits b)).toNat),True) else none
  |.eql=>if k=k' then some (.bool (decide (a=b)),True) else none
  |.neq=>if k=k' then some (.bool (!decide (a=b)),True) else none
  |.lss=>if k=k' then some (.bool (decide (a<b)),True) else none
  |.leq=>if k=k' then some (.bool (decide (a<=b)),True) else none
  |.gtr=>if k=k' then some (.bool (decide (b<a)),True) else none
  |.geq=>if k=k' then some (.bool (decide (b<=a)),True) else none
 |.string a,.string b=>match op with
  |.eql=>some (.bool (decide (a=b)),True)
  |.neq=>some (.bool (!decide (a=b)),True)
  |.add=>some (.string (a++b),a.size+b.size<=9223372036854775807)
  |_=>none
 |_,_=>none

variable {op:BinOp}{p:Prop}{t:TypeId}
theorem z9d{x y v:Value}(h:binV op x y=some (v,p))(hp:p)(w:World):(binOp op t x y).run P w= .ok v w:=by
 unfold binV at h;split at h
 . rename_i k a k' b;have hn:¬(k'≠k'):=fun h=>h rfl;split at h<;> (try split at h) <;>first| (cases h;done) |skip
   all_goals (first|subst_vars|skip)
   all_goals (cases h)
   all_goals (first| (simp [binOp,Op.intArith,Op.intDiv,Op.intBits,Op.intCmp,xorK,andK,orK,hp];done) | (simp [binOp,Op.shift,Da.2 hp];done) | (simp only [binOp];rw [if_neg hn];rfl))
 . rename_i a b;split at h
   . cases h;simp [binOp,Op.stringOp,q9h]
   . cases h;simp [binOp,Op.stringOp,q9h]
   . cases h;have:¬(((a.size+b.size:Nat):Int) >IntKind.i64.max):=by
      have:IntKind.i64.max=9223372036854775807:=by decide
      rw [this];omega
     simp only [binOp,Op.stringOp];rw [if_neg this];rfl
   cases h
 cases h

variable {x:Operand}
def q9w{y:Operand}{a b v:Value}(h:binV op a b=some (v,p))(w:World):(eqGuard op t x y a b).run P w= .ok () w:=by
 unfold binV at h;split at h
 . unfold eqGuard;split<;>simp
 . unfold eqGuard;split<;>simp
 cases h

def j4H{t':TypeId}{y:Operand}{a b v:Value}(hop:o.op= .binOp op t x y t')(hx:ev x= .raw a)(hy:ev y= .raw b)(h:binV op a b=some (v,p))(hp:p)(hk:K (.ret (.raw v)) H):OpV P o ev H K:=by refine q0l (by rw [hop];intro c hc;cases hc) (fun C e _ hv=> ?_) hk;have h0:=hv x (by rw [hop];simp [Op.operands]);have h1:=hv y (by rw [hop];simp [Op.operands]);rw [hx,SV.den] at h0;rw [hy,SV.den] at h1;refine ⟨v,?_,by rw [SV.den]⟩;simp [execOp,hop,h0,h1,q9w h,z9d h hp,Result.andThen]

def eqV:SV->SV->Option Bool
 |.ptr ..,.raw (.pointer none)=>some false
 |.iptr ..,.raw (.pointer none)=>some false
 |.rptr ..,.raw (.pointer none)=>some false
 |.raw (.pointer none),.raw (.pointer none)=>some true
 |.fn ..,.raw .nilFunc=>some false
 |.raw .nilFunc,.raw .nilFunc=>some true
 |.raw (.bool a),.raw (.bool b)=>some (decide (a=b))
 |_,_=>none
def kPtr(P:Program)(t:TypeId):Bool:=match P.underlying t with|some (.pointer _)=>true|_=>false
def kFunc(P:Program)(t:TypeId):Bool:=match P.underlying t with|some (.func _ _ _)=>true|_=>false
def kBool(P:Program)(t:TypeId):Bool:=match P.underlying t with|some .bool=>true|_=>false
def eqKind(P:Program)(t:TypeId):SV->Bool
 |.raw (.pointer none)=>kPtr P t
 |.raw .nilFunc=>kFunc P t
 |.raw (.bool _)=>kBool P t
 |_=>false
theorem q9J(h:kPtr P t=true):∃e,P.underlying t=some (.pointer e):=by unfold kPtr at h;split at h;exact ⟨_,by assumption⟩;cases h
theorem z3d(h:kFunc P t=true):∃a b c,P.underlying t=some (.func a b c):=by unfold kFunc at h;split at h;exact ⟨_,_,_,by assumption⟩;cases h
theorem z9f(h:kBool P t=true):P.underlying t=some .bool:=by unfold kBool at h;split at h;assumption;cases h


variable {r:Bool}
theorem j4i{s u:SV}{x y:Value}(hx:s.den C x)(hy:u.den C y)(h:eqV s u=some r)(ht:eqKind P t u=true)(w:World)(n:Nat):(Op.equalIn (n+1) t x y).run P w= .ok r w:=by
 have key:∀ {d:TypeDesc},P.underlying t=some d->(underlying t).run P w= .ok d w:=fun hd=>by simp [underlying,hd]
 unfold eqV at h;split at h<;>cases h<;>simp only [eqKind] at ht<;>simp only [SV.den] at hx hy
 . obtain ⟨_,b,_,rfl⟩:=hx;subst hy;obtain ⟨d,hu⟩:=q9J ht;simp [Op.equalIn,key hu]
 . obtain ⟨b,off,vs,rfl,_⟩:=hx;subst hy;obtain ⟨d,hu⟩:=q9J ht;simp [Op.equalIn,key hu]
 . obtain ⟨_,b,_,rfl⟩:=hx;subst hy;obtain ⟨d,hu⟩:=q9J ht;simp [Op.equalIn,key hu]
 . subst hx hy;obtain ⟨d,hu⟩:=q9J ht;simp [Op.equalIn,key hu]
 . obtain ⟨_,_,rfl,_⟩:=hx;subst hy;obtain ⟨_,_,_,hu⟩:=z3d ht;simp [Op.equalIn,key hu]
 . subst hx hy;obtain ⟨_,_,_,hu⟩:=z3d ht;simp [Op.equalIn,key hu]
 subst hx hy;have hu:=z9f ht;simp [Op.equalIn,key hu];rfl

def q7T{y:Operand}{s u:SV}{a b:Value}(hx:s.den C a)(hy:u.den C b)(h:eqV s u=some r)(w:World):(eqGuard op t x y a b).run P w= .ok () w:=by
 unfold eqV at h;split at h<;>cases h<;>simp only [SV.den] at hx hy
 . obtain ⟨_,b,_,rfl⟩:=hx;subst hy;unfold eqGuard;split<;>simp
 . obtain ⟨b,off,vs,rfl,_⟩:=hx;subst hy;unfold eqGuard;split<;>simp
 . obtain ⟨_,b,_,rfl⟩:=hx;subst hy;unfold eqGuard;split<;>simp
 . subst hx hy;unfold eqGuard;split<;>simp
 . obtain ⟨_,_,rfl,_⟩:=hx;subst hy;unfold eqGuard;split<;>simp
 . subst hx hy;unfold eqGuard;split<;>simp
 subst hx hy;unfold eqGuard;split<;>simp

def q9R{s u:SV}{x y:Value}(hx:s.den C x)(hy:u.den C y)(h:eqV s u=some r)(ht:eqKind P t u=true)(w:World):
 (binOp .eql t x y).run P w= .ok (.bool r) w∧(binOp .neq t x y).run P w= .ok (.bool !r) w:=by
 have hr:(Op.equal t x y).run P w= .ok r w:=j4i hx hy h ht w 9999;unfold eqV at h;split at h<;>cases h<;>simp only [SV.den] at hx hy
 . obtain ⟨_,b,_,rfl⟩:=hx;subst hy;simp [binOp,hr]
 . obtain ⟨b,off,vs,rfl,_⟩:=hx;subst hy;simp [binOp,hr]
 . obtain ⟨_,b,_,rfl⟩:=hx;subst hy;simp [binOp,hr]
 . subst hx hy;simp [binOp,hr]
 . obtain ⟨_,_,rfl,_⟩:=hx;subst hy;simp [binOp,hr]
 . subst hx hy;simp [binOp,hr]
 subst hx hy;simp [binOp,hr]

def z7d{t':TypeId}{y:Operand}(hop:o.op= .binOp op t x y t')(ho:op= .eql∨op= .neq)(h:eqV (ev x) (ev y)=some r)(ht:eqKind P t (ev y)=true)
 (hk:K (.ret (.raw (.bool (if op= .eql then r else !r)))) H):OpV P o ev H K:=by
 refine q0l (by rw [hop];intro c hc;cases hc) (fun C e _ hv=> ?_) hk;have h0:=hv x (by rw [hop];simp [Op.operands]);have h1:=hv y (by rw [hop];simp [Op.operands]);refine ⟨.bool (if op= .eql then r else !r),?_,by rw [SV.den]⟩;obtain ⟨g1,g2⟩:=q9R h0 h1 h ht C.w;rcases ho with rfl|rfl
 . simp [execOp,hop,q7T h0 h1 h,g1,Result.andThen]
 simp [execOp,hop,q7T h0 h1 h,g2,Result.andThen]

def unV(op:UnOp):Value->Option Value
 |.bool b=>match op with|.not=>some (.bool !b) |_=>none
 |.int k n=>match op with
  |.neg=>some (.int k (k.wrap (0-n)))
  |.xor=>some (.int k (k.wrap (BitVec.ofInt k.bits (if k.signed then -1 else k.max) ^^^ BitVec.ofInt k.bits n).toNat))
  |_=>none
 |_=>none
variable {op:UnOp}
def j3A{x v:Value}(h:unV op x=some v)(w:World):(Op.unary op x).run P w= .ok v w:=by
 unfold unV at h;split at h
 . split at h<;>cases h;simp [Op.unary]
 . split at h<;>cases h
   . simp [Op.unary,Op.intArith]
   simp [Op.unary,Op.intBits]
 cases h
def j6V{a v:Value}(hop:o.op= .unOp op t x)(hx:ev x= .raw a)(h:unV op a=some v)(hk:K (.ret (.raw v)) H):OpV P o ev H K:=by refine q0l (by rw [hop];intro c hc;cases hc) (fun C e _ hv=> ?_) hk;have h0:=hv x (by rw [hop];simp [Op.operands]);rw [hx,SV.den] at h0;exact ⟨v,by simp [execOp,hop,h0,j3A h,Result.andThen],by rw [SV.den]⟩

variable {d:TypeDesc}
def run_underlying'(h:P.underlying t=some d)(w:World):(underlying t).run P w= .ok d w:=by simp [underlying,h]

def z0Q{src dst:TypeId}{k k':IntKind}{n:Int}(hop:o.op= .convert src dst x)(hs:P.underlying src=some d)(ht:P.underlying dst=some (.int k))(hx:ev x= .raw (.int k' n))
 (hk:K (.ret (.raw (.int k (k.wrap n)))) H):OpV P o ev H K:=by
 refine q0l (by rw [hop];intro c hc;cases hc) (fun C e _ hv=> ?_) hk;have h0:=hv x (by rw [hop];simp [Op.operands]);rw [hx,SV.den] at h0;exact ⟨.int k (k.wrap n),by simp [execOp,hop,h0,convert,run_underlying' hs,run_underlying' ht,Conv.intToInt,Result.andThen],by rw [SV.den]⟩

def z1e{src dst:TypeId}{s:ByteArray}(hop:o.op= .convert src dst x)(hs:P.underlying src=some d)(ht:P.underlying dst=some .string)(hx:ev x= .raw (.string s))
 (hk:K (.ret (.raw (.string s))) H):OpV P o ev H K:=by
 refine q0l (by rw [hop];intro c hc;cases hc) (fun C e _ hv=> ?_) hk;have h0:=hv x (by rw [hop];simp [Op.operands]);rw [hx,SV.den] at h0;exact ⟨.string s,by simp [execOp,hop,h0,convert,run_underlying' hs,run_underlying' ht,Result.andThen],by rw [SV.den]⟩

def strOf(xs:List UInt8):ByteArray:=⟨xs.toArray⟩

end
section

variable [Ghost] {P:Program} {o:Oper} {ev:Operand->SV} {H:List SObj} {K:Out->List SObj->Prop}

def q8q:∀ (xs:List UInt8) (acc:ByteArray),(xs.map fun c=>(c.toNat:Int)).foldl (fun r n=>r.push (UInt8.ofNat n.toNat)) acc=⟨acc.data++xs.toArray⟩
 | [],acc=>by cases acc;simp
 |c :: xs,acc=>by simp only [AC,Bq];rw [q8q xs];simp [ByteArray.push]

variable {xs:List UInt8}{v:Value}
def q1W(h:(SV.isl .u8 xs).den C v):(Conv.bytesToString v).run P C.w= .ok (.string (strOf xs)) C.w:=by
 rw [SV.den] at h;obtain ⟨A,n,c,e,rfl,_,_,h⟩:=h;cases e;rcases h with rfl| ⟨b,off,rfl,_,h⟩
 . cases A with
   |none=>simp [Conv.bytesToString,strOf];rfl
   |some a=>have:=run_bytesToString (P:=P) C.w a 0 c [] (by simp [loadCells,loadCellsFrom]);rw [show strOf []=ByteArray.empty from rfl];simpa using this
 have hl:(loadCells ⟨b,off,none⟩ xs.length).run P C.w= .ok ((xs.map fun c=>(c.toNat:Int)).map (Value.int .u8)).toArray C.w:=by
  have:=run_loadCells_list (P:=P) C.w ⟨b,off,none⟩ ((xs.map fun c=>(c.toNat:Int)).map (Value.int .u8)) (fun j v hj=>by
   rw [q0I];simp only [BS,AF] at hj;cases hx:xs[j]? with
   |none=>simp [hx] at hj
   |some x=>
    simp [hx] at hj;obtain ⟨us,hr,hc⟩:=h j x hx;simp only [Ty.rel] at hr;subst hr;have:=hc 0 _ rfl;simp only [Ty.size,AD,AB] at this
    rw [this,hj])
  simpa using this
 rw [run_bytesToString C.w _ _ _ _ hl,q8q];simp [strOf]

variable {x:Operand}{e':TypeId}
def q8i{src dst:TypeId}(hop:o.op= .convert src dst x)(hs:P.underlying src=some (.slice e'))(ht:P.underlying dst=some .string)(he:P.underlying e'=some (.int .u8))(hx:ev x= .isl .u8 xs)
 (hk:K (.ret (.raw (.string (strOf xs)))) H):OpV P o ev H K:=by
 refine q0l (by rw [hop];intro c hc;cases hc) (fun C e _ hv=> ?_) hk;have h0:=hv x (by rw [hop];simp [Op.operands]);rw [hx] at h0;have hb:=q1W (P:=P) h0;rw [SV.den] at h0;obtain ⟨A,n,c,e0,_⟩:=h0;simp only [List.cons.injEq,and_true] at e0;rw [e0] at hb;exact ⟨.string (strOf xs),by simp [execOp,hop,e0,convert,run_underlying' hs,run_underlying' ht,run_underlying' he,hb,Result.andThen],by rw [SV.den]⟩

theorem q7h{src dst:TypeId}(hop:o.op= .convert src dst x)(hs:P.underlying src=some (.slice e'))(ht:P.underlying dst=some .string)(he:P.underlying e'=some (.int .u8))(hx:ev x= .raw (.slice none 0 0))
 (hk:K (.ret (.raw (.string (strOf [])))) H):OpV P o ev H K:=by
 refine q0l (by rw [hop];intro c hc;cases hc) (fun C e _ hv=> ?_) hk;have h0:=hv x (by rw [hop];simp [Op.operands]);rw [hx,SV.den] at h0;exact ⟨.string (strOf []),by simp [execOp,hop,h0,convert,run_underlying' hs,run_underlying' ht,run_underlying' he,Conv.bytesToString,Result.andThen];rfl,by rw [SV.den]⟩

def fieldOf(P:Program)(t:TypeId)(f:Nat):Option (Nat×TypeId):=
 match P.underlying t with
 |some (.struct fs)=>(fs[f]?).map fun x=>(x.offset,x.type)
 |_=>none
variable {t:TypeId}
theorem q5O{f:Nat}{ft:TypeId}(h:fieldOf P t f=some (off,ft)):∃fs x,P.underlying t=some (.struct fs)∧fs[f]?=some x∧x.offset=off∧x.type=ft:=by
 unfold fieldOf at h;split at h
 . rename_i fs hu;cases hx:fs[f]? with
   |none=>simp [hx] at h
   |some x=>simp [hx] at h;exact ⟨fs,x,hu,hx,h.1,h.2⟩
 cases h

def SV.add:SV->Nat->Option SV
 |.ptr h off,n=>some (.ptr h (off+n))
 |.iptr t x k,n=>some (.iptr t x (k+n))
 |.rptr h t i k,n=>some (.rptr h t i (k+n))
 |.raw (.pointer (some ⟨b,o,none⟩)),n=>some (.raw (.pointer (some ⟨b,o+n,none⟩)))
 |_,_=>none
variable {s:SV}
theorem q6Z{s':SV}(h:s.add n=some s')(hd:s.den C v):∃b o,v= .pointer (some ⟨b,o,none⟩)∧s'.den C (.pointer (some ⟨b,o+n,none⟩)):=by
 unfold SV.add at h;split at h<;>cases h<;>rw [SV.den] at hd
 . obtain ⟨hn,b,hb,rfl⟩:=hd;exact ⟨b,_,rfl,by rw [SV.den];exact ⟨hn,b,hb,rfl⟩⟩
 . obtain ⟨b,off,vs,rfl,h1,h2,h3⟩:=hd;exact ⟨b,_,rfl,by rw [SV.den];exact ⟨b,off,vs,by rw [Nat.add_assoc],h1,h2,h3⟩⟩
 . obtain ⟨hn,b,hb,rfl⟩:=hd;exact ⟨b,_,rfl,by rw [SV.den];exact ⟨hn,b,hb,by rw [Nat.add_assoc]⟩⟩
 subst hd;exact ⟨_,_,rfl,by rw [SV.den]⟩

def q8R{f:Nat}{ft:TypeId}(hop:o.op= .fieldAddr t x f)(hf:fieldOf P t f=some (off,ft))(hs:(P.info? ft).map (·.size)=some (n+1))(ha:(ev x).add off=some s)(hk:K (.ret s) H):OpV P o ev H K:=by refine q0l (by rw [hop];intro c hc;cases hc) (fun C e _ hv=> ?_) hk;obtain ⟨b,p,hx,hd⟩:=q6Z ha (hv x (by rw [hop];simp [Op.operands]));obtain ⟨fs,y,hu,hy,rfl,rfl⟩:=q5O hf;exact ⟨_,by simp [execOp,hop,hx,Instr.fieldAt,run_underlying' hu,hy,Instr.sureAddr,fieldPlace,q0m hs,q0I,Result.andThen],hd⟩

variable {ag:Option Nat}
def q4T(ht:aggOf P t=some ag){cs:List SV}{vs:List Value}(hd:SV.denL C cs vs)(hp:pick cs off ag=some s)(w:World):∃v,(part t vs.toArray off).run P w= .ok v w∧s.den C v:=by
 cases ag with
 |none=>simp only [pick] at hp;obtain ⟨v,hv,hs⟩:=q1Z hd hp;exact ⟨v,by simp [part,q2z ht,hv,Result.andThen],hs⟩
 |some n=>
  simp only [pick] at hp;split at hp
  . cases hp;refine ⟨.agg ((vs.drop off).take n).toArray,?_,by rw [SV.den];exact ⟨_,rfl,q5i n (q5r off hd)⟩⟩;simp [part,q2z ht,q0m (q8s ht),Result.andThen,List.take_drop]
  cases hp

def z8x{f:Nat}{ft:TypeId}{l:List SV}(hop:o.op= .field t x f)(hf:fieldOf P t f=some (off,ft))(ht:aggOf P ft=some ag)(hx:ev x= .agg l)(hp:pick l off ag=some s)(hk:K (.ret s) H):OpV P o ev H K:=by refine q0l (by rw [hop];intro c hc;cases hc) (s:=s) (fun C e _ hv=> ?_) hk;have h0:=hv x (by rw [hop];simp [Op.operands]);rw [hx,SV.den] at h0;obtain ⟨vs,h0,hl⟩:=h0;obtain ⟨fs,y,hu,hy,rfl,rfl⟩:=q5O hf;obtain ⟨v,h1,h2⟩:=q4T ht hl hp C.w;exact ⟨v,by simp [execOp,hop,h0,Instr.field,run_underlying' hu,hy,asAgg,h1,Result.andThen],h2⟩

variable {k:IntKind}{n:Int}
def q9O{i:Operand}{s:ByteArray}(hop:o.op= .index t x i)(ht:P.underlying t=some .string)(hx:ev x= .raw (.string s))(hi:ev i= .raw (.int k n))(h0:0<=n)(hb:n.toNat<s.size)
 (hk:K (.ret (.raw (.int .u8 (s.data.toList.getD n.toNat 0).toNat))) H):OpV P o ev H K:=by
 refine q0l (by rw [hop];intro c hc;cases hc) (fun C e _ hv=> ?_) hk;have h1:=hv x (by rw [hop];simp [Op.operands]);have h2:=hv i (by rw [hop];simp [Op.operands]);rw [hx,SV.den] at h1;rw [hi,SV.den] at h2;refine ⟨.int .u8 (s.data.toList.getD n.toNat 0).toNat,?_,by rw [SV.den]⟩;have hg:s[n.toNat]?=some (s.data.toList.getD n.toNat 0):=by rw [getElem?_pos s n.toNat hb];have:n.toNat<s.data.size:=hb;simp only [Aa,CA,BL this];rfl
 simp [execOp,hop,h1,h2,Instr.index,asIntOf,run_underlying' ht,h0,hg,Result.andThen]

theorem q5C{i:Operand}{ty:Ty}{xs:List ty.den}(hop:o.op= .indexAddr t x i)(ht:P.underlying t=some (.slice e'))(hs:(P.info? e').map (·.size)=some ty.size)(hx:ev x= .isl ty xs)(hi:ev i= .raw (.int k n))
 (h0:0<=n)(hb:n.toNat<xs.length)(hk:ty.ok (xs.getD n.toNat ty.dflt)->K (.ret (.iptr ty (xs.getD n.toNat ty.dflt) 0)) H):OpV P o ev H K:=by
 refine q0O (by rw [hop];intro c hc;cases hc) fun C e hw hv=> ?_;have h1:=hv x (by rw [hop];simp [Op.operands]);have h2:=hv i (by rw [hop];simp [Op.operands]);rw [hx,SV.den] at h1;rw [hi,SV.den] at h2;obtain ⟨A,m,c,e0,rfl,hc,hm,h1⟩:=h1;simp only [List.cons.injEq,and_true] at e0;have hg:xs[n.toNat]?=some (xs.getD n.toNat ty.dflt):=by rw [Aa,Ac hb];rfl
 rcases h1 with rfl| ⟨b,off,rfl,hI,h1⟩
 . simp at hb
 obtain ⟨us,hr,hcell⟩:=h1 _ _ hg;refine ⟨_,.pointer (some ⟨b,off+n.toNat*ty.size,none⟩),H,C,hk (Ty.rel_ok _ _ _ hr),.inl ?_,hw,Ext.refl _ _,?_⟩
 . have hlt:n< (xs.length:Int):=by omega
   simp [execOp,hop,e0,h2,Instr.indexAt,asIntOf,run_underlying' ht,h0,hlt,q0m hs,q0I,Result.andThen]
 rw [SV.den];exact ⟨b,off+n.toNat*ty.size,us,rfl,hI,hr,hcell⟩

def q5R{i:Operand}{m c sz:Nat}(hop:o.op= .indexAddr t x i)(ht:P.underlying t=some (.slice e'))(hs:(P.info? e').map (·.size)=some sz)
 (hx:ev x= .raw (.slice (some ⟨b,off,none⟩) m c))(hi:ev i= .raw (.int k n))(h0:0<=n)(hb:n.toNat<m)(hk:K (.ret (.raw (.pointer (some ⟨b,off+n.toNat*sz,none⟩)))) H):OpV P o ev H K:=by
 refine q0l (by rw [hop];intro c hc;cases hc) (fun C e _ hv=> ?_) hk;have h1:=hv x (by rw [hop];simp [Op.operands]);have h2:=hv i (by rw [hop];simp [Op.operands]);rw [hx,SV.den] at h1;rw [hi,SV.den] at h2;refine ⟨.pointer (some ⟨b,off+n.toNat*sz,none⟩),?_,by rw [SV.den]⟩;have hlt:n< (m:Int):=by omega
 simp [execOp,hop,h1,h2,Instr.indexAt,asIntOf,run_underlying' ht,h0,hlt,q0m hs,q0I,Result.andThen]

def q3c{i:Operand}{ty:Ty}{h m:Nat}(hop:o.op= .indexAddr t x i)(ht:P.underlying t=some (.slice e'))(hs:(P.info? e').map (·.size)=some ty.size)
 (hx:ev x= .osl h ty off m∨(ev x= .bld h ty m∧off=0))(hi:ev i= .raw (.int k n))
 (h0:0<=n)(hb:n.toNat<m)(hk:K (.ret (.rptr h ty (off+n.toNat) 0)) H):OpV P o ev H K:=by
 refine q0l (by rw [hop];intro c hc;cases hc) (fun C e _ hv=> ?_) hk;have h1:=hv x (by rw [hop];simp [Op.operands]);have h2:=hv i (by rw [hop];simp [Op.operands]);rw [hi,SV.den] at h2;have h1:h<C.n∧∃b c,C.ρ h=some b∧e x= .slice (some ⟨b,off*ty.size,none⟩) m c:=by
  rcases hx with hx| ⟨hx,rfl⟩ <;>rw [hx,SV.den] at h1
  . obtain ⟨hn,A,c,hv',_,h1⟩:=h1;rcases h1 with rfl| ⟨b,hb',rfl⟩
    . omega
    exact ⟨hn,b,c,hb',hv'⟩
  obtain ⟨hn,⟨_,rfl,_⟩ | ⟨b,c,_,hb',hv',_⟩⟩:=h1
  . omega
  exact ⟨hn,b,c,hb',by rw [hv',BF]⟩
 obtain ⟨hn,b,c,hb',hv'⟩:=h1;refine ⟨.pointer (some ⟨b,(off+n.toNat)*ty.size+0,none⟩),?_,by rw [SV.den];exact ⟨hn,b,hb',rfl⟩⟩;have hlt:n< (m:Int):=by omega
 simp [execOp,hop,hv',h2,Instr.indexAt,asIntOf,run_underlying' ht,h0,hlt,q0m hs,q0I,Nat.add_mul,Result.andThen]

def SV.len:SV->Option Int
 |.isl _ xs=>some xs.length
 |.bld _ _ n=>some n
 |.osl _ _ _ n=>some n
 |.csl _ _ _ _ n=>some n
 |.raw (.slice _ n _)=>some n
 |.raw (.string s)=>some s.size
 |_=>none
def lenKind(P:Program)(t:TypeId):SV->Bool
 |.raw (.string _)=>match P.underlying t with|some .string=>true|_=>false
 |_=>match P.underlying t with|some (.slice _)=>true|_=>false
variable {c:Call}
theorem j2V(hop:o.op= .call c)(hc:c.callee= .builtin .len)(ha:c.args= #[x])(hty:c.argTypes= #[t])(hl:(ev x).len=some n)(hkd:lenKind P t (ev x)=true)
 (hk:K (.ret (.raw (.int .i64 n))) H):OpV P o ev H K:=by
 refine q0l (by rw [hop];intro c hc;cases hc) (fun C e _ hv=> ?_) hk;have h0:=hv x (by rw [hop];simp [Op.operands,Call.operands,hc,ha]);refine ⟨.int .i64 n,?_,by rw [SV.den]⟩;have hrun:(Builtin.len_ #[t] o.type #[e x]).run P C.w= .ok (.int .i64 n) C.w:=by
  generalize ev x=s at*;unfold SV.len at hl;split at hl<;>cases hl<;>unfold lenKind at hkd<;>simp only at hkd<;> (split at hkd<;>first| (cases hkd;done) |skip) <;>rename_i hu<;>rw [SV.den] at h0
  . obtain ⟨A,m,c,e0,rfl,_⟩:=h0;simp only [List.cons.injEq,and_true] at e0;simp [Builtin.len_,e0,run_underlying' hu,goInt,Result.andThen]
  . obtain ⟨_,⟨_,rfl,e0⟩ | ⟨_,_,_,_,e0,_⟩⟩:=h0<;>simp [Builtin.len_,e0,run_underlying' hu,goInt,Result.andThen]
  . obtain ⟨_,_,_,e0,_⟩:=h0;simp [Builtin.len_,e0,run_underlying' hu,goInt,Result.andThen]
  . obtain ⟨_,_,_,e0,_⟩:=h0;simp [Builtin.len_,e0,run_underlying' hu,goInt,Result.andThen]
  . simp [Builtin.len_,h0,run_underlying' hu,goInt,Result.andThen]
  simp [Builtin.len_,h0,run_underlying' hu,goInt,Result.andThen]
 simp [execOp,hop,resolve,hc,ha,hty,invoke,builtin,hrun,Result.andThen]

def enters(P:Program)(f:FuncId):Bool:=match P.funcs[f]? with
 |some fn=> !(fn.name== "runtime.NumGoroutine") && fn.body.isSome
 |none=>false
variable {f:FuncId}
def q3d(h:enters P f=true)(args:Array Value)(w:World):(callFunc f args).run P w= .ok (.enter f args) w:=by
 unfold enters at h;cases hf:P.funcs[f]? with
 |none=>simp [hf] at h
 |some fn=>
  simp [hf] at h;have hb:fn.body.isNone=false:=by simp [h.2]
  have hb':¬fn.body=none:=by intro hn;simp [hn] at h
  simp [callFunc,hf,h.1,hb']

variable {g:Operand}
theorem j1A{fi ca:List SV}(hop:o.op= .call c)(hc:c.callee= .value g)(hg:ev g= .fn f fi ca)(hf:enters P f=true)
 (h:VCallG P f (fi++c.args.toList.map ev++ca) H K):OpV P o ev H K:=by
 intro E C r n a next Q hw hgh hv h1 h2
 have h0:=hv g (by rw [hop];simp [Op.operands,Call.operands,hc]);rw [hg,SV.den] at h0;obtain ⟨v1,v2,h0,d1,d2⟩:=h0;have da:SV.denL C (c.args.toList.map ev) (c.args.toList.map a.eval):=q1R _ fun x hx=>hv x (by rw [hop];simp [Op.operands,Call.operands];exact .inr (by simpa using hx));refine ⟨fun f _=>q4U r f,?_⟩;rw [Oper.semAt_eq _ _ _ (by rw [hop];intro c hc;cases hc)];have hrun:(execOp a.eval o).run P C.w= .ok (.enter f (v1++c.args.toList.map a.eval++v2).toArray) C.w:=by simp [execOp,hop,resolve,hc,h0,Deferred.ofValue,invoke,q3d hf]
 rw [hrun];refine ⟨(fun hd=>by cases hd),q3Q ?_⟩;refine (h E C _ hw hgh (q0x.2 ⟨_,_,rfl,q0x.2 ⟨_,_,rfl,d1,da⟩,d2⟩)).mono ?_;rintro e w' ⟨out,H',C',hk,rfl,hw',hx,hd⟩;cases out with
 |ret s=>obtain ⟨v,rfl,hs⟩:=hd;exact h1 s v H' C' hk hw' hx hs
 |pan s=>obtain ⟨v,rfl,hs⟩:=hd;exact h2 s v H' C' hk hw' hx hs

theorem z6E{T:TypeId}(hop:o.op= .panic x)(hx:ev x= .iface T s)(hk:K (.pan (.iface T s)) H):OpV P o ev H K:=by
 intro E C r n a next Q hw _ hv h1 h2
 have h0:=hv x (by rw [hop];simp [Op.operands]);rw [hx] at h0;have h0':=h0;rw [SV.den] at h0;obtain ⟨u,h0,_⟩:=h0;refine ⟨fun f _=>q4U r f,?_⟩;rw [Oper.semAt_eq _ _ _ (by rw [hop];intro c hc;cases hc)];have hrun:(execOp a.eval o).run P C.w= .halt (.panic (.iface T u)) C.w:=by simp [execOp,hop,h0,Instr.panic,Result.andThen]
 rw [hrun];rw [h0] at h0';exact h2 _ _ H C hk hw (.of (Ext.refl _ _)) h0'

def mxV(b:Bool)(x y:Int):Int:=if b then (if y>x then y else x) else (if y<x then y else x)
def j2d{b:Bool}{y:Operand}{m:Int}(hop:o.op= .call c)(hc:c.callee= .builtin (if b then .max else .min))(ha:c.args= #[x,y]){k':IntKind}(hx:ev x= .raw (.int k m))(hy:ev y= .raw (.int k' n))
 (hk:K (.ret (.raw (.int k (mxV b m n)))) H):OpV P o ev H K:=by
 refine q0l (by rw [hop];intro c hc;cases hc) (fun C e _ hv=> ?_) hk;have h0:=hv x (by rw [hop];simp [Op.operands,Call.operands,hc,ha]);have h1:=hv y (by rw [hop];simp [Op.operands,Call.operands,hc,ha]);rw [hx,SV.den] at h0;rw [hy,SV.den] at h1;refine ⟨.int k (mxV b m n),?_,by rw [SV.den]⟩;cases b
 . simp [execOp,hop,resolve,hc,ha,h0,h1,invoke,builtin,Builtin.min_,Builtin.min2,mxV,Result.andThen]
 simp [execOp,hop,resolve,hc,ha,h0,h1,invoke,builtin,Builtin.max_,Builtin.max2,mxV,Result.andThen]

def isYld:Value->Option Nat
 |.func (.yield l) a b=>if a.size=0∧b.size=0 then some l else none
 |_=>none
theorem z9R{l:Nat}(h:isYld v=some l):v= .func (.yield l) #[] #[]:=by
 unfold isYld at h;split at h
 . split at h
   . rename_i hs;cases h;rw [A0 hs.1,A0 hs.2]
   cases h
 cases h
def VYld(P:Program)(l:Nat)(args:List SV)(H:List SObj)(K:Out->List SObj->Prop):Prop:=
 ∀ (E:EnD) (C:Cx) (vs:List Value),Wd C H->Ghost.inv E C H->SV.denL C args vs->
  ∃f tmps assign body,(Instr.yield l vs.toArray).run P C.w= .ok (.round l f tmps assign body) C.w∧
   ∀ (r:Option Nat) (n:Nat),RoundIn (Fw r) n P l f tmps assign body C.w fun e w'=>∃s H' C' v,e= .returned v∧K (.ret s) H'∧C'.w=w'∧Wd C' H'∧Stp E C H C' H'∧s.den C' v
theorem j3n{l:Nat}(hop:o.op= .call c)(hc:c.callee= .value g)(hg:ev g= .raw v)(hy:isYld v=some l)
 (h:VYld P l (c.args.toList.map ev) H K):OpV P o ev H K:=by
 intro E C r n a next Q hw hgh hv h1 h2
 have h0:=hv g (by rw [hop];simp [Op.operands,Call.operands,hc]);rw [hg,SV.den,z9R hy] at h0;have da:SV.denL C (c.args.toList.map ev) (c.args.toList.map a.eval):=q1R _ fun x hx=>hv x (by rw [hop];simp [Op.operands,Call.operands];exact .inr (by simpa using hx));obtain ⟨f,tmps,assign,body,hrun,hround⟩:=h E C _ hw hgh da;refine ⟨fun f _=>q4U r f,?_⟩;rw [Oper.semAt_eq _ _ _ (by rw [hop];intro c hc;cases hc)];have hrun':(execOp a.eval o).run P C.w= .ok (.round l f tmps assign body) C.w:=by
  have e:(List.map a.eval c.args.toList).toArray=Array.map a.eval c.args:=by rw [<-Array.toList_map]
  rw [e] at hrun;simp [execOp,hop,resolve,hc,h0,Deferred.ofValue,invoke];exact hrun
 rw [hrun'];refine ⟨(fun hd=>by cases hd),(hround r _).mono ?_⟩;rintro e w' ⟨s,H',C',v,rfl,hk,rfl,hw',hx,hs⟩;exact h1 s v H' C' hk hw' hx hs
def isFn:Value->Option (Nat×List Value×List Value)
 |.func (.func f) a b=>some (f,a.toList,b.toList)
 |_=>none
theorem z6K{fi ca:List Value}(hop:o.op= .call c)(hc:c.callee= .value g)(hg:ev g= .raw v)(hv:isFn v=some (f,fi,ca))(hf:enters P f=true)
 (h:VCallG P f (rawL fi++c.args.toList.map ev++rawL ca) H K):OpV P o ev H K:=by
 obtain rfl:v= .func (.func f) fi.toArray ca.toArray:=by
  unfold isFn at hv;split at hv
  . cases hv;simp
  cases hv
 intro E C r n a next Q hw hgh hv h1 h2
 have h0:=hv g (by rw [hop];simp [Op.operands,Call.operands,hc]);rw [hg,SV.den] at h0;have da:SV.denL C (c.args.toList.map ev) (c.args.toList.map a.eval):=q1R _ fun x hx=>hv x (by rw [hop];simp [Op.operands,Call.operands];exact .inr (by simpa using hx));refine ⟨fun f _=>q4U r f,?_⟩;rw [Oper.semAt_eq _ _ _ (by rw [hop];intro c hc;cases hc)];have hrun:(execOp a.eval o).run P C.w= .ok (.enter f (fi++c.args.toList.map a.eval++ca).toArray) C.w:=by simp [execOp,hop,resolve,hc,h0,Deferred.ofValue,invoke,q3d hf]
 rw [hrun];refine ⟨(fun hd=>by cases hd),q3Q ?_⟩;refine (h E C _ hw hgh (q0x.2 ⟨_,_,rfl,q0x.2 ⟨_,_,rfl,q1n fi,da⟩,q1n ca⟩)).mono ?_;rintro e w' ⟨out,H',C',hk,rfl,hw',hx,hd⟩;cases out with
 |ret s=>obtain ⟨v,rfl,hs⟩:=hd;exact h1 s v H' C' hk hw' hx hs
 |pan s=>obtain ⟨v,rfl,hs⟩:=hd;exact h2 s v H' C' hk hw' hx hs
attribute [go_sem] isYld isFn
end
section

variable [Ghost] {P:Program} {AQ:Ex->List SV->List SObj->Prop} {k0:Nat} {k:List It} {t:List SV} {H:List SObj}

def resRow(t':Ty)(xs:List t'.den)(t:Ty)(i k:Nat)(ag:Option Nat):Option SV:=
 if t'=t∧i=0∧k=0 then (match ag with
  |some m=>if t'.plain=true then (if t'.size=1∧xs.length=m∧0<m then some (.dat (.arr m t') xs) else none) else (match xs with
   | [x]=>if t'.size=m then some (.dat t' x) else none
   |_=>none)
  |none=>none) else none
def resV1(P:Program)(t:List SV)(H:List SObj):ResultVar->Option SV
 |.tmp i=>some (t.getD i .any)
 |.cell i ty=>match t.getD i .any,aggOf P ty with
  |.ptr h off,some ag=>match H[h]? with
   |some (.cells _ cs)=>pick cs off ag
   |_=>none
  |.rptr h ty i k,some ag=>match H[h]? with
   |some (.row ty' xs)=>resRow ty' xs ty i k ag
   |_=>none
  |_,_=>none
def resVL(P:Program)(t:List SV)(H:List SObj):List ResultVar->Option (List SV)
 | []=>some []
 |r :: l=>match resV1 P t H r,resVL P t H l with
  |some s,some ss=>some (s :: ss)
  |_,_=>none
def resV(P:Program)(t:List SV)(H:List SObj)(rs:List ResultVar):Option SV:=
 match resVL P t H rs with
 |some [s]=>some s
 |some l=>some (.tup l)
 |none=>none

variable {a:Act}
theorem z8b{r:ResultVar}{s:SV}(hw:Wd C H)(hd:SV.denL C t a.tmps.toList)(h:resV1 P t H r=some s):
 ∃v,(match r with
  |.tmp t=>(pure (a.tmps.getD t undef):Sem Value)
  |.cell b t=>do loadVar t (<-asAddr (a.tmps.getD b undef))).run P C.w= .ok v C.w∧s.den C v:=by
 cases r with
 |tmp i=>simp only [resV1] at h;cases h;exact ⟨a.tmps.getD i undef,rfl,q2g hd (.tmp i)⟩
 |cell i ty=>
  simp only [resV1] at h;split at h
  . rename_i hh off ag h1 h2;split at h
    . rename_i T cs hH;have hx:=q2g hd (.tmp i);simp only [evT,Act.eval] at hx;rw [h1,SV.den] at hx;obtain ⟨_,b,hb,hx⟩:=hx;obtain ⟨b',vs,hb',hcell,hdd⟩:=hw.obj hh _ hH;rw [hb] at hb';cases hb';obtain ⟨v,g1,g2⟩:=q1k (P:=P) h2 (b:=b) (base:=0) (off:=off) hdd (fun j u hj=>by rw [Ae,q0o hcell];exact hj) h;rw [Ae] at g1;exact ⟨v,by simp [hx,asAddr,g1],g2⟩
    cases h
  . rename_i hh t1 i1 k1 ag h1 h2;split at h
    . rename_i t' xs hH;have hx:=q2g hd (.tmp i);simp only [evT,Act.eval] at hx;rw [h1,SV.den] at hx;obtain ⟨_,b,hb,hx⟩:=hx;unfold resRow at h;split at h
      . rename_i hc;obtain ⟨rfl,rfl,rfl⟩:=hc;split at h
        . rename_i m;split at h
          . split at h
            . rename_i hc;obtain ⟨hs,hl,h0⟩:=hc;cases h;obtain ⟨b',hb',hl'⟩:=q9e (i:=0) (m:=m) hw hH hs (by omega) h0;rw [hb] at hb';cases hb';rw [Av,Ad (by omega)] at hl';obtain ⟨v,g1,g2⟩:=q5g (P:=P) h2 hl' (s:=.dat (.arr m t') xs) (by simp [SV.ofT,Ty.plain]) (.inr (by simp [Ty.size,hs]));exact ⟨v,by simp [hx,asAddr,g1],g2⟩
            cases h
          rename_i hpl;split at h
          . rename_i x;split at h
            . rename_i hs;cases h;obtain ⟨b',hb',hl'⟩:=q1Q (i:=0) (x:=x) hw hH rfl;rw [hb] at hb';cases hb';rw [BF] at hl';obtain ⟨v,g1,g2⟩:=q5g (P:=P) h2 hl' (s:=.dat t' x) (by simp [SV.ofT,hpl]) (.inr (by rw [hs]));exact ⟨v,by simp [hx,asAddr,g1],g2⟩
            cases h
          cases h
        cases h
      cases h
    cases h
  cases h

theorem z0v{C:Cx}{a:Act}(hw:Wd C H)(hd:SV.denL C t a.tmps.toList):∀ {rs:List ResultVar} {l:List SV},resVL P t H rs=some l->
 ∃vs,(rs.mapM (m:=Sem) fun
  |.tmp t=>(pure (a.tmps.getD t undef):Sem Value)
  |.cell b t=>do loadVar t (<-asAddr (a.tmps.getD b undef))).run P C.w= .ok vs C.w∧SV.denL C l vs
 | [],l,h=>by cases h;exact ⟨[],by simp,q0y.2 rfl⟩
 |r :: rs,l,h=>by
  simp only [resVL] at h;split at h
  . rename_i s ss h1 h2;cases h;obtain ⟨v,g1,g2⟩:=z8b hw hd h1;obtain ⟨vs,g3,g4⟩:=z0v hw hd h2;refine ⟨v :: vs,?_,q0d.2 ⟨v,vs,rfl,g2,g4⟩⟩;rw [Dg];simp only [Sem.run_bind]
    erw [g1]
    simp only [Result.andThen]
    erw [g3]
    simp
  cases h

variable {fn:Func}
theorem q9v{s:SV}(hw:Wd C H)(hd:SV.denL C t a.tmps.toList)(h:resV P t H fn.results.toList=some s):∃v,(results fn a.tmps).run P C.w= .ok v C.w∧s.den C v:=by
 unfold resV at h
 have key:∀ {l:List SV},resVL P t H fn.results.toList=some l->∃vs:List Value,(fn.results.mapM (m:=Sem) fun
  |.tmp t=>(pure (a.tmps.getD t undef):Sem Value)
  |.cell b t=>do loadVar t (<-asAddr (a.tmps.getD b undef))).run P C.w= .ok vs.toArray C.w∧SV.denL C l vs:=by
  intro l hl;obtain ⟨vs,g1,g2⟩:=z0v hw hd hl;refine ⟨vs,?_,g2⟩;rw [Ci];simp only [Sem.run_map]
  erw [g1]
  rfl
 split at h
 . rename_i s' hl;cases h;obtain ⟨vs,g1,g2⟩:=key hl;obtain ⟨v,us,rfl,hv,hus⟩:=q0d.1 g2;rw [q0y] at hus;subst hus;refine ⟨v,?_,hv⟩;unfold results;simp only [Sem.run_bind]
   erw [g1]
   simp [Result.andThen]
 . rename_i l hne hl;cases h;obtain ⟨vs,g1,g2⟩:=key hl;have hlen:=q0A g2;refine ⟨.tuple vs.toArray,?_,by rw [SV.den];exact ⟨vs,rfl,g2⟩⟩;unfold results;simp only [Sem.run_bind]
   erw [g1]
   have hn:¬vs.length=1:=by
    intro h1;rw [hlen] at h1;match l,h1 with
    | [s'],_=>exact hne s' rfl
   simp [Result.andThen,hn]
 cases h

variable {D:Nat}
def q6v(h:w.heap[D]?=some (.deferred (some []))):(Instr.takeDeferred D).run P w= .ok [] {w with heap:=w.heap.setIfInBounds D (.deferred none)}:=by simp [Instr.takeDeferred,getObj,setObj,Sem.run,h]

def dropD(C:Cx)(D:Nat):Cx:={C with w:={C.w with heap:=C.w.heap.setIfInBounds D (.deferred none)}}
def q1E(h:b≠D):(dropD C D).w.heap[b]?=C.w.heap[b]?:=by simp only [dropD];rw [BY (Ne.symm h)]
def q7e(hi:¬C.I D)(hD:C.w.heap[D]?=some (.deferred (some []))):Evo C (dropD C D):=
 ⟨Af _,fun _ _=>rfl,fun b hb=>⟨hb,q1E (fun e=>hi (e▸hb))⟩,fun b m hm=>by
  by_cases e:b=D
  . subst e;unfold World.bsize at hm;rw [hD] at hm;simp at hm
  unfold World.bsize at hm⊢;rw [q1E e];exact hm⟩
def z9n(hw:Wd C H)(hi:¬C.I D)(ho:¬OwnB C H D)(hD:C.w.heap[D]?=some (.deferred (some []))):Wd (dropD C D) H:=by
 have he:=q7e hi hD;refine ⟨hw.n,fun h x hx=> ?_,fun b hb=> ?_,hw.inj,fun b hb=> ?_⟩
 . by_cases hl:x.live=true
   . exact q0E he.I h rfl (fun b hb=>q1E (fun e=>ho (e▸ ⟨h,x,hx,hl,hb⟩))) (q0h he) (hw.obj h x hx)
   cases x<;>first|trivial|simp [SObj.live] at hl
 . have:=hw.own b hb;exact ⟨this.1,by simp only [dropD,Cn];exact this.2⟩
 simp only [dropD,Cn];exact hw.imm b hb
def z6a{E:En}(hx:Ext E C H)(hi:¬C.I D)(hD:C.w.heap[D]?=some (.deferred (some [])))(hs:E.C.w.heap.size<=D):Ext E (dropD C D) H:=
 ⟨hx.evo.trans (q7e hi hD),by simp only [dropD,Cn];exact hx.size,hx.os,hx.tape,hx.output,fun b hb ho=>(q1E (by omega)).trans (hx.frame b hb ho),fun b hb=>orMap (hx.immNew b hb) id fun ⟨x,u⟩=>⟨x,u.keep (q1E fun e=>hi (e▸hb))⟩,hx.ownNew,hx.keep0⟩

structure MarkOk (E:En) (C:Cx) (H:List SObj) (D:Nat):Prop where
 sz:E.C.w.heap.size<=D
 imm:¬C.I D
 own:¬OwnB C H D
 at_:C.w.heap[D]?=some (.deferred (some []))
def q3H{fn:Func}{tmps:Array Value}{R:Ending->World->Prop}{E:En}{u:FrameMode}(hu:u≠ .run):∀ (Ds:List Nat) (C:Cx),Wd C H->Ext E C H->Ds.Nodup->
 (∀D∈Ds,MarkOk E C H D)->
 (Wd (Ds.foldl dropD C) H->Ext E (Ds.foldl dropD C) H->Evo C (Ds.foldl dropD C)->LeavesIn Fence.wide 0 P fn tmps R [] u (Ds.foldl dropD C).w)->LeavesInM Fence.wide 0 P fn tmps R (Ds.map markD) u C.w
 | [],C,hw,hx,_,_,h=>h hw hx (Evo.refl _)
 |D :: Ds,C,hw,hx,hnd,hD,h=>by obtain ⟨g1,g2,g3,g4⟩:=hD D (by simp);have he:=q7e g2 g4;refine ⟨hu,.inl ⟨D,_,rfl,q6v g4,?_⟩⟩;refine q3H hu Ds (dropD C D) (z9n hw g2 g3 g4) (z6a hx g2 g4 g1) (BK.1 hnd).2 (fun D' hD'=> ?_) (fun hw' hx' he'=>h hw' hx' (he.trans he'));obtain ⟨k1,k2,k3,k4⟩:=hD D' (by simp [hD']);have hne:D'≠D:=fun e=>(BK.1 hnd).1 (e▸hD');exact ⟨k1,k2,k3,(q1E hne).trans k4⟩

def retQ(P:Program)(fn:Func)(K:Out->List SObj->Prop):Ex->List SV->List SObj->Prop
 |.normal,t,H=>∃s,resV P t H fn.results.toList=some s∧K (.ret s) H
 |.ret,t,H=>∃s,resV P t H fn.results.toList=some s∧K (.ret s) H
 |.pan s,_,H=>K (.pan s) H
 |.exit _,_,_=>False

def q6r{R:Ending->World->Prop}{v:Value}(hr:(results fn a.tmps).run P w= .ok v w)(h:R (.returned v) w):LeavesIn Fence.wide 0 P fn a.tmps R [] .returning w:=by unfold LeavesIn;exact ⟨v,hr,h⟩

def LeaveOk(E:EnD)(J:Cx->List SObj->Prop):Prop:=
 ∀ (C:Cx) (H:List SObj) (ds:List Deferred),Wd C H->Ext E C H->Ghost.fin E C H ds->∃Ds:List Nat,ds=Ds.map markD∧Ds.Nodup∧(∀D∈Ds,MarkOk E C H D)∧J (Ds.foldl dropD C) H
def q4x{f:FuncId}{fn:Func}{c:Code}{args:List SV}{K:Out->List SObj->Prop}{E:EnD}{C:Cx}{vs:List Value}(hf:P.funcs[f]?=some fn)(hb:fn.body=some c)(hE:E.base= [])(hn:E.C.n<=H.length)(hw:Wd C H)(hx:Ext E C H)(hg:Ghost.inv E C H)
 (J:Cx->List SObj->Prop)(hJ:LeaveOk E J)
 (hv:SV.denL C args vs)(h:Sound P (retQ P fn K) ⟨H.length,[.code c],args++List.replicate (fn.ntmps-args.length) .any,H⟩):
 Calls P f vs.toArray C.w fun e w'=>∃o H' C',K o H'∧C'.w=w'∧Wd C' H'∧Ext E C' H'∧J C' H'∧outDen C' o e:=by
 refine (callsIn_wide (n:=0)).1 (callsIn_of_wp_marks hf hb trivial ?_ rfl);have hlen:=q0A hv;have hd:Den E C (args++List.replicate (fn.ntmps-args.length) .any) H {tmps:=vs.toArray++Array.replicate (fn.ntmps-vs.toArray.size) undef,defers:=[]}:=by
  refine ⟨hw,hx,⟨hE.symm,hg⟩,?_⟩;simp only [CJ,Cv,AR,hlen];refine q0x.2 ⟨vs,_,rfl,hv,?_⟩;generalize fn.ntmps-args.length=m;induction m with
  |zero=>exact q0y.2 rfl
  |succ m ih=>exact q0d.2 ⟨_,_,Cj,by rw [SV.den];trivial,ih⟩
 have h1:=h E none 0 C _ ⟨hn,Ghost.rd0⟩ hd;simp only [wpT] at h1;refine wpIn_mono h1 fun e a w hq=> ?_;have fin:∀ {C':Cx} {t':List SV} {H':List SObj},(∃s,resV P t' H' fn.results.toList=some s∧K (.ret s) H')->C'.w=w->DenF E C' t' H' a->
  LeavesInM Fence.wide 0 P fn a.tmps (fun e w'=>∃o H' C',K o H'∧C'.w=w'∧Wd C' H'∧Ext E C' H'∧J C' H'∧outDen C' o e) a.defers .returning w:=by
  rintro C' t' H' ⟨s,hs,hk⟩ rfl hd';obtain ⟨Ds,e1,hnd,hok,hj⟩:=hJ _ _ _ hd'.wd hd'.ext hd'.defs;rw [e1];refine q3H (by simp) Ds C' hd'.wd hd'.ext hnd hok fun q1 q2 q3=> ?_;obtain ⟨v,g1,g2⟩:=q9v (P:=P) (fn:=fn) q1 (q0h q3 hd'.tmps) hs;exact q6r g1 ⟨.ret s,H',_,hk,rfl,q1,q2,hj,v,rfl,g2⟩
 cases e with
 |normal=>obtain ⟨C',t',H',hq,hw',hd'⟩:=hq;exact fin hq hw' hd'
 |ret=>obtain ⟨C',t',H',hq,hw',hd'⟩:=hq;exact fin hq hw' hd'
 |panic ch=>obtain ⟨C',t',H',s,v,hk,rfl,hs,rfl,hw',hx',hdf,_⟩:=hq;obtain ⟨Ds,e1,hnd,hok,hj⟩:=hJ _ _ _ hw' hx' hdf;show LeavesInM _ _ _ _ _ _ _ _ _;rw [e1];exact q3H (by simp) Ds C' hw' hx' hnd hok fun q1 q2 q3=>⟨.pan s,H',_,hk,rfl,q1,q2,hj,v,rfl,q0Y q3 hs⟩
 |exit id=>obtain ⟨_,_,_,hq,_⟩:=hq;exact hq.elim
 |goto l=>exact hq.elim
 |outgrown=>exact hq.elim
def q7s{f:FuncId}{c:Code}{args:List SV}{K:Out->List SObj->Prop}(hf:P.funcs[f]?=some fn)(hb:fn.body=some c)
 (h: @Sound noGhost P (retQ P fn K) ⟨H.length,[.code c],args++List.replicate (fn.ntmps-args.length) .any,H⟩):VCall P f args H K:=by
 intro C vs hw ht hv;refine (@q4x noGhost P H f fn c args K ⟨⟨C,H⟩,[]⟩ C vs hf hb rfl (by rw [hw.n];exact Af _) hw (Ext.refl _ _) ⟨ht.here,trivial⟩ (fun _ _=>True) (fun _ _ ds _ _ h=>⟨[],h.1,Dh,fun _ h=>by simp at h,trivial⟩) hv h).mono ?_;rintro e w' ⟨o,H',C',hk,h1,h2,h3,_,h4⟩;exact ⟨o,H',C',hk,h1,h2,h3,h4⟩
end
section

variable [Ghost] {P:Program} {o:Oper} {ev:Operand->SV} {H:List SObj} {K:Out->List SObj->Prop}

def q7m:∀ (cs:List Value) (off j:Nat) (acc:Array Value),off+j+cs.length<=acc.size->
 ((cs.zipIdx j).foldl (fun (a:Array Value) (x:Value×Nat)=>a.setIfInBounds (off+x.2) x.1) acc).toList=splice acc.toList (off+j) cs
 | [],off,j,acc,_=>by simp [splice]
 |c :: cs,off,j,acc,h=>by simp only [AK] at h;simp only [List.zipIdx_cons,Bq];rw [q7m cs off (j+1) _ (by simp;omega),q7j (by simp;omega)];simp [Nat.add_assoc]

def fillS(place:Nat->Option (Nat×Nat)):List SV->List (Nat×SV)->Option (List SV)
 |zs,[]=>some zs
 |zs,(i,s) :: rest=>match place i,s.flat with
  |some (off,size),some cs=>if cs.length=size∧off+cs.length<=zs.length then fillS place (splice zs off cs) rest else none
  |_,_=>none

theorem q7M{C:Cx}{place:Nat->Option (Nat×Nat)}:∀ {ps:List (Nat×SV)} {qs:List (Nat×Value)} {zs cs:List SV} {vs:List Value},SV.denL C zs vs->
 (ps.map (·.1)=qs.map (·.1))->SV.denL C (ps.map (·.2)) (qs.map (·.2))->fillS place zs ps=some cs->∃us,Instr.fill place vs.toArray qs=some us.toArray∧SV.denL C cs us
 | [],[],zs,cs,vs,hz,_,_,h=>by cases h;exact ⟨vs,rfl,hz⟩
 | [],_ :: _,_,_,_,_,h,_,_=>by simp at h
 |_ :: _,[],_,_,_,_,h,_,_=>by simp at h
 | (i,s) :: ps,(j,v) :: qs,zs,cs,vs,hz,hi,hd,h=>by
  simp only [AC,List.cons.injEq] at hi;obtain ⟨rfl,hi⟩:=hi;simp only [AC] at hd;obtain ⟨v',us,e,hv,hd⟩:=q0d.1 hd;simp only [List.cons.injEq] at e;obtain ⟨rfl,rfl⟩:=e;simp only [fillS] at h;split at h
  . rename_i off size ds hp hf;split at h
    . rename_i hc;have hfd:=q3s hf hv;have hl:=q0A hfd;have hzl:=q0A hz;obtain ⟨us,h1,h2⟩:=q7M (q4s hz hfd) hi hd h;refine ⟨us,?_,h2⟩;rw [Instr.fill];simp only [hp];rw [if_neg (by simp only [AR,B4,decide_eq_true_eq,not_or];simp only [Au] at hl;omega)];have:(v.cells.zipIdx.foldl (fun cs x=>cs.setIfInBounds (off+x.2) x.1) vs.toArray)=(splice vs off v.cells.toList).toArray:=by have:=q7m v.cells.toList off 0 vs.toArray (by simp only [AR];omega);rw [AB] at this;rw [<-CO,Array.toList_zipIdx];apply Array.ext';rw [this]
      rw [<-h1,<-this]
    cases h
  cases h

inductive PlaceK where
 |fields (l:List (Nat×Nat))
 |arr (sz:Nat)
def PlaceK.fn:PlaceK->Nat->Option (Nat×Nat)
 |.fields l,i=>l[i]?
 |.arr sz,i=>some (i*sz,sz)
def placesOf(P:Program)(t:TypeId):Option PlaceK:=
 match P.underlying t with
 |some (.struct fs)=>(fs.toList.mapM fun f=>(P.info? f.type).map fun i=>(f.offset,i.size)).map .fields
 |some (.array _ e)=>(P.info? e).map fun i=>.arr i.size
 |_=>none

def q4w{w:World}:∀ {fs:List Field} {l:List (Nat×Nat)},(fs.mapM (m:=Option) fun f=>(P.info? f.type).map fun i=>(f.offset,i.size))=some l->
 (fs.mapM (m:=Sem) fun f=>do pure (f.offset,<-sizeOf f.type)).run P w= .ok l w
 | [],l,h=>by rw [List.mapM_nil] at h;cases h;rw [List.mapM_nil];rfl
 |f :: fs,l,h=>by
  rw [Dg] at h;cases hi:P.info? f.type with
  |none=>simp [hi] at h
  |some i=>
   cases hr:(fs.mapM (m:=Option) fun f=>(P.info? f.type).map fun i=>(f.offset,i.size)) with
   |none=>simp [hi,hr] at h
   |some l'=>simp [hi,hr] at h;have ih:=q4w (w:=w) hr;rw [Dg];simp only [Sem.run_bind];have h1:(sizeOf f.type).run P w= .ok i.size w:=q0m (by simp [hi]) w;simp only [h1,Result.andThen,Sem.run_pure];rw [ih];simp [<-h]

theorem z6l{t:TypeId}{parts:Array (Nat×Operand)}{zs:List Value}{pl:PlaceK}{cs:List SV}(hop:o.op= .build t parts)(hz:(P.info? t).bind (fun i=>i.zero.map (·.cells.toList))=some zs)
 (hpl:placesOf P t=some pl)(hf:fillS pl.fn (rawL zs) (parts.toList.map fun p=>(p.1,ev p.2))=some cs)(hk:K (.ret (.agg cs)) H):OpV P o ev H K:=by
 refine q0l (by rw [hop];intro c hc;cases hc) (fun C e _ hv=> ?_) hk;rw [hop] at hv;simp only [Op.operands] at hv;have hparts:SV.denL C ((parts.toList.map fun p=>(p.1,ev p.2)).map (·.2)) ((parts.toList.map fun p=>(p.1,e p.2)).map (·.2)):=by simp only [BS];have:=q1R (C:=C) (ev:=ev) (e:=e) (parts.toList.map (·.2)) (fun x hx=>hv x (by simpa using hx));simp only [BS] at this;exact this
 obtain ⟨us,h1,h2⟩:=q7M (C:=C) (qs:=parts.toList.map fun p=>(p.1,e p.2)) (q1n zs) (by simp) hparts hf;refine ⟨.agg us.toArray,?_,by rw [SV.den];exact ⟨us,rfl,h2⟩⟩;cases hi:P.info? t with
 |none=>simp [hi] at hz
 |some i=>
  cases hz0:i.zero with
  |none=>simp [hi,hz0] at hz
  |some z=>
   simp [hi,hz0] at hz;have hzz:z.cells=zs.toArray:=by rw [<-hz]
   have hzr:(zeroValue t).run P C.w= .ok z C.w:=by simp [zeroValue,typeInfo,hi,hz0]
   unfold placesOf at hpl;split at hpl
   . rename_i fs hu;cases hpl':(fs.toList.mapM (m:=Option) fun f=>(P.info? f.type).map fun i=>(f.offset,i.size)) with
     |none=>rw [hpl'] at hpl;cases hpl
     |some l=>
      rw [hpl'] at hpl;cases hpl;have hm:=q4w (P:=P) (w:=C.w) hpl';have hm':(fs.mapM (m:=Sem) fun f=>do pure (f.offset,<-sizeOf f.type)).run P C.w= .ok l.toArray C.w:=by rw [Ci];simp only [Sem.run_map];rw [hm];rfl
      have hfill:Instr.fill (l.toArray[·]?) zs.toArray (parts.map fun p=>(p.1,e p.2)).toList=some us.toArray:=by
       rw [<-h1];congr 1
       . funext j;simp [PlaceK.fn]
       simp
      simp only [execOp,hop,Sem.run_bind,Instr.build,hzr,Result.andThen,run_underlying' hu]
      erw [hm']
      simp only [hzz]
      erw [hfill]
      rfl
   . rename_i n e' hu;cases hie:P.info? e' with
     |none=>simp [hie] at hpl
     |some ie=>
      simp [hie] at hpl;subst hpl;have hse:(sizeOf e').run P C.w= .ok ie.size C.w:=q0m (by simp [hie]) C.w;have hfill:Instr.fill (fun i=>some (i*ie.size,ie.size)) zs.toArray (parts.map fun p=>(p.1,e p.2)).toList=some us.toArray:=by rw [<-h1];congr 1;simp
      simp only [execOp,hop,Sem.run_bind,Instr.build,hzr,Result.andThen,run_underlying' hu,hse,hzz]
      erw [hfill]
      rfl
   cases hpl
end
end Go.Sx