/- A part of the proof: a symbolic executor over abstract values, and its soundness. -/
import Derived.Test.YthbcodbcndiapaaGreatDoorX4
import Derived.RecoverIn
import Derived.Test.YthbcodbcndiapaaGreatDoorProg
import Derived.KernelRfl
set_option linter.all false
namespace Go.Sx
section
open Go
variable [Ghost] {P:Program} {AQ:Ex->List SV->List SObj->Prop} {k0:Nat} {k:List IT} {t:List SV} {H:List SObj}

mutual
def SV.sealB(n:Nat)(H:List SObj):SV->Option (SV×Prop)
 |.any=>some (.any,True)
 |.raw v=>some (.raw v,True)
 |.isl t xs=>some (.isl t xs,True)
 |.fsl t xs=>some (.isl t xs,True)
 |.iptr t x k=>some (.iptr t x k,True)
 |.dat t x=>some (.dat t x,True)
 |.imap kk ks vs=>some (.imap kk ks vs,True)
 |.ptr h off=>if h<n then some (.ptr h off,True) else none
 |.rptr h t i k=>if h<n then some (.rptr h t i k,True) else none
 |.csl h t k i m=>if h<n then some (.csl h t k i m,True) else none
 |.bld h t m=>if h<n then some (.bld h t m,True) else match H[h]? with
  |some (.row t' xs)=>if t=t' then some (.isl t' (xs.take m),m<=xs.length/\xs.length<=1125899906842624) else none
  |_=>none
 |.osl h t off m=>if h<n then some (.osl h t off m,True) else match H[h]? with
  |some (.row t' xs)=>if t=t' then some (.isl t' ((xs.drop off).take m),off+m<=xs.length/\xs.length<=1125899906842624) else none
  |_=>none
 |.mp h=>if h<n then some (.mp h,True) else match H[h]? with
  |some (.map kk ks vs)=>(unrawL vs).map λus=>(.imap kk ks us,True)
  |_=>none
 |.agg l=>match SV.sealBL n H l with
  |some (l',p)=>some (.agg l',p)
  |none=>none
 |.tup l=>match SV.sealBL n H l with
  |some (l',p)=>some (.tup l',p)
  |none=>none
 |.iface T x=>match SV.sealB n H x with
  |some (x',p)=>some (.iface T x',p)
  |none=>none
 |.fn f a b=>match SV.sealBL n H a,SV.sealBL n H b with
  |some (a',p),some (b',q)=>some (.fn f a' b',p/\q)
  |_,_=>none
def SV.sealBL(n:Nat)(H:List SObj):List SV->Option (List SV×Prop)
 | []=>some ([],True)
 |s :: l=>match SV.sealB n H s,SV.sealBL n H l with
  |some (s',p),some (l',q)=>some (s' :: l',p/\q)
  |_,_=>none
end

def OwnGe(C:Cx)(H:List SObj)(n:Nat)(b:Nat):Prop:=∃h o,n<=h/\H[h]?=some o/\o.live=true/\C.ρ h=some b
def Cx.shutB(C:Cx)(H:List SObj)(n:Nat):Cx:={C with n:=n,I:=λb=>C.I b\/OwnGe C H n b}
theorem q1F(C:Cx)(H:List SObj)(n:Nat):Keeps C.I (C.shutB H n).I C.w (C.shutB H n).w:=λ_ hb=>⟨.inl hb,rfl⟩
theorem q8s{C:Cx}{n hd:Nat}{o:SObj}(hn:n<=hd)(hH:H[hd]?=some o)(hl:o.live=true):Keeps (C.frz hd).I (C.shutB H n).I (C.frz hd).w (C.shutB H n).w:=
 λ_ hb=>⟨hb.elim .inl (λe=>.inr ⟨hd,o,hn,hH,hl,e⟩),rfl⟩
mutual
theorem q5g{C:Cx}{H:List SObj}{n:Nat}(j:Wd C H):∀ {s i:SV} {p:Prop} {v:Value},s.sealB n H=some (i,p)->p->s.den C v->i.den (C.shutB H n) v
 |.any,_,_,_,h,_,_=>by grind [SV.sealB,SV.den]
 |.raw _,_,_,_,h,_,d=>by grind [SV.sealB,SV.den]
 |.isl _ _,_,_,_,h,_,d=>by simp [SV.sealB] at h;rw [<-h.1];exact q0B (q1F C H n) rfl d
 |.fsl _ _,_,_,_,h,_,d=>by simp [SV.sealB] at h;rw [<-h.1];rw [SV.den] at d;exact q0B (q1F C H n) rfl (by grind [SV.den])
 |.dat ..,_,_,_,h,_,d=>by simp [SV.sealB] at h;rw [<-h.1];exact q0B (q1F C H n) rfl d
 |.iptr ..,_,_,_,h,_,d=>by simp [SV.sealB] at h;rw [<-h.1];exact q0B (q1F C H n) rfl d
 |.imap ..,_,_,_,h,_,d=>by simp [SV.sealB] at h;rw [<-h.1];exact q0B (q1F C H n) rfl d
 |.ptr hd off,_,_,_,h,_,d=>by
  simp only [SV.sealB] at h;split at h
  . cases h;rw [SV.den] at d⊢;exact ⟨by assumption,d.2⟩
  cases h
 |.rptr ..,_,_,_,h,_,d=>by
  simp only [SV.sealB] at h;split at h
  . cases h;rw [SV.den] at d⊢;exact ⟨by assumption,d.2⟩
  cases h
 |.csl ..,_,_,_,h,_,d=>by
  simp only [SV.sealB] at h;split at h
  . cases h;rw [SV.den] at d⊢;exact ⟨by assumption,d.2⟩
  cases h
 |.bld hd t m,i,p,v,h,hp,d=>by
  simp only [SV.sealB] at h;split at h
  . cases h;rw [SV.den] at d⊢;exact ⟨by assumption,d.2⟩
  rename_i c;split at h
  . rename_i t' xs o;split at h
    . rename_i e;subst e;cases h;have q:=q4s j o hp.2 (s:=.bld hd t m) (by rw [SV.frzOb,if_pos ⟨rfl,rfl⟩];exact hp.1) d;rw [SV.frz,if_pos ⟨rfl,rfl⟩] at q;exact q0B (q8s (AC.1 c) o rfl) rfl q
    cases h
  cases h
 |.osl hd t off m,i,p,v,h,hp,d=>by
  simp only [SV.sealB] at h;split at h
  . cases h;rw [SV.den] at d⊢;exact ⟨by assumption,d.2⟩
  rename_i c;split at h
  . rename_i t' xs o;split at h
    . rename_i e;subst e;cases h;have q:=q4s j o hp.2 (s:=.osl hd t off m) (by rw [SV.frzOb,if_pos ⟨rfl,rfl⟩];exact hp.1) d;rw [SV.frz,if_pos ⟨rfl,rfl⟩] at q;exact q0B (q8s (AC.1 c) o rfl) rfl q
    cases h
  cases h
 |.mp hd,i,p,v,h,hp,d=>by
  simp only [SV.sealB] at h;split at h
  . cases h;rw [SV.den] at d⊢;exact ⟨by assumption,d.2⟩
  rename_i c;split at h
  . rename_i kk ks vs o;obtain ⟨us,G,h⟩:=Al.1 h;cases h;obtain rfl:=q4C G;simp only [SV.den] at d⊢;obtain ⟨_,b,A,rfl⟩:=d;obtain ⟨b',us',z,B,r⟩:=j.obj hd _ o;rw [q1d r] at B;rw [A] at z;cases z;exact ⟨b,rfl,.inr ⟨hd,_,AC.1 c,o,rfl,A⟩,B⟩
  cases h
 |.agg l,i,p,v,h,hp,d=>by
  unfold SV.sealB at h;split at h
  . cases h;rw [SV.den] at d⊢;obtain ⟨vs,y,r⟩:=d;exact ⟨vs,y,q2k j (by assumption) hp r⟩
  cases h
 |.tup l,i,p,v,h,hp,d=>by
  unfold SV.sealB at h;split at h
  . cases h;rw [SV.den] at d⊢;obtain ⟨vs,y,r⟩:=d;exact ⟨vs,y,q2k j (by assumption) hp r⟩
  cases h
 |.iface T x,i,p,v,h,hp,d=>by
  unfold SV.sealB at h;split at h
  . cases h;rw [SV.den] at d⊢;obtain ⟨u,y,r⟩:=d;exact ⟨u,y,q5g j (by assumption) hp r⟩
  cases h
 |.fn f a b,i,p,v,h,hp,d=>by
  unfold SV.sealB at h;split at h
  . cases h;rw [SV.den] at d⊢;obtain ⟨E,F,y,q,D⟩:=d;exact ⟨E,F,y,q2k j (by assumption) hp.1 q,q2k j (by assumption) hp.2 D⟩
  cases h
theorem q2k{C:Cx}{H:List SObj}{n:Nat}(b:Wd C H):∀ {l a:List SV} {p:Prop} {vs:List Value},SV.sealBL n H l=some (a,p)->p->SV.denL C l vs->SV.denL (C.shutB H n) a vs
 | [],_,_,_,h,_,d=>by grind [SV.sealBL,q0y]
 |s :: l,a,p,vs,h,hp,d=>by
  unfold SV.sealBL at h;split at h
  . cases h;obtain ⟨v,us,rfl,c,e⟩:=q0c.1 d;exact q0c.2 ⟨v,us,rfl,q5g b (by assumption) hp.1 c,q2k b (by assumption) hp.2 e⟩
  cases h
end

/- A value that says less: nil and the empty slice are one, .any says nothing. -/
mutual
def SV.leA:SV->SV->Prop
 |_,.any=>True
 |s,.isl t xs=>s= .isl t xs\/(s= .raw (.slice none 0 0)/\xs= [])
 |s,.agg l=>match s with
  |.agg l'=>SV.leAL l' l
  |_=>False
 |s,.tup l=>match s with
  |.tup l'=>SV.leAL l' l
  |_=>False
 |s,s'=>s=s'
def SV.leAL:List SV->List SV->Prop
 | [],l=>l= []
 |s :: l,r=>match r with
  | []=>False
  |s' :: l'=>SV.leA s s'/\SV.leAL l l'
end
theorem j5x{s:SV}:SV.leA s .any=True:=by grind [SV.leA]
def j4c{v u:Value}:SV.leA (.raw v) (.raw u)=(v=u):=by simp [SV.leA]
def j1r{t:Ty}{x y:t.den}{k j:Nat}:SV.leA (.iptr t x k) (.iptr t y j)=(x=y/\k=j):=by simp [SV.leA]
def j3I{t:Ty}{xs ys:List t.den}:SV.leA (.isl t xs) (.isl t ys)=(xs=ys):=by simp [SV.leA]
def j4T{t:Ty}{ys:List t.den}:SV.leA (.raw (.slice none 0 0)) (.isl t ys)=(ys= []):=by simp [SV.leA]
def z9k{l a:List SV}:SV.leA (.agg l) (.agg a)=SV.leAL l a:=by rw [SV.leA]
def z8F{l a:List SV}:SV.leA (.tup l) (.tup a)=SV.leAL l a:=by rw [SV.leA]
def j5g{h o a o':Nat}:SV.leA (.ptr h o) (.ptr a o')=(h=a/\o=o'):=by simp [SV.leA]
def z6S{T T':TypeId}{x x':SV}:SV.leA (.iface T x) (.iface T' x')=(T=T'/\x=x'):=by simp [SV.leA]
def j6Y{f c:Nat}{a e b d:List SV}:SV.leA (.fn f a b) (.fn c e d)=(f=c/\a=e/\b=d):=by simp [SV.leA]
def j6j{h b n a:Nat}{t t':Ty}:SV.leA (.bld h t n) (.bld b t' a)=(h=b/\t=t'/\n=a):=by simp [SV.leA]
def z1T{s a:SV}{l b:List SV}:SV.leAL (s :: l) (a :: b)=(SV.leA s a/\SV.leAL l b):=by rw [SV.leAL]
def j1g:SV.leAL [] []=True:=by simp [SV.leAL]
mutual
theorem z2l{C:Cx}:∀ {s c:SV} {v:Value},SV.leA s c->s.den C v->c.den C v
 |s,.any,v,_,_=>by rw [SV.den];trivial
 |s,.isl t xs,v,h,d=>by
  rw [SV.leA] at h;rcases h with rfl| ⟨rfl,rfl⟩
  . exact d
  rw [SV.den] at d;subst d;rw [SV.den];exact ⟨_,_,_,rfl,rfl,Ac _,by simp,.inl rfl⟩
 |.agg l',.agg l,v,h,d=>by rw [z9k] at h;rw [SV.den] at d⊢;obtain ⟨vs,a,b⟩:=d;exact ⟨vs,a,q6y h b⟩
 |.tup l',.tup l,v,h,d=>by rw [z8F] at h;rw [SV.den] at d⊢;obtain ⟨vs,a,b⟩:=d;exact ⟨vs,a,q6y h b⟩
 |.any,.agg _,_,h,_=>by simp [SV.leA] at h
 |.raw _,.agg _,_,h,_=>by simp [SV.leA] at h
 |.isl _ _,.agg _,_,h,_=>by simp [SV.leA] at h
 |.fsl _ _,.agg _,_,h,_=>by simp [SV.leA] at h
 |.iptr ..,.agg _,_,h,_=>by simp [SV.leA] at h
 |.ptr ..,.agg _,_,h,_=>by simp [SV.leA] at h
 |.rptr ..,.agg _,_,h,_=>by simp [SV.leA] at h
 |.bld ..,.agg _,_,h,_=>by simp [SV.leA] at h
 |.osl ..,.agg _,_,h,_=>by simp [SV.leA] at h
 |.csl ..,.agg _,_,h,_=>by simp [SV.leA] at h
 |.dat ..,.agg _,_,h,_=>by simp [SV.leA] at h
 |.mp _,.agg _,_,h,_=>by simp [SV.leA] at h
 |.imap ..,.agg _,_,h,_=>by simp [SV.leA] at h
 |.fn ..,.agg _,_,h,_=>by simp [SV.leA] at h
 |.iface ..,.agg _,_,h,_=>by simp [SV.leA] at h
 |.tup _,.agg _,_,h,_=>by simp [SV.leA] at h
 |.any,.tup _,_,h,_=>by simp [SV.leA] at h
 |.raw _,.tup _,_,h,_=>by simp [SV.leA] at h
 |.isl _ _,.tup _,_,h,_=>by simp [SV.leA] at h
 |.fsl _ _,.tup _,_,h,_=>by simp [SV.leA] at h
 |.iptr ..,.tup _,_,h,_=>by simp [SV.leA] at h
 |.ptr ..,.tup _,_,h,_=>by simp [SV.leA] at h
 |.rptr ..,.tup _,_,h,_=>by simp [SV.leA] at h
 |.bld ..,.tup _,_,h,_=>by simp [SV.leA] at h
 |.osl ..,.tup _,_,h,_=>by simp [SV.leA] at h
 |.csl ..,.tup _,_,h,_=>by simp [SV.leA] at h
 |.dat ..,.tup _,_,h,_=>by simp [SV.leA] at h
 |.mp _,.tup _,_,h,_=>by simp [SV.leA] at h
 |.imap ..,.tup _,_,h,_=>by simp [SV.leA] at h
 |.fn ..,.tup _,_,h,_=>by simp [SV.leA] at h
 |.iface ..,.tup _,_,h,_=>by simp [SV.leA] at h
 |.agg _,.tup _,_,h,_=>by simp [SV.leA] at h
 |s,.raw _,v,h,d=>by grind [SV.leA]
 |s,.fsl _ _,v,h,d=>by grind [SV.leA]
 |s,.iptr ..,v,h,d=>by grind [SV.leA]
 |s,.ptr ..,v,h,d=>by grind [SV.leA]
 |s,.rptr ..,v,h,d=>by grind [SV.leA]
 |s,.bld ..,v,h,d=>by grind [SV.leA]
 |s,.osl ..,v,h,d=>by grind [SV.leA]
 |s,.csl ..,v,h,d=>by grind [SV.leA]
 |s,.dat ..,v,h,d=>by grind [SV.leA]
 |s,.mp _,v,h,d=>by grind [SV.leA]
 |s,.imap ..,v,h,d=>by grind [SV.leA]
 |s,.fn ..,v,h,d=>by grind [SV.leA]
 |s,.iface ..,v,h,d=>by grind [SV.leA]
theorem q6y{C:Cx}:∀ {l a:List SV} {vs:List Value},SV.leAL l a->SV.denL C l vs->SV.denL C a vs
 | [],a,vs,h,d=>by grind [SV.leAL]
 |s :: l,[],vs,h,d=>by simp [SV.leAL] at h
 |s :: l,s' :: a,vs,h,d=>by rw [z1T] at h;obtain ⟨v,us,rfl,b,c⟩:=q0c.1 d;exact q0c.2 ⟨v,us,rfl,z2l h.1 b,q6y h.2 c⟩
end

def SObj.unmarked:SObj->Prop
 |.mark _=>False
 |.dead=>True
 |.cells _ _=>True
 |.row _ _=>True
 |.map _ _ _=>True
def sealHL(n:Nat)(H:List SObj):List SObj->List SObj->Prop
 |_,[]=>True
 |o :: l,.dead :: l'=>o.unmarked/\sealHL n H l l'
 |.cells T cs :: l,.cells T' cs' :: l'=>(match SV.sealBL n H cs with
  |some (cs1,p)=>p/\T=T'/\SV.leAL cs1 cs'
  |none=>False)/\sealHL n H l l'
 |.row t xs :: l,.row t' xs' :: l'=>SObj.row t xs=SObj.row t' xs'/\sealHL n H l l'
 |.map a b c :: l,.map a' b' c' :: l'=>(a=a'/\b=b'/\c=c'/\(unrawL c).isSome=true)/\sealHL n H l l'
 |.mark a :: l,.mark a' :: l'=>a=a'/\sealHL n H l l'
 |_,_=>False
theorem q1h{n:Nat}{H:List SObj}:∀ {L j:List SObj} {h:Nat} {o':SObj},sealHL n H L j->j[h]?=some o'->o'.live=true->
 ∃o,L[h]?=some o/\o.live=true/\((∃T cs cs' d p,o= .cells T cs/\o'= .cells T cs'/\SV.sealBL n H cs=some (d,p)/\p/\SV.leAL d cs')\/(o=o'/\(∀T cs,o≠ .cells T cs)/\∀kk ks vs,o= .map kk ks vs->(unrawL vs).isSome=true))
 |L,[],h,o',_,hi,_=>by simp at hi
 | [],.dead :: l',_,_,hl,_,_=>by simp [sealHL] at hl
 | [],.cells _ _ :: l',_,_,hl,_,_=>by simp [sealHL] at hl
 | [],.row _ _ :: l',_,_,hl,_,_=>by simp [sealHL] at hl
 | [],.map _ _ _ :: l',_,_,hl,_,_=>by simp [sealHL] at hl
 | [],.mark _ :: l',_,_,hl,_,_=>by simp [sealHL] at hl
 |o :: l,.dead :: l',0,o',hl,hi,hv=>by grind [SObj.live]
 |o :: l,.dead :: l',h+1,o',hl,hi,hv=>by simp only [sealHL] at hl;simpa using q1h hl.2 (by grind) hv
 |.cells T cs :: l,.cells T' cs' :: l',0,o',hl,hi,hv=>by
  simp at hi;subst hi;simp only [sealHL] at hl;obtain ⟨i,_⟩:=hl;split at i
  . rename_i d p q;obtain ⟨m,rfl,e⟩:=i;exact ⟨_,rfl,rfl,.inl ⟨T,cs,cs',d,p,rfl,rfl,q,m,e⟩⟩
  simp_all
 |.cells T cs :: l,.cells T' cs' :: l',h+1,o',hl,hi,hv=>by simp only [sealHL] at hl;simpa using q1h hl.2 (by grind) hv
 |.row t xs :: l,.row t' xs' :: l',0,o',hl,hi,hv=>by simp at hi;subst hi;simp only [sealHL] at hl;grind
 |.row t xs :: l,.row t' xs' :: l',h+1,o',hl,hi,hv=>by simp only [sealHL] at hl;simpa using q1h hl.2 (by grind) hv
 |.map a b c :: l,.map a' b' c' :: l',0,o',hl,hi,hv=>by simp at hi;subst hi;simp only [sealHL] at hl;grind
 |.map a b c :: l,.map a' b' c' :: l',h+1,o',hl,hi,hv=>by simp only [sealHL] at hl;simpa using q1h hl.2 (by grind) hv
 |.dead :: l,.cells _ _ :: l',_,_,hl,_,_=>by simp [sealHL] at hl
 |.dead :: l,.row _ _ :: l',_,_,hl,_,_=>by simp [sealHL] at hl
 |.dead :: l,.map _ _ _ :: l',_,_,hl,_,_=>by simp [sealHL] at hl
 |.cells _ _ :: l,.row _ _ :: l',_,_,hl,_,_=>by simp [sealHL] at hl
 |.cells _ _ :: l,.map _ _ _ :: l',_,_,hl,_,_=>by simp [sealHL] at hl
 |.row _ _ :: l,.cells _ _ :: l',_,_,hl,_,_=>by simp [sealHL] at hl
 |.row _ _ :: l,.map _ _ _ :: l',_,_,hl,_,_=>by simp [sealHL] at hl
 |.map _ _ _ :: l,.cells _ _ :: l',_,_,hl,_,_=>by simp [sealHL] at hl
 |.map _ _ _ :: l,.row _ _ :: l',_,_,hl,_,_=>by simp [sealHL] at hl
 |.mark a :: l,.mark a' :: l',0,o',hl,hi,hv=>by grind [SObj.live]
 |.mark a :: l,.mark a' :: l',h+1,o',hl,hi,hv=>by simp only [sealHL] at hl;simpa using q1h hl.2 (by grind) hv
 |.dead :: l,.mark _ :: l',_,_,hl,_,_=>by simp [sealHL] at hl
 |.cells _ _ :: l,.mark _ :: l',_,_,hl,_,_=>by simp [sealHL] at hl
 |.mark _ :: l,.cells _ _ :: l',_,_,hl,_,_=>by simp [sealHL] at hl
 |.row _ _ :: l,.mark _ :: l',_,_,hl,_,_=>by simp [sealHL] at hl
 |.mark _ :: l,.row _ _ :: l',_,_,hl,_,_=>by simp [sealHL] at hl
 |.map _ _ _ :: l,.mark _ :: l',_,_,hl,_,_=>by simp [sealHL] at hl
 |.mark _ :: l,.map _ _ _ :: l',_,_,hl,_,_=>by simp [sealHL] at hl

def z2z{n:Nat}{L b:List SObj}{m:Nat}(c:sealHL n H L b)(e:0<b.length)(h:L[0]?=some (.mark m)):b[0]?=some (.mark m):=by
 cases L with
 |nil=>simp at h
 |cons a L=>
  simp at h;subst h;cases b with
  |nil=>simp at e
  |cons d b=>cases d<;>simp [sealHL,SObj.unmarked] at c⊢;omega

theorem j0v{C:Cx}{H' H1:List SObj}(j:Wd C H')(hlen:H1.length<=H'.length)(A:sealHL H1.length H' H' H1):Wd (C.shutB H' H1.length) H1:=by
 have s:∀b,OwnB (C.shutB H' H1.length) H1 b->OwnB C H' b/\¬OwnGe C H' H1.length b:=by
  rintro b ⟨h,o',v,q,d⟩;obtain ⟨o,a,c,_⟩:=q1h A v q;refine ⟨⟨h,o,a,c,d⟩,?_⟩;rintro ⟨E,I,hge,l,G,m⟩;have e:=j.inj h E o I b a l c G d m
  simp_all
 refine ⟨rfl,λh o' v=> ?_,λb d=> ?_,λh E o o' b v L q D d m=> ?_,?_⟩
 . by_cases q:o'.live=true
   . obtain ⟨o,a,_,l⟩:=q1h A v q;have r:=j.obj h o a;rcases l with ⟨T,cs,cs',cs1,p,rfl,rfl,W,Q,O⟩ | ⟨rfl,hc,B⟩
     . obtain ⟨b,vs,y,u,z⟩:=r;exact ⟨b,vs,y,u,q6y O (q2k j W Q z)⟩
     cases o with
     |dead=>trivial
     |cells T cs=>simp_all
     |row t xs=>
      rcases r with r| ⟨b,N,T,fz,y,u,z,R,V⟩
      . exact .inl r
      refine .inr ⟨b,N,T,fz,y,u,z,R,λi x U=> ?_⟩;obtain ⟨us,J,F⟩:=V i x U;exact ⟨us,Ty.rel_keep (q1F C H' _) _ _ _ J,F⟩
     |map kk ks vs=>obtain ⟨b,us,y,u,z⟩:=r;obtain ⟨us',J⟩:=B4.1 (B _ _ _ rfl);obtain rfl:=q4C J;obtain rfl:=q1d z;exact ⟨b,_,y,u,q1a _⟩
     |mark n=>trivial
   cases o'<;>first|trivial|simp [SObj.live] at q
 . obtain ⟨a,c⟩:=s b d;exact ⟨λS=>S.elim (j.own b a).1 c,(j.own b a).2⟩
 . obtain ⟨o1,a,c,_⟩:=q1h A v q;obtain ⟨I,l,G,_⟩:=q1h A L D;exact j.inj h E o1 I b a l c G d m
 rintro b (d| ⟨h,o,_,a,c,l⟩)
 . exact j.imm b d
 exact (j.own b ⟨h,o,a,c,l⟩).2
def z7a{C C':Cx}{H' H1:List SObj}(e:Wd C' H')(q:C.n<=H1.length)(a:Ext ⟨C,H⟩ C' H')(l:sealHL H1.length H' H' H1):Ext ⟨C,H⟩ (C'.shutB H' H1.length) H1:=by
 refine ⟨⟨q,λh u=>a.evo.ρ h u,a.evo.I.trans (q1F C' H' _),a.evo.sz⟩,a.size,a.os,a.tape,a.output,a.frame,?_,?_,λm j h=>z2z l (Aj j q) (a.keep0 m j h)⟩
 . rintro b (i| ⟨h,o,_,d,c,p⟩)
   . exact a.immNew b i
   exact .inr ⟨a.ownNew b ⟨h,o,d,c,p⟩,(q4v e ⟨h,o,d,c,p⟩:Unf C'.w b)⟩
 rintro b ⟨h,o',r,s,i⟩;obtain ⟨o,d,c,_⟩:=q1h l r s;exact a.ownNew b ⟨h,o,d,c,i⟩

def SealO(o:Out)(H1:List SObj)(o':Out)(H':List SObj):Prop:=
 o'=o.withV o'.val/\H1.length<=H'.length/\(match o'.val.sealB H1.length H' with
  |some (s1,p)=>p/\SV.leA s1 o.val
  |none=>False)/\sealHL H1.length H' H' H1
theorem VCall.sealO{f:FuncId}{args:List SV}{o:Out}{H1:List SObj}(y:H.length<=H1.length)(h:VCall P f args H (SealO o H1)):VCall P f args H λo' H'=>o'=o/\H'=H1:=by
 intro C vs i r q;refine (h C vs i r q).mono ?_;rintro e w' ⟨o',H',C',⟨m,d,c,j⟩,rfl,a,u,b⟩;split at c
 . rename_i s1 p l;refine ⟨o,H1,C'.shutB H' H1.length,⟨rfl,rfl⟩,rfl,j0v a d j,z7a a (by rw [i.n];exact y) u j,?_⟩;rw [m] at b;cases o with
   |ret s=>obtain ⟨v,rfl,b⟩:=b;exact ⟨v,rfl,z2l c.2 (q5g a l c.1 b)⟩
   |pan s=>obtain ⟨v,rfl,b⟩:=b;exact ⟨v,rfl,z2l c.2 (q5g a l c.1 b)⟩
 grind
def q0a{f:FuncId}{args:List SV}{H0 H1:List SObj}{o:Out}(hn:H0.length<=H1.length)(h:VC P f args H0 (SealO o H1)):PE P f args H0 o H1:=⟨h.1,VCall.sealO hn h.2⟩
theorem PC.pe{f:FuncId}{args:List SV}{s:SV}(h:PC P f args s):PE P f args [] (.ret s) []:=⟨h.1,h.2 _ _ ⟨rfl,rfl⟩⟩
def z9r{s a:SV}{H1 H':List SObj}:SealO (.ret s) H1 (.ret a) H'=(H1.length<=H'.length/\(match a.sealB H1.length H' with
 |some (b,p)=>p/\SV.leA b s
 |none=>False)/\sealHL H1.length H' H' H1):=by simp [SealO,Out.withV,Out.val]
def z9g{s a:SV}{H1 H':List SObj}:SealO (.pan s) H1 (.pan a) H'=(H1.length<=H'.length/\(match a.sealB H1.length H' with
 |some (b,p)=>p/\SV.leA b s
 |none=>False)/\sealHL H1.length H' H' H1):=by simp [SealO,Out.withV,Out.val]
attribute [go_sem] z9r z9g SV.sealB SV.sealBL j5x j4c j1r j3I j4T z9k z8F j5g z6S j6Y j6j z1T j1g sealHL SObj.unmarked
end
open Go
variable {P:Program} {AQ:Ex->List SV->List SObj->Prop} {k0:Nat} {k:List IT} {t:List SV} {H:List SObj}

def afterD(H:List SObj)(C:Cx)(K:List SObj->Prop)(m:FrameMode):Ending->FrameMode->World->Prop:=
 λe u w=>e= .returned (.tuple #[])/\u=m/\∃H' C',K H'/\C'.w=w/\Wd C' H'/\Ext ⟨C,H⟩ C' H'
def DCall(P:Program)(g:FuncId)(args:List SV)(pan:Option SV)(H:List SObj)(K:List SObj->Prop):Prop:=
 enters P g=true/\∀ (C:Cx) (vs:List Value),Wd C H->TabT C H->SV.denL C args vs->match pan with
  |none=>CallsDIn Fence.wide 0 P g vs.toArray .returning C.w (afterD H C K .returning)
  |some s=>∀v,s.den C v->CallsDIn Fence.wide 0 P g vs.toArray (.panicking [{v,recovered:=false}]) C.w (afterD H C K (.panicking [{v,recovered:=true}]))

def calmOp:Op->Bool
 |.typeAssert .. |.move _|.assign _|.extract .. |.alloc _|.store .. |.load .. =>true
 |_=>false
variable {w:World}{x:Next}
theorem z8Z{s:Sem Value}{w':World}(h:(do pure (.value (<-s)):Sem Next).run P w= .ok x w'):(∃v,x= .value v)\/x= .skip:=by
 simp only [Sem.run_bind] at h;cases c:s.run P w with
 |ok v w1=>rw [c] at h;simp [Result.andThen] at h;grind
 |halt a b=>simp_all
theorem z7N{s:Sem Unit}{w':World}(h:(do s;pure .skip:Sem Next).run P w= .ok x w'):(∃v,x= .value v)\/x= .skip:=by
 simp only [Sem.run_bind] at h;cases hs:s.run P w with
 |ok v w1=>simp_all
 |halt a b=>simp_all
theorem j1T{ρ:Operand->Value}{o:Oper}{w':World}(a:calmOp o.op=true)(h:(execOp ρ o).run P w= .ok x w'):(∃v,x= .value v)\/x= .skip:=by unfold execOp at h;generalize o.op=op at*;cases op<;>first| (simp [calmOp] at a;done) |exact z8Z h|exact z7N h| (simp at h;exact .inl ⟨_,h.1.symm⟩)

theorem q8b{all:Array Oper}{Q1:Exit->Act->World->Prop}{Q:Exit->Act->List Frame->World->Prop}{cs:List Frame}{n:Nat}(d:∀e a w,Q1 e a w->Q e a cs w):
 ∀ (l:List Nat),(∀i∈l,∀o,all[i]?=some o->calmOp o.op=true)->∀ (a:Act) (w:World),wpOpsIn (Fw none) n P all Q1 l a w->wpOpsSIn Fence.wide n P all Q l a cs w
 | [],_,a,w,h=>d _ _ _ h
 |i :: rest,hc,a,w,h=>by
  have q:=λa w=>q8b (n:=n) d rest (λj s=>hc j (AH _ s)) a w;simp only [wpOpsIn] at h;simp only [wpOpsSIn];cases p:all[i]? with
  |none=>simp_all
  |some o=>
   rw [p] at h;simp only at h⊢;refine ⟨λf _=>trivial,?_⟩;by_cases r:Region.wanted o (yielded all a.tmps)=true
   . rw [if_pos r] at h⊢;obtain ⟨_,c⟩:=h;have b:o.uponIn (Fw none) n P a (wpOpsIn (Fw none) n P all Q1 rest) Q1 ((execOp a.eval o).run P w):=c;cases m:(execOp a.eval o).run P w with
     |ok x w'=>
      rw [m] at b;rcases j1T (hc i (by simp) o p) m with ⟨v,rfl⟩ |rfl
      . exact q _ _ b
      exact q _ _ b
     |halt x w'=>rw [m] at b;cases x<;>first|exact d _ _ _ b|exact b.elim
   simp_all

def recS:Option SV->SV
 |none=>.raw .nilIface
 |some s=>s
def AQD(K:List SObj->Prop):Ex->List SV->List SObj->Prop
 |.normal,_,H=>K H
 |.ret,_,H=>K H
 |_,_,_=>False

variable {g:FuncId}{fn:Func}{args:List SV}{pan:Option SV}{K:List SObj->Prop}
theorem j0V{id:Nat}{all:Array Oper}{x:Code}{o0:Oper}{c:Call}{d:Nat}{m:Nat}(U:enters P g=true)(O:P.funcs[g]?=some fn)(J:fn.body=some (.seq (.region id all false) x))
 (hr:fn.results= #[])(hm:all.size=m+1)(R:all[0]?=some o0)(V:o0.op= .call c)(D:c.callee= .builtin .recover)(hgd:o0.guard=none)(hd0:o0.dst=some d)(A:∀i∈(List.range m).map (1+ ·),∀o,all[i]?=some o->calmOp o.op=true)
 (W:Sound P (AQD K) ⟨H.length,[.ops all ((List.range m).map (1+ ·)),.code x],(args++List.replicate (fn.ntmps-args.length) SV.any).set d (recS pan),H⟩):DCall P g args pan H K:=by
 refine ⟨U,?_⟩;intro C vs N S Q;have B:=q0v Q;have key:∀ (b:Frame) (cs:List Frame) (u:FrameMode) (v:Value),(recS pan).den C v->((recoverD (b :: cs)=none/\v= .nilIface/\{b with mode:=u}=b)\/recoverD (b :: cs)=some (v,{b with mode:=u} :: cs))->
  (Code.seq (.region id all false) x).wpSIn Fence.wide 0 P (bodyPostS P fn b cs (afterD H C K u)) {tmps:=vs.toArray++Array.replicate (fn.ntmps-vs.toArray.size) undef,defers:=[]} (b :: cs) C.w:=by
  intro b cs u v z hrec;apply wpSIn_seq;apply wpSIn_region;have G:List.range all.size=0 :: (List.range m).map (1+ ·):=by simp_all [BR,Br]
  rw [G];simp only [wpOpsSIn,R];refine ⟨λf _=>trivial,?_⟩;have q:∀y,Region.wanted o0 y=true:=λy=>by grind [Region.wanted]
  rw [if_pos (q _)];have E:∀ρ:Operand->Value,(execOp ρ o0).run P C.w= .ok .recover C.w:=λρ=>by simp [execOp,V,resolve,D,invoke,builtin]
  rw [E];simp only;have F:Den ⟨⟨C,H⟩,[]⟩ C ((args++List.replicate (fn.ntmps-args.length) SV.any).set d (recS pan)) H (({tmps:=vs.toArray++Array.replicate (fn.ntmps-vs.toArray.size) undef,defers:=[]}:Act).put (some d) v):=by
   refine ⟨N,Ext.refl _ _,⟨rfl,S.here,trivial⟩,q9t (a:={tmps:=vs.toArray++Array.replicate (fn.ntmps-vs.toArray.size) undef,defers:=[]}) ?_ (some d) z⟩;simp only [Cs,Cd,Ce,B];refine q0w.2 ⟨vs,_,rfl,Q,?_⟩;generalize fn.ntmps-args.length=m;induction m with
   |zero=>rfl
   |succ m ih=>grind [q0c,SV.den]
  have L:=W ⟨⟨C,H⟩,[]⟩ none 0 C _ ⟨by rw [N.n];simp_all,trivial⟩ F;simp only [wpT] at L;have fin:∀ (e:Exit) (a:Act) (w:World),conc ⟨⟨C,H⟩,[]⟩ (AQD K) e a w->bodyPostS P fn b cs (afterD H C K u) e a ({b with mode:=u} :: cs) w:=by
   intro e a w h;have p:∀w,(results fn a.tmps).run P w= .ok (.tuple #[]) w:=λw=>by simp_all [results]
   cases e with
   |normal=>obtain ⟨C',t',H',r,rfl,j⟩:=h;exact ⟨j.defs.1,u,rfl,.tuple #[],p _,rfl,rfl,H',C',r,rfl,j.wd,j.ext⟩
   |ret=>obtain ⟨C',t',H',r,rfl,j⟩:=h;exact ⟨j.defs.1,u,rfl,.tuple #[],p _,rfl,rfl,H',C',r,rfl,j.wd,j.ext⟩
   |exit id=>obtain ⟨_,_,_,r,_⟩:=h;exact r.elim
   |panic ch=>obtain ⟨_,_,_,_,_,r,_⟩:=h;exact r.elim
   |goto l=>exact h.elim
   |outgrown=>exact h.elim
  have main:wpOpsSIn Fence.wide 0 P all (Exit.thenS (x.wpSIn Fence.wide 0 P (bodyPostS P fn b cs (afterD H C K u))) (bodyPostS P fn b cs (afterD H C K u))) ((List.range m).map (1+ ·)) (({tmps:=vs.toArray++Array.replicate (fn.ntmps-vs.toArray.size) undef,defers:=[]}:Act).put (some d) v) ({b with mode:=u} :: cs) C.w:=by
   refine q8b ?_ _ A _ _ L;intro e a w h;cases e with
   |normal=>
    refine wpSIn_of_wpIn rfl (wpIn_mono h λe a w h=> ?_);cases e with
    |normal=>simp_all
    |exit id=>exact fin _ _ _ h
    |ret=>simp_all
    |panic ch=>simp_all
    |goto l=>exact h.elim
    |outgrown=>exact h.elim
   |exit id=>exact fin _ _ _ (by simpa only [exitT] using h)
   |ret=>exact fin _ _ _ h
   |panic ch=>exact fin _ _ _ h
   |goto l=>exact h.elim
   |outgrown=>exact h.elim
  grind
 cases pan with
 |none=>refine callsDIn_of_wpSIn O J trivial λb cs I=> ?_;refine key b cs .returning .nilIface (by rfl) (.inl ⟨by simp [recoverD,I],rfl,?_⟩);cases b;simp_all
 |some s=>intro v z;refine callsDIn_of_wpSIn O J trivial λb cs I=> ?_;exact key b cs _ v z (.inr (by simp [recoverD,I]))

def z5m{tmps:Array Value}{R:Ending->World->Prop}{a:Array Value}{u:FrameMode}(c:u≠ .run)(d:enters P g=true)
 (h:CallsDIn Fence.wide 0 P g a u w λ
  |.returned _,u',w'=>LeavesIn Fence.wide 0 P fn tmps R [] (settle u') w'
  |.panicked chain,u',w'=>LeavesIn Fence.wide 0 P fn tmps R [] (raised u' chain) w'
  |.outgrown,_,w'=>R .outgrown w'):
 LeavesInM Fence.wide 0 P fn tmps R [{target:=.fn (.func g) a,args:= #[]}] u w:=by
 refine ⟨c,.inr ⟨(λb=>by cases b),.func g,a,g,a,rfl,?_,λ_ _=>trivial,?_⟩⟩
 . simp [invoke,q2n d]
 exact h

structure DI where
 ntmps:Nat
 results:List ResultVar
 pre:List IC
 slot:Nat
 g:Nat
 ca:List Operand
 post:IC

def deferAt:Code->Option (Nat×Nat×List Operand)
 |.region _ ops false=>match ops.toList with
  | [o0,o1]=>match o0.op,o0.dst,o0.guard,o1.op,o1.dst,o1.guard with
   |.makeFunc (.func g) fi ca,some d,none,.defer c,none,none=>match c.callee with
    |.value (.tmp d')=>if d=d'/\c.args.size=0/\fi.size=0 then some (d,g,ca.toList) else none
    |_=>none
   |_,_,_,_,_,_=>none
  |_=>none
 |_=>none
def dsplit(P:Program):Code->Option (List IC×(Nat×Nat×List Operand)×IC)
 |.seq x y=>match deferAt x with
  |some q=>match comp P y with
   |some iy=>some ([],q,iy)
   |none=>none
  |none=>match comp P x,dsplit P y with
   |some ix,some (l,q,iy)=>some (ix :: l,q,iy)
   |_,_=>none
 |_=>none
def dinfo(P:Program)(f:FuncId):Option DI:=
 match P.funcs[f]? with
 |some fn=>match fn.body with
  |some c=>match dsplit P c with
   |some (l,(d,g,ca),iy)=>if fn.name== "runtime.NumGoroutine" then none else some ⟨fn.ntmps,fn.results.toList,l,d,g,ca,iy⟩
   |none=>none
  |none=>none
 |none=>none

def AQ2(P:Program)(rs:List ResultVar)(g:FuncId)(caps:List SV)(K:Out->List SObj->Prop):Ex->List SV->List SObj->Prop
 |.normal,t,H=>DCall P g caps none H λH'=>∃s,resV P t H' rs=some s/\K (.ret s) H'
 |.ret,t,H=>DCall P g caps none H λH'=>∃s,resV P t H' rs=some s/\K (.ret s) H'
 |.pan s,t,H=>t≠ []/\DCall P g caps (some s) H λH'=>∃s,resV P t H' rs=some s/\K (.ret s) H'
 |.exit _,_,_=>False
def AQ1(P:Program)(rs:List ResultVar)(K:Out->List SObj->Prop):Ex->List SV->List SObj->Prop
 |.ret,t,H=>∃s,resV P t H rs=some s/\K (.ret s) H
 |.pan s,_,H=>K (.pan s) H
 |_,_,_=>False
def DPost(P:Program)(di:DI)(K:Out->List SObj->Prop):List SV->List SObj->Prop:=
 λt H=>di.slot<t.length/\SoundI P (AQ2 P di.results di.g (di.ca.map (evT t)) K) ⟨H.length,[.ic di.post],t.set di.slot (.fn di.g [] (di.ca.map (evT t))),H⟩

theorem q3U{F:Fence}{n:Nat}{E:EnD}{Q1 Q:Exit->Act->World->Prop}{Φ:List SV->List SObj->Prop}{b:List It}(j:∀e a w,e≠ .normal->Q1 e a w->Q e a w)(m:∀id a w,¬Q1 (.exit id) a w)(i:∀a C t H,Φ t H->Den E C t H a->wpT F n P E Q b a C.w):
 ∀ (l:List Code) (a:Act) (w:World),wpT F n P E Q1 (l.map .code++ [.stop Φ]) a w->wpT F n P E Q (l.map .code++b) a w
 | [],a,w,h=>by obtain ⟨C,t,H,h1,rfl,h2⟩:=h;grind
 |c :: l,a,w,h=>by
  simp only [Az,Ay,wpT] at h⊢;refine wpIn_mono h λe a w d=> ?_;cases e with
  |normal=>exact q3U j m i l a w d
  |exit id=>
   exfalso;have:∀ (l:List Code) (a:Act) (w:World),¬exitT F n P E Q1 id (l.map .code++ [.stop Φ]) a w:=by
    intro l;induction l with
    |nil=>grind [exitT]
    |cons c l ih=>grind [exitT]
   simp_all
  |ret=>simp_all
  |panic ch=>simp_all
  |goto l=>simp_all
  |outgrown=>simp_all

theorem z1i{x:Code}{d g:Nat}{m:List Operand}{n:Nat}{Q:Exit->Act->World->Prop}{a:Act}(h:deferAt x=some (d,g,m))
 (u:Q .normal {tmps:=a.tmps.setIfInBounds d (.func (.func g) #[] (m.map a.eval).toArray),defers:={target:=.fn (.func g) (m.map a.eval).toArray,args:= #[]} :: a.defers} w)(hsz:d<a.tmps.size):x.wpIn (Fw none) n P Q a w:=by
 unfold deferAt at h;split at h
 . rename_i id o;split at h
   . rename_i o0 o1 l;split at h
     . rename_i g' D b d' c e1 B e3 e4 v e6;split at h
       . rename_i d'' ec;split at h
         . rename_i e;obtain ⟨rfl,i,s⟩:=e;cases h;have j:o= #[o0,o1]:=by rw [<-l]
           subst j;have hfi':D= #[]:=AV s;have hargs':c.args= #[]:=AV i;apply wpIn_region;have C:List.range (#[o0,o1]:Array Oper).size= [0,1]:=rfl;rw [C];have q:∀y,Region.wanted o0 y=true:=λy=>by grind [Region.wanted]
           have p:∀y,Region.wanted o1 y=true:=λy=>by grind [Region.wanted]
           simp only [wpOpsIn,List.getElem?_toArray,List.getElem?_cons_zero,List.getElem?_cons_succ];rw [if_pos (q _)];refine ⟨λf _=>q4g none f,?_⟩;have A:(o0.semAt (Fw none).round a.eval).run P w= .ok (.value (.func (.func g) #[] (b.map a.eval))) w:=by simp_all [Oper.semAt_eq,execOp,Instr.makeFunc]
           rw [A];simp only [Oper.uponIn];rw [if_pos (p _)];refine ⟨λf _=>q4g none f,?_⟩;have hev:(a.put o0.dst (.func (.func g) #[] (b.map a.eval))).eval (.tmp d)= .func (.func g) #[] (b.map a.eval):=by simp_all [Act.put,Act.eval]
           have z:(o1.semAt (Fw none).round (a.put o0.dst (.func (.func g) #[] (b.map a.eval))).eval).run P w= .ok (.defer {target:=.fn (.func g) (b.map a.eval),args:= #[]}) w:=by simp_all [Oper.semAt_none,execOp,resolve,Deferred.ofValue]
           rw [z];simp only [Oper.uponIn];rw [B,v];have r:(List.map a.eval b.toList).toArray=b.map a.eval:=by grind
           rw [r] at u;exact u
         cases h
       cases h
     cases h
   cases h
 cases h

theorem z0K{n:Nat}{E:EnD}{Q:Exit->Act->World->Prop}:∀ {c:Code} {l:List IC} {q:Nat×Nat×List Operand} {m:IC},dsplit P c=some (l,q,m)->
 ∃ (cs:List Code) (x y:Code),deferAt x=some q/\comp P y=some m/\(cs.map (comp P)=l.map some)/\∀a w,wpT (Fw none) n P E Q (cs.map .code++ [.code x,.code y]) a w->c.wpIn (Fw none) n P Q a w
 |.seq x y,l,q,m,h=>by
  have j:∀ (k:List It),(∀i∈k,∃c,i= .code c)->∀id a w,exitT (Fw none) n P E Q id k a w->Q (.exit id) a w:=by
   intro k;induction k with
   |nil=>intro _ id a w h;exact h
   |cons i k ih=>intro u id a w h;obtain ⟨c,rfl⟩:=u i (by simp);grind [exitT]
  simp only [dsplit] at h;split at h
  . rename_i B p;split at h
    . cases h;refine ⟨[],x,y,p,by assumption,rfl,λa w d=> ?_⟩;simp only [BS,Ar,wpT] at d;refine wpIn_seq (wpIn_mono d λe a w b=> ?_);cases e with
      |normal=>refine wpIn_mono b λe a w b=> ?_;grind
      |exit id=>exact j [.code y] (by simp) id a w b
      |_=>exact b
    cases h
  split at h
  . rename_i ix l' B iy' v r;cases h;obtain ⟨cs,x',o,A,s,C,z⟩:=z0K (n:=n) (E:=E) (Q:=Q) r;refine ⟨x :: cs,x',o,A,s,by simp [v,C],λa w d=> ?_⟩;simp only [Az,Ay,wpT] at d;refine wpIn_seq (wpIn_mono d λe a w b=> ?_);cases e with
    |normal=>exact z a w b
    |exit id=>exact j (cs.map .code++ [.code x',.code o]) (by grind) id a w b
    |_=>exact b
  cases h
 |.skip,_,_,_,h=>by simp [dsplit] at h
 |.region ..,_,_,_,h=>by simp [dsplit] at h
 |.cond ..,_,_,_,h=>by simp [dsplit] at h
 |.block ..,_,_,_,h=>by simp [dsplit] at h
 |.loop _,_,_,_,h=>by simp [dsplit] at h
 |.exit _,_,_,_,h=>by simp [dsplit] at h
 |.ret,_,_,_,h=>by simp [dsplit] at h
 |.rangeFunc ..,_,_,_,h=>by simp [dsplit] at h
 |.scope _,_,_,_,h=>by simp [dsplit] at h
 |.goto _,_,_,_,h=>by simp [dsplit] at h
 |.refuse _,_,_,_,h=>by simp [dsplit] at h
 |.label _,_,_,_,h=>by simp [dsplit] at h
def q4E{Φ:List SV->List SObj->Prop}:∀ {cs:List Code} {l:List IC},cs.map (comp P)=l.map some->RelT P (l.map .ic++ [.stop Φ]) (cs.map .code++ [.stop Φ])
 | [],[],_=>⟨[],rfl,rfl⟩
 |c :: cs,ic :: l,h=>by simp only [Az,List.cons.injEq] at h;exact ⟨c,_,rfl,h.1,q4E h.2⟩
 | [],_ :: _,h=>by simp at h
 |_ :: _,[],h=>by simp at h

variable {f:FuncId}{K:Out->List SObj->Prop}
theorem j8C{S:DI}(h:dinfo P f=some S)
 (hs:SoundI P (AQ1 P S.results K) ⟨H.length,S.pre.map .ic++ [.stop (DPost P S K)],args++List.replicate (S.ntmps-args.length) .any,H⟩):VC P f args H K:=by
 unfold dinfo at h;split at h
 . rename_i fn hf;split at h
   . rename_i c hb;split at h
     . rename_i l d g F iy hd;split at h
       . cases h
       rename_i hn;cases h;refine ⟨by grind [enters],?_⟩;intro C vs hw ht hv;refine (callsIn_wide (n:=0)).1 (callsIn_of_wp_marks hf hb trivial ?_ rfl);have Y:=q0v hv;have al:Den ⟨⟨C,H⟩,[]⟩ C (args++List.replicate (fn.ntmps-args.length) .any) H {tmps:=vs.toArray++Array.replicate (fn.ntmps-vs.toArray.size) undef,defers:=[]}:=by
        refine ⟨hw,Ext.refl _ _,⟨rfl,ht.here,trivial⟩,?_⟩;simp only [Cs,Cd,Ce,Y];refine q0w.2 ⟨vs,_,rfl,hv,?_⟩;generalize fn.ntmps-args.length=m;induction m with
        |zero=>rfl
        |succ m ih=>grind [q0c,SV.den]
       obtain ⟨cs,x,y,g1,g2,g3,g4⟩:=z0K (n:=0) (E:=⟨⟨C,H⟩,[]⟩) (Q:=bodyPostM Fence.wide 0 P fn λe w'=>∃o H' C',K o H'/\C'.w=w'/\Wd C' H'/\Ext ⟨C,H⟩ C' H'/\outDen C' o e) hd;refine g4 _ _ ?_;have h1:=q0e hs (q4E g3) ⟨⟨C,H⟩,[]⟩ none 0 C _ ⟨by rw [hw.n];simp_all,trivial⟩ al;refine q3U ?_ ?_ ?_ cs _ _ h1
       . intro e a w V q;cases e with
         |normal=>simp_all
         |ret=>obtain ⟨C',t',H',⟨s,L,X⟩,rfl,B⟩:=q;have e1:a.defers= []:=B.defs.1;show LeavesInM _ _ _ _ _ _ _ _ _;rw [e1];obtain ⟨v,q1,q2⟩:=q9E (P:=P) (fn:=fn) B.wd B.tmps L;exact q6i q1 ⟨.ret s,H',C',X,rfl,B.wd,B.ext,v,rfl,q2⟩
         |panic ch=>obtain ⟨C',t',H',s,v,X,rfl,L,rfl,af,ae,ah,_⟩:=q;have e1:a.defers= []:=ah.1;show LeavesInM _ _ _ _ _ _ _ _ _;rw [e1];exact ⟨.pan s,H',C',X,rfl,af,ae,v,rfl,L⟩
         |exit id=>obtain ⟨_,_,_,q,_⟩:=q;exact q.elim
         |goto l=>exact q.elim
         |outgrown=>exact q.elim
       . rintro id a w ⟨_,_,_,q,_⟩;exact q
       intro a Z t1 H1 hΦ i;simp only [wpT];have ai:d<a.tmps.size:=by have:=q0v i.tmps;rw [Be] at this;rw [this];exact hΦ.1
       refine z1i g1 ?_ ai;have e1:a.defers= []:=i.defs.1;have p:SV.denL Z (F.map (evT t1)) (F.map a.eval):=q1V _ λx _=>q2f i.tmps x;have N:Den ⟨⟨Z,H1⟩,[{target:=.fn (.func g) (F.map a.eval).toArray,args:= #[]}]⟩ Z (t1.set d (.fn g [] (F.map (evT t1)))) H1 {tmps:=a.tmps.setIfInBounds d (.func (.func g) #[] (F.map a.eval).toArray),defers:={target:=.fn (.func g) (F.map a.eval).toArray,args:= #[]} :: a.defers}:=by refine ⟨i.wd,Ext.refl _ _,⟨by rw [e1],i.defs.2.1.tab.here,trivial⟩,q9t (a:=a) i.tmps (some d) ?_⟩;rw [SV.den];exact ⟨[],_,rfl,q0y.2 rfl,p⟩
       have h2:=q0e hΦ.2 ⟨y,[],rfl,g2,rfl⟩ _ none 0 Z _ ⟨by rw [i.wd.n];simp_all,trivial⟩ N;simp only [wpT] at h2;refine wpIn_mono h2 λe a2 w2 q=> ?_;have fin:∀ (r:Cx) (D:List SV) (A:List SObj) (pan:Option SV) (u:FrameMode) (u2:FrameMode),u≠ .run->settle u2= .returning->DCall P g (F.map (evT t1)) pan A (λH'=>∃s,resV P D H' fn.results.toList=some s/\K (.ret s) H')->r.w=w2->Wd r A->Ext ⟨Z,H1⟩ r A->a2.defers= [{target:=.fn (.func g) (F.map a.eval).toArray,args:= #[]}]->SV.denL r D a2.tmps.toList->
        (∀ {R:Ending->FrameMode->World->Prop},(∀e G w',afterD A r (λH'=>∃s,resV P D H' fn.results.toList=some s/\K (.ret s) H') u2 e G w'->R e G w')->CallsDIn Fence.wide 0 P g (F.map a.eval).toArray u r.w R)->
        LeavesInM Fence.wide 0 P fn a2.tmps (λe w'=>∃o H' C',K o H'/\C'.w=w'/\Wd C' H'/\Ext ⟨C,H⟩ C' H'/\outDen C' o e) a2.defers u w2:=by
        intro r D A pan u u2 hu aa j z hwd hx ab ad O;subst z;rw [ab];refine z5m hu j.1 (O ?_);rintro e G w' ⟨rfl,rfl,H3,C3,⟨s,ag,X⟩,rfl,W,U⟩;simp only;rw [aa];obtain ⟨v,q1,q2⟩:=q9E (P:=P) (fn:=fn) (a:=a2) W (q0f U.evo ad) ag;exact ⟨v,q1,.ret s,H3,C3,X,rfl,W,i.ext.trans (hx.trans U),v,rfl,q2⟩
       cases e with
       |normal=>obtain ⟨r,D,A,j,z,b⟩:=q;exact fin r D A none .returning .returning (by simp) rfl j z b.wd b.ext b.defs.1 b.tmps λhR=>(j.2 r _ b.wd (i.defs.2.1.tab.next b.ext) (q0f b.ext.evo p)).mono λe G w' h=>hR e G w' h
       |ret=>obtain ⟨r,D,A,j,z,b⟩:=q;exact fin r D A none .returning .returning (by simp) rfl j z b.wd b.ext b.defs.1 b.tmps λhR=>(j.2 r _ b.wd (i.defs.2.1.tab.next b.ext) (q0f b.ext.evo p)).mono λe G w' h=>hR e G w' h
       |panic ch=>obtain ⟨r,D,A,s,v,⟨V,j⟩,rfl,aj,z,I,J,ac,ak⟩:=q;have ht2':=ak.resolve_left V;exact fin r D A (some s) (.panicking [{v,recovered:=false}]) (.panicking [{v,recovered:=true}]) (by simp) rfl j z I J ac.1 ht2' λhR=>(j.2 r _ I (i.defs.2.1.tab.next J) (q0f J.evo p) v aj).mono λe G w' h=>hR e G w' h
       |exit id=>obtain ⟨_,_,_,q,_⟩:=q;exact q.elim
       |goto l=>exact q.elim
       |outgrown=>exact q.elim
     cases h
   cases h
 cases h
structure RI where
 ntmps:Nat
 slot:Nat
 ops:List OpI
 code:IC
def isRec(o:Oper):Bool:=match o.op with
 |.call c=>match c.callee with
  |.builtin .recover=>true
  |_=>false
 |_=>false
def rinfo(P:Program)(g:FuncId):Option RI:=
 match P.funcs[g]? with
 |some fn=>match fn.body with
  |some (.seq (.region _ all false) x)=>match all.toList with
   |o0 :: os=>match o0.dst,o0.guard,compL P all os,comp P x with
    |some d,none,some l,some ix=>if isRec o0=true/\os.all (λo=>calmOp o.op)=true/\fn.results.size=0/\(fn.name== "runtime.NumGoroutine")=false then some ⟨fn.ntmps,d,l,ix⟩ else none
    |_,_,_,_=>none
   | []=>none
  |_=>none
 |none=>none
variable {K:List SObj->Prop}
theorem j4d{m:RI}(h:rinfo P g=some m)
 (A:SoundI P (AQD K) ⟨H.length,[.ops m.ops,.ic m.code],(args++List.replicate (m.ntmps-args.length) SV.any).set m.slot (recS pan),H⟩):DCall P g args pan H K:=by
 unfold rinfo at h;split at h
 . rename_i fn v;split at h
   . rename_i id all x s;split at h
     . rename_i o0 os b;split at h
       . rename_i d l ix r u z B;split at h
         . rename_i D;cases h;obtain ⟨a,hc2,p,hc4⟩:=D;have q:enters P g=true:=by grind [enters]
           have C:all.size=os.length+1:=by grind [Array.length_toList]
           have n:∀j,os[j]?=all[1+j]?:=λj=>by rw [<-Cj,b,Br];rfl
           unfold isRec at a;split at a
           . rename_i c y;split at a
             . rename_i e;refine j0V q v s (AV p) C (o0:=o0) (by rw [<-Cj,b];rfl) y e u r (λi hi o hio=> ?_) (q0e (td':=[It.ops all ((List.range os.length).map (1+ ·)),It.code x]) A ⟨all,_,_,rfl,q7B 1 n z,x,[],rfl,B,rfl⟩);grind
             cases a
           cases a
         cases h
       cases h
     cases h
   cases h
 cases h
attribute [go_sem] AQD AQ1 AQ2 DPost recS List.map_cons List.map_nil
def recE{a:RI}{q:Prop}(b:P.follows .mixedOrders=true)(c:rinfo P g=some a)(h:q)
 (e:run P (AQD K) 600 ⟨H.length,[.ops a.ops,.ic a.code],(args++List.replicate (a.ntmps-args.length) SV.any).set a.slot (recS pan),H⟩=q:=by (simp (maxSteps:=3000000) only [go_sem,↓zA,↓reduceIte,↓reduceDIte];(try simp only [zB]);rfl)):DCall P g args pan H K:=j4d c (q0o b 600 _ (Eq.mpr e h))
def defE{a:DI}{K:Out->List SObj->Prop}{q:Prop}(b:P.follows .mixedOrders=true)(c:dinfo P f=some a)(h:q)
 (e:run P (AQ1 P a.results K) 600 ⟨H.length,a.pre.map .ic++ [.stop (DPost P a K)],args++List.replicate (a.ntmps-args.length) .any,H⟩=q:=by (simp (maxSteps:=3000000) only [go_sem,↓zA,↓reduceIte,↓reduceDIte];(try simp only [zB]);rfl)):VC P f args H K:=j8C c (q0o b 600 _ (Eq.mpr e h))
abbrev zs:Value:=.slice none 0 0
abbrev zi:Value:=.int .i64 0
abbrev ze:Value:=.string ⟨#[]⟩
def kT:Operand:=.const (.bool true)
def kF:Operand:=.const (.bool false)
def kS:Operand:=.const (.slice none 0 0)
def kE:Operand:=.const (.string ⟨#[]⟩)
def fA(d k x:Nat):OpI:=⟨some d,.fa k (.tmp x),none⟩
def lD(d x:Nat):OpI:=⟨some d,.ld none (.tmp x),none⟩
def lG(d n x:Nat):OpI:=⟨some d,.ld (some n) (.tmp x),none⟩
def c0(d f:Nat):OpI:=⟨some d,.call (.func f) [],none⟩
def c1(d f a:Nat):OpI:=⟨some d,.call (.func f) [.tmp a],none⟩
def c2(d f a b:Nat):OpI:=⟨some d,.call (.func f) [.tmp a,.tmp b],none⟩
def c3(d f a b c:Nat):OpI:=⟨some d,.call (.func f) [.tmp a,.tmp b,.tmp c],none⟩
def bN(d:Nat)(o:BinOp)(k x y:Nat):OpI:=⟨some d,.bin o k (.tmp x) (.tmp y),none⟩
def nT(d x:Nat):OpI:=⟨some d,.un .not (.tmp x),none⟩
def lN(d:Nat)(b:Bool)(x:Nat):OpI:=⟨some d,.len b (.tmp x),none⟩
def iA(d s x y:Nat):OpI:=⟨some d,.ia s (.tmp x) (.tmp y),none⟩
def sT(n x y:Nat):OpI:=⟨none,.st n (.tmp x) (.tmp y),none⟩
def tS(d x:Nat):OpI:=⟨some d,.toStr true (.tmp x),none⟩
def mI(d:Nat)(n:Int):OpI:=⟨some d,.mov (.const (.int .i64 n)),none⟩
def aI(d x:Nat):OpI:=⟨some d,.bin .add 0 (.tmp x) (.const (.int .i64 1)),none⟩
def qR(l:List OpI)(b:IC):IC:=.seq (.reg l) b
def cE(x k:Nat):IC:=.cond (.tmp x) .skip (.exit k)
def pT(d x y:Nat):OpI:=⟨some d,.pick (.tmp x) (.const (.bool true)) (.tmp y),none⟩
def pF(d x y:Nat):OpI:=⟨some d,.pick (.tmp x) (.tmp y) (.const (.bool false)),none⟩
def z17:List Value:=[zs,ze,zs,.int .u32 0,zi,zs,ze,zi,zi,zi,zi,zi,zi,zi,zs,zs,zs]
def z5:List Value:=[zi,zs,ze,zi,zi]
def fF(d k x g:Nat):OpI:=⟨some d,.fa k (.tmp x),some (g,false)⟩
def fT(d k x g:Nat):OpI:=⟨some d,.fa k (.tmp x),some (g,true)⟩
def lF(d x g:Nat):OpI:=⟨some d,.ld none (.tmp x),some (g,false)⟩
def lT(d x g:Nat):OpI:=⟨some d,.ld none (.tmp x),some (g,true)⟩
def vF(d x g:Nat):OpI:=⟨some d,.mov (.tmp x),some (g,false)⟩
def vT(d x g:Nat):OpI:=⟨some d,.mov (.tmp x),some (g,true)⟩
def bC(d:Nat)(o:BinOp)(x:Nat)(n:Int):OpI:=⟨some d,.bin o 0 (.tmp x) (ci n),none⟩
def nL(d x:Nat):OpI:=⟨some d,.nil (.tmp x),none⟩
def T(n:Nat):Operand:=.tmp n
def tt(o:OpI):Bool×OpI:=(true,o)
def ft(o:OpI):Bool×OpI:=(false,o)
def bx(d t x:Nat):OpI:=⟨some d,.box t (.tmp x),none⟩
def mS(d:Nat):OpI:=⟨some d,.mov (.const (.slice none 0 0)),none⟩
def mB(d:Nat)(b:Bool):OpI:=⟨some d,.mov (.const (.bool b)),none⟩
def cl(d f:Nat)(l:List Operand):OpI:=⟨some d,.call (.func f) l,none⟩
def iZ(d a b x y:Nat):OpI:=⟨some d,.iaa a b (.tmp x) (.tmp y),none⟩
def pV(a b c t:Nat):IC:=.reg [⟨some a,.mov (.tmp b),none⟩,⟨some c,.mki t (.tmp a),none⟩,⟨none,.pan (.tmp c),none⟩]
def pN(c t:Nat)(n:Int):IC:=.reg [⟨some c,.mki t (.const (.int .i64 n)),none⟩,⟨none,.pan (.tmp c),none⟩]
def iN(a b c:Nat):IC:=.reg [⟨some a,.bin .add 0 (.tmp b) (.const (.int .i64 1)),none⟩,⟨some c,.mov (.tmp a),none⟩]
def kU(k:IntKind)(n:Int):Operand:=.const (.int k n)
def kP:Operand:=.const (.pointer none)
abbrev zp:Value:=.pointer none
def rR(l:List OpI):IC:=.seq (.reg l) .ret
def cI(n:Nat)(x:IC):IC:=.cond (.tmp n) x .skip
attribute [go_sem] bx mS mB cl iZ pV pN iN kU kP zp rR cI fF fT lF lT vF vT bC nL T tt ft qR zs zi ze kT kF kS kE fA lD lG c0 c1 c2 c3 bN nT lN iA sT tS mI aI cE pT pF z17 z5
end Go.Sx
namespace Go.Proofs.YthbcodbcndiapaaGreatDoor
open Go Go.Sx Go.Proofs
set_option maxRecDepth 100000
def Fi0(n:Nat)(i:FI)(h:finfo Tryz.prog n=some i:=by kernel_rfl):finfo Tryz.prog n=some i:=h
@[go_sem] theorem ag4:aggOf Tryz.prog 4=some none:=by kernel_rfl
@[go_sem] theorem ag24:aggOf Tryz.prog 24=some (some 2):=by kernel_rfl
@[go_sem] theorem ag27:aggOf Tryz.prog 27=some (some 3):=by kernel_rfl
@[go_sem] theorem ag28:aggOf Tryz.prog 28=some none:=by kernel_rfl
@[go_sem] theorem ag30:aggOf Tryz.prog 30=some (some 10):=by kernel_rfl
@[go_sem] theorem ag33:aggOf Tryz.prog 33=some none:=by kernel_rfl
@[go_sem] theorem ag44:aggOf Tryz.prog 44=some (some 3):=by kernel_rfl
@[go_sem] theorem ag141:aggOf Tryz.prog 141=some (some 8):=by kernel_rfl
@[go_sem] theorem ag234:aggOf Tryz.prog 234=some (some 32):=by kernel_rfl
@[go_sem] theorem ag256:aggOf Tryz.prog 256=some (some 2):=by kernel_rfl
@[go_sem] theorem ag292:aggOf Tryz.prog 292=some (some 64):=by kernel_rfl
@[go_sem] theorem ag300:aggOf Tryz.prog 300=some (some 73):=by kernel_rfl
def ir8:FI:=⟨41,[.tmp 2],(qR [bx 1 30 0,mB 2 false] (.seq (qR [mI 3 0] (.blk 0 (.loop (.seq (qR [mv 4 3,fA 5 9 1,lD 6 5,lN 7 false 6,bN 8 .lss 0 4 7] (cE 8 0)) (.seq (.blk 1 (qR [fA 11 9 1,lD 12 11,lN 13 false 12,bC 14 .gtr 13 20,mv 15 14,fF 16 9 1 15,lF 17 16 15,vF 18 3 15,oF 19 (.ia 2 (T 17) (T 18)) 15,fF 20 1 19 15,lF 21 20 15,oF 22 (.len false (T 21)) 15,oF 23 (.bin .gtr 0 (T 22) (ci 300)) 15,pT 24 15 23] (cI 24 (rR [mB 2 false])))) (.reg [mv 9 3,aI 10 9,mv 3 10])))))) (rR [fA 25 0 1,lG 26 2 25,c1 27 22 26,mv 28 27,fT 29 2 1 28,lT 30 29 28,oT 31 (.len false (T 30)) 28,oT 32 (.bin .leq 0 (T 31) (ci 300)) 28,pF 33 28 32,mv 34 33,fT 35 5 1 34,fT 36 2 35 34,lT 37 36 34,oT 38 (.len false (T 37)) 34,oT 39 (.bin .leq 0 (T 38) (ci 300)) 34,pF 40 34 39,mv 2 40])))⟩
def fi8:=Fi0 8 ir8
def ir9:FI:=⟨110,[.tmp 0],(qR [mB 0 false] (qR [o1 14 (.call (.func 29) [(.const (.string ⟨#[97]⟩))]),o1 15 (.bld [zs,ze,zs,zi,zi,zi,zi,zs,zi,zs] (.fields [(0,2),(2,1),(3,1),(4,1),(5,3),(8,1),(9,1)]) [(0,(T 14)),(2,(ci 10)),(3,(ci 7)),(5,(ci 1))]),o1 1 (.new 30 [zs,ze,zs,zi,zi,zi,zi,zs,zi,zs]),sT 10 1 15] (qR [cl 16 30 [(kU .u8 1),(ci 16)],o1 17 (.bld [zi,zi,zs] (.fields [(0,1),(1,1),(2,1)]) [(0,(ci 1)),(2,(T 16))]),o1 2 (.new 27 [zi,zi,zs]),sT 3 2 17] (qR [lG 19 10 1,c1 20 10 19,mv 18 20,ex 21 0 18,ex 22 1 18,mv 3 21,mv 4 22] (.seq (.drw [tt (lG 24 3 2),tt (lG 25 10 1),tt (cl 26 30 [(kU .u8 3),(ci 16)]),tt (cl 27 18 [(T 24),(ci 11),(T 25),(T 26)]),tt (mv 23 27),tt (ex 28 0 23),tt (ex 29 1 23),ft (o1 5 (.new 44 [zi,zi,zs])),ft (sT 3 5 28),tt (mv 6 29)]) (qR [lG 31 3 2,lG 32 3 5,cl 33 20 [(T 31),(ci 11),(T 32)],mv 30 33,ex 34 0 30,ex 35 1 30,o1 7 (.new 30 [zs,ze,zs,zi,zi,zi,zi,zs,zi,zs]),sT 10 7 34,mv 8 35] (qR [lG 37 3 2,lG 38 3 5,cl 39 20 [(T 37),(ci 7),(T 38)],mv 36 39,ex 40 0 36,ex 41 1 36,o1 9 (.new 30 [zs,ze,zs,zi,zi,zi,zi,zs,zi,zs]),sT 10 9 40,mv 10 41] (qR [o1 43 (.bsl .u8 2 1 [(.int .u8 0),(.int .u8 0)] [(0,(kU .u8 98)),(1,(kU .u8 0))]),c1 44 15 43,mv 42 44,ex 45 0 42,ex 46 1 42,o1 11 (.new 30 [zs,ze,zs,zi,zi,zi,zi,zs,zi,zs]),sT 10 11 45,mv 12 46] (qR [lG 47 10 1,o1 13 (.new 30 [zs,ze,zs,zi,zi,zi,zi,zs,zi,zs]),sT 10 13 47] (qR [fA 48 4 13,o0 (.st 1 (T 48) (ci 8))] (.seq (qR [mv 49 4,c1 50 13 49,mv 51 6,c1 52 13 51,bN 53 .add 0 50 52,mv 54 8,c1 55 13 54,bN 56 .add 0 53 55,bC 57 .neq 56 0,mv 58 57,vF 59 3 58,oF 60 (.len false (T 59)) 58,oF 61 (.bin .neq 0 (T 60) (ci 45)) 58,pT 62 58 61,mv 63 62,vF 64 3 63,oF 65 (.ia 1 (T 64) (ci 0)) 63,lF 66 65 63,oF 67 (.bin .neq 0 (T 66) (kU .u8 98)) 63,pT 68 63 67,mv 69 68,oF 70 (.ld (some 10) (T 1)) 69,oF 71 (.ld (some 10) (T 7)) 69,oF 72 (.call (.func 17) [(T 70),(T 71)]) 69,oF 73 (.un .not (T 72)) 69,pT 74 69 73,mv 75 74,vF 76 10 75,oF 77 (.call (.func 13) [(T 76)]) 75,oF 78 (.bin .neq 0 (T 77) (ci 10)) 75,pT 79 75 78,mv 80 79,vF 81 12 80,oF 82 (.call (.func 13) [(T 81)]) 80,oF 83 (.bin .neq 0 (T 82) (ci 6)) 80,pT 84 80 83,mv 85 84,oF 86 (.ld (some 10) (T 1)) 85,oF 87 (.ld (some 10) (T 13)) 85,oF 88 (.call (.func 25) [(T 86),(T 87)]) 85,oF 89 (.bin .neq 0 (T 88) (.const (.int .i64 (-1)))) 85,pT 90 85 89] (cI 90 (rR [mB 0 false]))) (.seq (.drw [tt (lG 91 10 1),ft (o1 92 (.call (.func 29) [(.const (.string ⟨#[97]⟩))])),ft (cl 93 23 [(T 91),(T 92),(ci 15),(ci 5)]),ft (c1 94 13 93),tt (bC 95 .eql 94 0),tt (mv 96 95),tt (oT 97 (.ld (some 10) (T 1)) 96),ft (oT 98 (.call (.func 29) [(.const (.string ⟨#[97]⟩))]) 96),ft (oT 99 (.call (.func 23) [(T 97),(T 98),(ci 16),(ci 5)]) 96),ft (oT 100 (.call (.func 13) [(T 99)]) 96),tt (oT 101 (.bin .eql 0 (T 100) (ci 181)) 96),tt (pF 102 96 101),tt (mv 103 102),tt (oT 104 (.ld (some 10) (T 1)) 103),ft (oT 105 (.call (.func 29) [(.const (.string ⟨#[98]⟩))]) 103),ft (oT 106 (.call (.func 23) [(T 104),(T 105),(ci 15),(ci 5)]) 103),ft (oT 107 (.call (.func 13) [(T 106)]) 103),tt (oT 108 (.bin .eql 0 (T 107) (ci 180)) 103),tt (pF 109 103 108),tt (mv 0 109)]) .ret))))))))))))⟩
def fi9:=Fi0 9 ir9
def ir10:FI:=⟨58,[.tmp 2,.tmp 3],(qR [bx 1 30 0,mS 2,mI 3 0] (.seq (qR [lG 8 10 1,c1 9 11 8,nT 10 9] (cI 10 (rR [mS 2,mI 3 2]))) (qR [fA 12 0 1,lG 13 2 12,c1 14 31 13,mv 11 14,ex 15 0 11,ex 16 1 11,mv 4 15,mv 5 16] (qR [o1 17 (.mkm (some .i64)),o1 18 (.mkf 32 [] [(T 1)]),o0 (.mup (some .i64) (T 17) (ci 2) (T 18)),o1 19 (.mkf 35 [] [(T 1)]),o0 (.mup (some .i64) (T 17) (ci 5) (T 19)),o1 20 (.mkf 37 [] [(T 1)]),o0 (.mup (some .i64) (T 17) (ci 7) (T 20)),mv 21 17,mv 6 21] (.seq (.drw [tt (mv 22 6),tt (o1 23 (.mlk (some .i64) .nilFunc false (T 22) (ci 2))),tt (mv 26 4),ft (cl 24 39 [(ci 5)]),ft (cl 25 33 [(ci 0),(T 24)]),ft (cl 27 33 [(ci 1),(T 26)]),ft (o1 28 (.bsl (.slice .u8) 2 1 [zs,zs] [(0,(T 25)),(1,(T 27))])),ft (o1 29 (.call (T 23) [(T 28)])),tt (mv 7 29)]) (.seq (.drw [tt (mv 30 7),tt (fA 31 4 1),tt (lD 32 31),tt (fA 35 3 1),tt (lD 36 35),ft (c1 33 39 32),ft (cl 34 33 [(ci 3),(T 33)]),ft (c1 37 40 36),ft (cl 38 33 [(ci 4),(T 37)]),ft (o1 39 (.bsl (.slice .u8) 2 1 [zs,zs] [(0,(T 34)),(1,(T 38))])),ft (o1 40 (.app (.slice .u8) 24 (T 30) (T 39))),tt (mv 7 40)]) (.seq (.drw [tt (mv 41 6),tt (o1 42 (.mlk (some .i64) .nilFunc false (T 41) (ci 5))),tt (mv 43 7),tt (fA 45 8 1),tt (lD 46 45),ft (o1 44 (.call (T 42) [(T 43)])),ft (c1 47 39 46),ft (cl 48 33 [(ci 6),(T 47)]),ft (o1 49 (.bsl (.slice .u8) 1 1 [zs] [(0,(T 48))])),ft (o1 50 (.app (.slice .u8) 24 (T 44) (T 49))),tt (mv 7 50)]) (qR [mv 51 6,o1 52 (.mlk (some .i64) .nilFunc false (T 51) (ci 7)),mv 53 7,o1 54 (.call (T 52) [(T 53)]),mv 7 54] (rR [mv 55 7,c1 56 42 55,cl 57 41 [(ci 2),(T 56)],mv 2 57,mI 3 0])))))))))⟩
def fi10:=Fi0 10 ir10
def ir11:FI:=⟨58,[.tmp 2],(qR [bx 1 30 0,mB 2 false] (rR [fA 3 0 1,lG 4 2 3,c1 5 43 4,mv 6 5,fT 7 2 1 6,lT 8 7 6,oT 9 (.len false (T 8)) 6,oT 10 (.bin .leq 0 (T 9) (ci 64)) 6,pF 11 6 10,mv 12 11,fT 13 3 1 12,lT 14 13 12,oT 15 (.call (.func 44) [(T 14)]) 12,pF 16 12 15,mv 17 16,fT 18 4 1 17,lT 19 18 17,oT 20 (.bin .geq 0 (T 19) (ci 0)) 17,pF 21 17 20,mv 22 21,fT 23 4 1 22,lT 24 23 22,oT 25 (.bin .lss 0 (T 24) (ci 1000000)) 22,pF 26 22 25,mv 27 26,fT 28 5 1 27,oT 29 (.ld (some 3) (T 28)) 27,oT 30 (.call (.func 45) [(T 29)]) 27,vT 31 30 27,fF 32 5 1 31,oF 33 (.ld (some 3) (T 32)) 31,oF 34 (.call (.func 46) [(T 33)]) 31,vF 35 34 31,fT 36 5 1 35,fT 37 1 36 35,lT 38 37 35,oT 39 (.bin .eql 0 (T 38) (ci 0)) 35,oF 40 (.pick (T 35) (T 39) kF) 31,oT 41 (.pick (T 31) kT (T 40)) 27,pF 42 27 41,mv 43 42,fT 44 8 1 43,lT 45 44 43,oT 46 (.bin .geq 0 (T 45) (ci 0)) 43,pF 47 43 46,mv 48 47,fT 49 8 1 48,lT 50 49 48,oT 51 (.bin .lss 0 (T 50) (ci 4294967296)) 48,pF 52 48 51,mv 53 52,fT 54 9 1 53,lT 55 54 53,oT 56 (.call (.func 47) [(T 55)]) 53,pF 57 53 56,mv 2 57]))⟩
def fi11:=Fi0 11 ir11
def ir13:FI:=⟨4,[.tmp 2],(qR [mI 2 0] (rR [mv 3 0,mv 2 3]))⟩
def fi13:=Fi0 13 ir13
def ir15:DI:=⟨102,[.cell 2 30,.cell 3 33],[(.reg [o1 2 (.new 30 [zs,ze,zs,zi,zi,zi,zi,zs,zi,zs]),o1 3 (.new 33 [zi])])],8,62,[(T 2),(T 3)],(qR [mv 9 0,c1 10 63 9,o1 11 (.bld [zp] (.fields [(0,1)]) [(0,(T 10))]),o1 4 (.new 85 [zp]),sT 1 4 11] (qR [fA 12 0 4,lD 13 12,cl 14 65 [(T 13),(ci 2)],ex 15 0 14,ex 16 1 14,c2 17 64 15 16,o1 18 (.bld [zp] (.fields [(0,1)]) [(0,(T 17))]),o1 5 (.new 85 [zp]),sT 1 5 18] (qR [fA 19 0 5,lD 20 19,c1 21 66 20,ex 22 0 21,ex 23 1 21,c2 24 64 22 23,o1 25 (.bld [zp] (.fields [(0,1)]) [(0,(T 24))]),o1 6 (.new 85 [zp]),sT 1 6 25] (qR [lG 26 1 5,c1 27 67 26] (qR [lG 28 1 4,c1 29 67 28] (.seq (.drw [tt (lG 30 1 6),tt (lG 31 1 6),ft (cl 32 69 [(T 31),(ci 0),(.func 70)]),tt (bC 33 .eql 32 5),ft (c2 34 68 30 33)]) (qR [lG 35 1 6,cl 36 71 [(T 35),(ci 1),(.func 72)],fA 37 0 2,sT 2 37 36] (qR [mB 7 false] (qR [lG 39 1 6,cl 40 73 [(T 39),(ci 2),(.func 74)],mv 38 40,ex 41 0 38,ex 42 1 38,fA 43 2 2,sT 1 43 41,mv 7 42] (qR [lG 44 1 6,mv 45 7,nT 46 45,mv 47 46,fF 48 2 2 47,lF 49 48 47,oF 50 (.len false (T 49)) 47,oF 51 (.bin .gtr 0 (T 50) (ci 0)) 47,pT 52 47 51,c2 53 68 44 52] (qR [lG 54 1 6,cl 55 69 [(T 54),(ci 3),(.func 70)],fA 56 4 2,sT 1 56 55] (qR [lG 57 1 6,cl 58 69 [(T 57),(ci 4),(.func 75)],fA 59 3 2,sT 1 59 58] (qR [lG 61 1 6,cl 62 76 [(T 61),(ci 5),(.func 77)],mv 60 62,ex 63 0 60,ex 64 1 60,fA 65 5 2,sT 3 65 63,mv 7 64] (qR [lG 66 1 6,mv 67 7,nT 68 67,mv 69 68,fF 70 5 2 69,fF 71 0 70 69,lF 72 71 69,oF 73 (.bin .neq 0 (T 72) (ci 0)) 69,pT 74 69 73,c2 75 68 66 74] (qR [lG 76 1 6,cl 77 69 [(T 76),(ci 6),(.func 70)],fA 78 8 2,sT 1 78 77] (qR [lG 80 1 6,cl 81 78 [(T 80),(ci 7),(.func 79)],mv 79 81,ex 82 0 79,ex 83 1 79,fA 84 9 2,sT 1 84 82,mv 7 83] (qR [lG 85 1 6,mv 86 7,nT 87 86,mv 88 87,fF 89 9 2 88,lF 90 89 88,oF 91 (.len false (T 90)) 88,oF 92 (.bin .gtr 0 (T 91) (ci 0)) 88,pT 93 88 92,c2 94 68 85 93] (qR [lG 95 1 6,c1 96 67 95] (.seq (.drw [tt (lG 97 1 6),tt (lG 98 10 2),ft (c1 99 11 98),ft (c2 100 68 97 99)]) (rR [lG 101 10 2,sT 10 2 101,o0 (.st 1 (T 3) (ci 0))]))))))))))))))))))))⟩
def fi15:dinfo Tryz.prog 15=some ir15:=by kernel_rfl
def ir17:FI:=⟨54,[.tmp 4],(qR [bx 2 30 0,bx 3 30 1,mB 4 false] (rR [fA 5 0 2,lG 6 2 5,fA 7 0 3,lG 8 2 7,c2 9 87 6 8,mv 10 9,fT 11 2 2 10,lT 12 11 10,oT 13 (.toStr true (T 12)) 10,fT 14 2 3 10,lT 15 14 10,oT 16 (.toStr true (T 15)) 10,oT 17 (.bin .eql 0 (T 13) (T 16)) 10,pF 18 10 17,mv 19 18,fT 20 3 2 19,lT 21 20 19,fT 22 3 3 19,lT 23 22 19,oT 24 (.bin .eql 0 (T 21) (T 23)) 19,pF 25 19 24,mv 26 25,fT 27 4 2 26,lT 28 27 26,fT 29 4 3 26,lT 30 29 26,oT 31 (.bin .eql 0 (T 28) (T 30)) 26,pF 32 26 31,mv 33 32,fT 34 5 2 33,oT 35 (.ld (some 3) (T 34)) 33,fT 36 5 3 33,oT 37 (.ld (some 3) (T 36)) 33,oT 38 (.call (.func 88) [(T 35),(T 37)]) 33,pF 39 33 38,mv 40 39,fT 41 8 2 40,lT 42 41 40,fT 43 8 3 40,lT 44 43 40,oT 45 (.bin .eql 0 (T 42) (T 44)) 40,pF 46 40 45,mv 47 46,fT 48 9 2 47,lT 49 48 47,fT 50 9 3 47,lT 51 50 47,oT 52 (.call (.func 89) [(T 49),(T 51)]) 47,pF 53 47 52,mv 4 53]))⟩
def fi17:=Fi0 17 ir17
def ir22:FI:=⟨28,[.tmp 2],(qR [bx 1 24 0,mB 2 false] (.seq (qR [mI 3 0] (.blk 0 (.loop (.seq (qR [mv 4 3,fA 5 0 1,lD 6 5,lN 7 false 6,bN 8 .lss 0 4 7] (cE 8 0)) (.seq (.blk 1 (qR [fA 11 0 1,lD 12 11,mv 13 3,iA 14 1 12 13,lD 15 14,lN 16 true 15,bC 17 .gtr 16 40] (cI 17 (rR [mB 2 false])))) (.reg [mv 9 3,aI 10 9,mv 3 10])))))) (rR [fA 18 0 1,lD 19 18,lN 20 false 19,bC 21 .leq 20 6,mv 22 21,fT 23 1 1 22,lT 24 23 22,oT 25 (.len true (T 24)) 22,oT 26 (.bin .leq 0 (T 25) (ci 40)) 22,pF 27 22 26,mv 2 27])))⟩
def fi22:=Fi0 22 ir22
def ir23:FI:=⟨44,[.tmp 8],(qR [bx 4 30 0,bx 5 24 1,mI 8 0] (.seq (.blk 0 (qR [lG 10 10 4,c1 11 11 10,nT 12 11,mv 13 12,oF 14 (.ld (some 2) (T 5)) 13,oF 15 (.call (.func 43) [(T 14)]) 13,oF 16 (.un .not (T 15)) 13,pT 17 13 16,mv 18 17,vF 19 2 18,oF 20 (.call (.func 44) [(T 19)]) 18,oF 21 (.un .not (T 20)) 18,pT 22 18 21,mv 23 22,vF 24 3 23,oF 25 (.bin .lss 0 (T 24) (ci 0)) 23,pT 26 23 25,mv 27 26,vF 28 3 27,oF 29 (.bin .gtr 0 (T 28) (ci 86400)) 27,pT 30 27 29,mv 9 30] (.cond (T 9) (rR [mI 8 2]) (qR [fA 32 0 4,lG 33 2 32,lG 34 2 5,c2 35 94 33 34,nT 36 35,mv 31 36] (.cond (T 31) (rR [mI 8 180]) (qR [fA 38 3 4,lD 39 38,mv 40 2,mv 41 3,c3 42 95 39 40 41,nT 43 42,mv 37 43] (cI 37 (rR [mI 8 181])))))))) (rR [mI 8 0])))⟩
def fi23:=Fi0 23 ir23
def ir25:FI:=⟨9,[.tmp 4],(qR [bx 2 30 0,bx 3 30 1,mI 4 0] (rR [lG 5 10 2,lG 6 10 3,o1 7 (.bsf 122 1 2 [.nilFunc,.nilFunc] [(0,(.func 98)),(1,(.func 99))]),c3 8 97 5 6 7,mv 4 8]))⟩
def fi25:=Fi0 25 ir25
def ir27:FI:=⟨54,[.tmp 4],(qR [bx 2 30 0,bx 3 30 1,mB 4 false] (qR [o1 5 (.mov (.func 100))] (rR [fA 6 0 2,lG 7 2 6,fA 8 0 3,lG 9 2 8,c2 10 94 7 9,mv 11 10,fT 12 2 2 11,lT 13 12 11,fT 14 2 3 11,lT 15 14 11,oT 16 (.call (.func 101) [(T 13),(T 15)]) 11,pF 17 11 16,mv 18 17,fT 19 3 2 18,lT 20 19 18,fT 21 3 3 18,lT 22 21 18,oT 23 (.bin .eql 0 (T 20) (T 22)) 18,pF 24 18 23,mv 25 24,fT 26 4 2 25,lT 27 26 25,fT 28 4 3 25,lT 29 28 25,oT 30 (.bin .eql 0 (T 27) (T 29)) 25,pF 31 25 30,mv 32 31,fT 33 5 2 32,oT 34 (.ld (some 3) (T 33)) 32,fT 35 5 3 32,oT 36 (.ld (some 3) (T 35)) 32,oT 37 (.call (.func 102) [(T 34),(T 36)]) 32,pF 38 32 37,mv 39 38,fT 40 8 2 39,lT 41 40 39,fT 42 8 3 39,lT 43 42 39,oT 44 (.bin .eql 0 (T 41) (T 43)) 39,pF 45 39 44,mv 46 45,fT 47 9 2 46,lT 48 47 46,fT 49 9 3 46,lT 50 49 46,vT 51 5 46,oT 52 (.call (.func 103) [(T 48),(T 50),(T 51)]) 46,pF 53 46 52,mv 4 53])))⟩
def fi27:=Fi0 27 ir27
def ir28:FI:=⟨39,[.cell 2 30],(qR [bx 1 30 0,o1 2 (.new 30 [zs,ze,zs,zi,zi,zi,zi,zs,zi,zs])] (qR [fA 5 0 1,lG 6 2 5,c1 7 104 6,fA 8 0 1,sT 2 8 7] (qR [fA 9 2 1,lD 10 9,c1 11 105 10,fA 12 2 1,sT 1 12 11] (qR [fA 13 5 1,lG 14 3 13,c1 15 106 14,fA 16 5 1,sT 3 16 15] (qR [fA 17 9 1,lD 18 17,c1 19 107 18,fA 20 9 1,sT 1 20 19] (.seq (qR [fA 21 9 1,lD 22 21,lN 23 false 22,mI 24 0] (.blk 0 (.loop (qR [bN 25 .lss 0 24 23] (.seq (cE 25 0) (.seq (.blk 1 (qR [mv 26 24,iA 27 2 22 24,lG 28 2 27,o1 4 (.new 61 [zi,zs]),mv 3 26,sT 2 4 28] (.drw [tt (fA 29 9 1),tt (lD 30 29),tt (mv 31 3),tt (fA 32 1 4),tt (lD 33 32),ft (c1 34 105 33),tt (iA 35 2 30 31),tt (fA 36 1 35),ft (sT 1 36 34)]))) (iN 37 24 24))))))) (rR [lG 38 10 1,sT 10 2 38])))))))⟩
def fi28:=Fi0 28 ir28
def ir29:FI:=⟨6,[.cell 2 24],(qR [o1 2 (.new 24 [zs,ze])] (rR [mv 3 0,o1 4 (.bsl .str 1 1 [ze] [(0,(T 3))]),o1 5 (.bld [zs,ze] (.fields [(0,1),(1,1)]) [(0,(T 4)),(1,(.const (.string ⟨#[82]⟩)))]),sT 2 2 5]))⟩
def fi29:=Fi0 29 ir29
def ir30:FI:=⟨17,[.tmp 4],(qR [mS 4] (qR [mS 5] (.seq (qR [mI 6 0] (.blk 0 (.loop (.seq (qR [mv 7 6,mv 8 1,bN 9 .lss 0 7 8] (cE 9 0)) (.seq (.blk 1 (.reg [mv 12 5,mv 13 0,o1 14 (.bsl .u8 1 1 [(.int .u8 0)] [(0,(T 13))]),o1 15 (.app .u8 1 (T 12) (T 14)),mv 5 15])) (.reg [mv 10 6,aI 11 10,mv 6 11])))))) (rR [mv 16 5,mv 4 16]))))⟩
def fi30:=Fi0 30 ir30
def ir31:FI:=⟨32,[.tmp 2,.tmp 3],(qR [bx 1 24 0,mS 2,mI 3 0] (.seq (qR [lG 7 2 1,c1 8 43 7,nT 9 8] (cI 9 (rR [mS 2,mI 3 2]))) (qR [mS 4] (.seq (qR [fA 10 0 1,lD 11 10,lN 12 false 11,mI 13 0] (.blk 0 (.loop (qR [bN 14 .lss 0 13 12] (.seq (cE 14 0) (.seq (.blk 1 (qR [iA 15 1 11 13,lD 16 15,mv 6 16] (.reg [mv 17 4,mv 18 6,c1 19 108 18,o1 20 (.bsl (.slice .u8) 1 1 [zs] [(0,(T 19))]),o1 21 (.app (.slice .u8) 24 (T 17) (T 20)),mv 4 21]))) (iN 22 13 13))))))) (.seq (.drw [tt (mv 23 4),tt (fA 26 1 1),tt (lD 27 26),ft (c1 24 42 23),ft (cl 25 33 [(ci 0),(T 24)]),ft (c1 28 108 27),ft (cl 29 33 [(ci 1),(T 28)]),ft (o1 30 (.bsl (.slice .u8) 2 1 [zs,zs] [(0,(T 25)),(1,(T 29))])),ft (c1 31 42 30),tt (mv 2 31),tt (mI 3 0)]) .ret)))))⟩
def fi31:=Fi0 31 ir31
def ir32:FI:=⟨16,[.tmp 3],(qR [mS 3] (.seq (qR [fA 4 2 1,lD 5 4,lN 6 false 5,bC 7 .eql 6 0] (cI 7 (rR [mv 8 0,mv 3 8]))) (rR [mv 9 0,fA 10 2 1,lD 11 10,c1 12 34 11,cl 13 33 [(ci 2),(T 12)],o1 14 (.bsl (.slice .u8) 1 1 [zs] [(0,(T 13))]),o1 15 (.app (.slice .u8) 24 (T 9) (T 14)),mv 3 15])))⟩
def fi32:=Fi0 32 ir32
def ir33:FI:=⟨8,[.tmp 4],(qR [mS 4] (rR [mv 5 0,mv 6 1,cl 7 109 [(ci 160),(T 5),(T 6)],mv 4 7]))⟩
def fi33:=Fi0 33 ir33
def ir34:FI:=⟨6,[.tmp 2],(qR [mS 2] (rR [mv 3 0,o1 4 (.bsl (.slice .u8) 1 1 [zs] [(0,(T 3))]),cl 5 110 [(kU .u8 4),(T 4)],mv 2 5]))⟩
def fi34:=Fi0 34 ir34
def ir35:FI:=⟨16,[.tmp 3],(qR [mS 3] (.seq (qR [fA 4 5 1,fA 5 0 4,lD 6 5,bC 7 .eql 6 0] (cI 7 (rR [mv 8 0,mv 3 8]))) (rR [mv 9 0,fA 10 5 1,lG 11 3 10,c1 12 36 11,cl 13 33 [(ci 5),(T 12)],o1 14 (.bsl (.slice .u8) 1 1 [zs] [(0,(T 13))]),o1 15 (.app (.slice .u8) 24 (T 9) (T 14)),mv 3 15])))⟩
def fi35:=Fi0 35 ir35
def ir36:FI:=⟨10,[.tmp 2],(qR [bx 1 27 0,mS 2] (rR [fA 3 0 1,lD 4 3,fA 5 1 1,lD 6 5,fA 7 2 1,lD 8 7,c3 9 111 4 6 8,mv 2 9]))⟩
def fi36:=Fi0 36 ir36
def ir37:FI:=⟨16,[.tmp 3],(qR [mS 3] (.seq (qR [fA 4 9 1,lD 5 4,lN 6 false 5,bC 7 .eql 6 0] (cI 7 (rR [mv 8 0,mv 3 8]))) (rR [mv 9 0,fA 10 9 1,lD 11 10,c1 12 38 11,cl 13 33 [(ci 7),(T 12)],o1 14 (.bsl (.slice .u8) 1 1 [zs] [(0,(T 13))]),o1 15 (.app (.slice .u8) 24 (T 9) (T 14)),mv 3 15])))⟩
def fi37:=Fi0 37 ir37
def ir38:FI:=⟨29,[.tmp 2],(qR [mS 2] (.seq (qR [mv 6 0,lN 7 false 6,bC 8 .gtr 7 16] (cI 8 (rR [mS 2]))) (qR [mS 3] (.seq (qR [mv 9 0,lN 10 false 9,mI 11 0] (.blk 0 (.loop (qR [bN 12 .lss 0 11 10] (.seq (cE 12 0) (.seq (.blk 1 (qR [iA 13 2 9 11,lG 14 2 13,o1 5 (.new 61 [zi,zs]),sT 2 5 14] (.drw [tt (mv 15 3),tt (fA 16 0 5),tt (lD 17 16),tt (fA 19 1 5),tt (lD 20 19),ft (c1 18 39 17),ft (c1 21 34 20),ft (o1 22 (.bsl (.slice .u8) 2 1 [zs,zs] [(0,(T 18)),(1,(T 21))])),ft (c1 23 112 22),ft (o1 24 (.bsl (.slice .u8) 1 1 [zs] [(0,(T 23))])),ft (o1 25 (.app (.slice .u8) 24 (T 15) (T 24))),tt (mv 3 25)]))) (iN 26 11 11))))))) (rR [mv 27 3,c1 28 113 27,mv 2 28])))))⟩
def fi38:=Fi0 38 ir38
def ir39:FI:=⟨27,[.tmp 2],(qR [mS 2] (.seq (qR [mv 5 0,o1 6 (.bin .lss 0 (T 5) (.const (.int .i64 (-4611686018427387904)))),mv 7 6,vF 8 0 7,oF 9 (.bin .gtr 0 (T 8) (ci 4611686018427387904)) 7,pT 10 7 9] (cI 10 (rR [mS 2]))) (qR [mI 3 1] (.seq (qR [mv 11 0,mv 4 11] (.blk 0 (.loop (.seq (qR [mv 12 4,o1 13 (.bin .lss 0 (T 12) (.const (.int .i64 (-128)))),mv 14 13,vF 15 4 14,oF 16 (.bin .gtr 0 (T 15) (ci 127)) 14,pT 17 14 16] (cE 17 0)) (.seq (.blk 1 (.reg [mv 20 3,aI 21 20,mv 3 21])) (.reg [mv 18 4,o1 19 (.bin .shr 0 (T 18) (kU .u64 8)),mv 4 19])))))) (rR [mv 22 0,mv 23 3,c2 24 114 22 23,o1 25 (.bsl (.slice .u8) 1 1 [zs] [(0,(T 24))]),cl 26 110 [(kU .u8 2),(T 25)],mv 2 26])))))⟩
def fi39:=Fi0 39 ir39
def ir40:FI:=⟨13,[.tmp 2],(qR [mS 2] (.seq (qR [mv 3 0,bC 4 .lss 3 0,mv 5 4,vF 6 0 5,oF 7 (.bin .gtr 0 (T 6) (ci 1099511627776)) 5,pT 8 5 7] (cI 8 (rR [mS 2]))) (rR [mv 9 0,cl 10 114 [(T 9),(ci 6)],o1 11 (.bsl (.slice .u8) 1 1 [zs] [(0,(T 10))]),cl 12 110 [(kU .u8 24),(T 11)],mv 2 12])))⟩
def fi40:=Fi0 40 ir40
def ir41:FI:=⟨8,[.tmp 4],(qR [mS 4] (rR [mv 5 0,mv 6 1,cl 7 109 [(ci 96),(T 5),(T 6)],mv 4 7]))⟩
def fi41:=Fi0 41 ir41
def ir42:FI:=⟨5,[.tmp 2],(qR [mS 2] (rR [mv 3 0,cl 4 110 [(kU .u8 48),(T 3)],mv 2 4]))⟩
def fi42:=Fi0 42 ir42
def ir43:FI:=⟨30,[.tmp 2],(qR [bx 1 24 0,mB 2 false] (.seq (.seq (.drw [tt (fA 5 0 1),tt (lD 6 5),tt (lN 7 false 6),tt (bC 8 .geq 7 1),tt (fA 9 0 1),tt (lD 10 9),tt (lN 11 false 10),tt (bC 12 .leq 11 4),tt (fA 13 1 1),tt (lD 14 13),ft (c1 15 116 14),ft (o1 16 (.bsl .bool 3 1 [(.bool false),(.bool false),(.bool false)] [(0,(T 8)),(1,(T 12)),(2,(T 15))])),ft (c1 17 115 16),tt (nT 18 17)]) (cI 18 (rR [mB 2 false]))) (.seq (qR [fA 19 0 1,lD 20 19,lN 21 false 20,mI 22 0] (.blk 0 (.loop (qR [bN 23 .lss 0 22 21] (.seq (cE 23 0) (.seq (.blk 1 (qR [iA 24 1 20 22,lD 25 24,mv 4 25] (qR [mv 26 4,c1 27 117 26,nT 28 27] (cI 28 (rR [mB 2 false]))))) (iN 29 22 22))))))) (rR [mB 2 true]))))⟩
def fi43:=Fi0 43 ir43
def ir44:FI:=⟨9,[.tmp 2],(qR [mB 2 false] (rR [mv 3 0,bC 4 .geq 3 0,mv 5 4,vT 6 0 5,oT 7 (.bin .leq 0 (T 6) (ci 1099511627776)) 5,pF 8 5 7,mv 2 8]))⟩
def fi44:=Fi0 44 ir44
def ir45:FI:=⟨6,[.tmp 2],(qR [bx 1 27 0,mB 2 false] (rR [lG 3 3 1,o1 4 (.bld [zi,zi,zs] (.fields [(0,1),(1,1),(2,1)]) []),c2 5 102 3 4,mv 2 5]))⟩
def fi45:=Fi0 45 ir45
def ir46:FI:=⟨11,[.tmp 2],(qR [bx 1 27 0,mB 2 false] (qR [lG 6 3 1,c1 7 118 6,mv 5 7,ex 8 0 5,ex 9 1 5,o1 3 (.new 141 [ze,zi,zi,zi,zi,.nilFunc,.nilFunc,.nilFunc]),sT 8 3 8,mv 4 9] (rR [mv 10 4,mv 2 10])))⟩
def fi46:=Fi0 46 ir46
attribute [go_sem] ir8 ir9 ir10 ir11 ir13 ir15 ir17 ir22 ir23 ir25 ir27 ir28 ir29 ir30 ir31 ir32 ir33 ir34 ir35 ir36 ir37 ir38 ir39 ir40 ir41 ir42 ir43 ir44 ir45 ir46
def Fi1(n:Nat)(i:FI)(h:finfo Tryz.prog n=some i:=by kernel_rfl):finfo Tryz.prog n=some i:=h
def ir47:FI:=⟨29,[.tmp 2],(qR [mB 2 false] (.seq (qR [mv 5 0,lN 6 false 5,mI 7 0] (.blk 0 (.loop (qR [bN 8 .lss 0 7 6] (.seq (cE 8 0) (.seq (.blk 1 (qR [iA 9 2 5 7,lG 10 2 9,o1 4 (.new 61 [zi,zs]),sT 2 4 10] (qR [fA 11 0 4,lD 12 11,bC 13 .lss 12 0,mv 14 13,fF 15 0 4 14,lF 16 15 14,oF 17 (.bin .gtr 0 (T 16) (ci 2147483647)) 14,pT 18 14 17,mv 19 18,fF 20 1 4 19,lF 21 20 19,oF 22 (.len false (T 21)) 19,oF 23 (.bin .gtr 0 (T 22) (ci 4096)) 19,pT 24 19 23] (cI 24 (rR [mB 2 false]))))) (iN 25 7 7))))))) (rR [mv 26 0,lN 27 false 26,bC 28 .leq 27 16,mv 2 28])))⟩
def fi47:=Fi1 47 ir47
def ir62:RI:=⟨11,5,[o1 6 (.ta 33 zi (T 5)),mv 4 6,ex 7 0 4,ex 8 1 4,mv 2 7,mv 3 8],(qR [mv 9 3] (cI 9 (.reg [o1 10 (.bld [zs,ze,zs,zi,zi,zi,zi,zs,zi,zs] (.fields [(0,2),(2,1),(3,1),(4,1),(5,3),(8,1),(9,1)]) []),sT 10 0 10,o0 (.st 1 (T 1) (ci 6))])))⟩
def fi62:rinfo Tryz.prog 62=some ir62:=by kernel_rfl
def ir63:FI:=⟨6,[.tmp 2],(qR [o1 2 (.mov kP)] (rR [mv 3 0,c1 4 105 3,c1 5 125 4,mv 2 5]))⟩
def fi63:=Fi1 63 ir63
def ir64:FI:=⟨10,[.tmp 4],(qR [o1 4 (.mov kP)] (.seq (qR [mv 5 1,bC 6 .neq 5 0] (cI 6 (pV 7 1 8 33))) (rR [mv 9 0,mv 4 9])))⟩
def fi64:=Fi1 64 ir64
def ir65:FI:=⟨28,[.tmp 4,.tmp 5],(qR [o1 4 (.mov kP),mI 5 0] (.seq (qR [mv 6 0,o1 7 (.bin .eql 1 (T 6) kP),mv 8 7,vF 9 0 8,oF 10 (.nil (T 9)) 8,fF 11 2 10 8,lF 12 11 8,oF 13 (.un .not (T 12)) 8,pT 14 8 13] (cI 14 (rR [o1 4 (.mov kP),mI 5 1]))) (.seq (qR [mv 15 1,bC 16 .lss 15 0,mv 17 16,vF 18 1 17,oF 19 (.bin .gtr 0 (T 18) (ci 30)) 17,pT 20 17 19] (cI 20 (rR [o1 4 (.mov kP),mI 5 2]))) (rR [mv 21 0,mv 22 1,o1 23 (.bin .add 0 (ci 96) (T 22)),o1 24 (.toInt .u8 (T 23)),cl 25 126 [(T 21),(T 24),(.func 127)],ex 26 0 25,ex 27 1 25,mv 4 26,mv 5 27]))))⟩
def fi65:=Fi1 65 ir65
def ir66:FI:=⟨8,[.tmp 2,.tmp 3],(qR [o1 2 (.mov kP),mI 3 0] (rR [mv 4 0,cl 5 126 [(T 4),(kU .u8 48),(.func 127)],ex 6 0 5,ex 7 1 5,mv 2 6,mv 3 7]))⟩
def fi66:=Fi1 66 ir66
def ir67:FI:=⟨8,[],(qR [bx 1 85 0] (.drw [tt (lG 2 1 1),tt (fA 3 0 1),tt (lD 4 3),ft (c1 5 128 4),tt (bC 6 .eql 5 0),ft (c2 7 68 2 6)]))⟩
def fi67:=Fi1 67 ir67
def ir68:FI:=⟨7,[],(qR [bx 2 85 0] (qR [mv 4 1,nT 5 4] (cI 5 (pN 6 33 6))))⟩
def fi68:=Fi1 68 ir68
def ir69:FI:=⟨20,[.tmp 6],(qR [bx 3 85 0,mI 6 0] (qR [lG 10 1 3,mv 11 1,mv 12 2,c3 13 129 10 11 12,mv 9 13,ex 14 0 9,ex 15 1 9,mv 7 14,mv 8 15] (qR [lG 16 1 3,mv 17 8,c2 18 68 16 17] (rR [mv 19 7,mv 6 19]))))⟩
def fi69:=Fi1 69 ir69
def ir70:FI:=⟨8,[.tmp 2,.tmp 3],(qR [mI 2 0,mI 3 0] (rR [mv 4 0,cl 5 130 [(T 4),(kU .u8 2),(.func 131)],ex 6 0 5,ex 7 1 5,mv 2 6,mv 3 7]))⟩
def fi70:=Fi1 70 ir70
def ir71:FI:=⟨20,[.cell 6 24],(qR [bx 3 85 0,o1 6 (.new 24 [zs,ze])] (qR [lG 10 1 3,mv 11 1,mv 12 2,c3 13 132 10 11 12,mv 9 13,ex 14 0 9,ex 15 1 9,o1 7 (.new 24 [zs,ze]),sT 2 7 14,mv 8 15] (qR [lG 16 1 3,mv 17 8,c2 18 68 16 17] (rR [lG 19 2 7,sT 2 6 19]))))⟩
def fi71:=Fi1 71 ir71
def ir72:DI:=⟨46,[.cell 2 24,.cell 3 33],[(.reg [bx 1 82 0,o1 2 (.new 24 [zs,ze]),o1 3 (.new 33 [zi])]),(.reg [lD 7 1,c1 8 133 7,o1 4 (.new 82 [zp]),sT 1 4 8]),(qR [lD 9 4,o1 10 (.bin .eql 1 (T 9) kP)] (cI 10 (rR [o1 11 (.bld [zs,ze] (.fields [(0,1),(1,1)]) []),sT 2 2 11,o0 (.st 1 (T 3) (ci 1))])))],12,134,[(T 4),(T 1),(T 2),(T 3)],(qR [lD 13 1,c1 14 66 13,ex 15 0 14,ex 16 1 14,c2 17 135 15 16,mv 5 17] (qR [mv 18 5,cl 19 136 [(T 18),(ci 0),(.func 66)],mv 6 19] (.seq (.blk 0 (.loop (.seq (qR [mv 20 6,c1 21 128 20,bC 22 .gtr 21 0] (cE 22 0)) (.blk 1 (.drw [tt (fA 23 0 2),tt (lD 24 23),tt (mv 25 6),ft (c1 26 138 25),tt (ex 27 0 26),tt (ex 28 1 26),ft (c2 29 137 27 28),ft (o1 30 (.bsl .str 1 1 [ze] [(0,(T 29))])),ft (o1 31 (.app .str 16 (T 24) (T 30))),tt (fA 32 0 2),ft (sT 1 32 31)]))))) (qR [mv 33 5,cl 34 139 [(T 33),(ci 1),(.func 138)],fA 35 1 2,sT 1 35 34] (.seq (qR [mv 36 5,c1 37 128 36,bC 38 .gtr 37 0,mv 39 38,oF 40 (.ld (some 2) (T 2)) 39,oF 41 (.call (.func 43) [(T 40)]) 39,oF 42 (.un .not (T 41)) 39,pT 43 39 42] (cI 43 (pN 44 33 6))) (rR [lG 45 2 2,sT 2 2 45,o0 (.st 1 (T 3) (ci 0))]))))))⟩
def fi72:dinfo Tryz.prog 72=some ir72:=by kernel_rfl
def ir73:FI:=⟨35,[.tmp 6,.tmp 7],(qR [bx 3 85 0,mS 6,mB 7 false] (qR [fA 11 0 3,lD 12 11,mv 13 1,c2 14 140 12 13,mv 10 14,ex 15 0 10,ex 16 1 10,ex 17 2 10,mv 8 15,mv 7 16,mv 9 17] (.seq (qR [mv 18 9,bC 19 .neq 18 0] (cI 19 (pV 20 9 21 33))) (.seq (qR [mv 22 7,nT 23 22] (cI 23 (rR [mv 24 6,mv 6 24,mB 7 false]))) (qR [mv 25 2,mv 26 8,o1 27 (.call (T 25) [(T 26)]),ex 28 0 27,ex 29 1 27,c2 30 141 28 29,mv 6 30] (qR [mv 31 8,o1 32 (.bld [zp] (.fields [(0,1)]) [(0,(T 31))]),c1 33 67 32] (rR [mv 34 6,mv 6 34,mB 7 true])))))))⟩
def fi73:=Fi1 73 ir73
def ir74:FI:=⟨8,[.tmp 2,.tmp 3],(qR [mS 2,mI 3 0] (rR [mv 4 0,cl 5 142 [(T 4),(kU .u8 4),(.func 143)],ex 6 0 5,ex 7 1 5,mv 2 6,mv 3 7]))⟩
def fi74:=Fi1 74 ir74
def ir75:FI:=⟨8,[.tmp 2,.tmp 3],(qR [mI 2 0,mI 3 0] (rR [mv 4 0,cl 5 130 [(T 4),(kU .u8 24),(.func 144)],ex 6 0 5,ex 7 1 5,mv 2 6,mv 3 7]))⟩
def fi75:=Fi1 75 ir75
def ir76:FI:=⟨35,[.cell 6 27,.tmp 7],(qR [bx 3 85 0,o1 6 (.new 27 [zi,zi,zs]),mB 7 false] (qR [fA 11 0 3,lD 12 11,mv 13 1,c2 14 140 12 13,mv 10 14,ex 15 0 10,ex 16 1 10,ex 17 2 10,mv 8 15,mv 7 16,mv 9 17] (.seq (qR [mv 18 9,bC 19 .neq 18 0] (cI 19 (pV 20 9 21 33))) (.seq (qR [mv 22 7,nT 23 22] (cI 23 (rR [lG 24 3 6,sT 3 6 24,mB 7 false]))) (qR [mv 25 2,mv 26 8,o1 27 (.call (T 25) [(T 26)]),ex 28 0 27,ex 29 1 27,c2 30 146 28 29,sT 3 6 30] (qR [mv 31 8,o1 32 (.bld [zp] (.fields [(0,1)]) [(0,(T 31))]),c1 33 67 32] (rR [lG 34 3 6,sT 3 6 34,mB 7 true])))))))⟩
def fi76:=Fi1 76 ir76
def ir77:FI:=⟨8,[.cell 2 27,.tmp 3],(qR [o1 2 (.new 27 [zi,zi,zs]),mI 3 0] (rR [mv 4 0,cl 5 147 [(T 4),(.func 148)],ex 6 0 5,ex 7 1 5,sT 3 2 6,mv 3 7]))⟩
def fi77:=Fi1 77 ir77
def ir78:FI:=⟨35,[.tmp 6,.tmp 7],(qR [bx 3 85 0,mS 6,mB 7 false] (qR [fA 11 0 3,lD 12 11,mv 13 1,c2 14 140 12 13,mv 10 14,ex 15 0 10,ex 16 1 10,ex 17 2 10,mv 8 15,mv 7 16,mv 9 17] (.seq (qR [mv 18 9,bC 19 .neq 18 0] (cI 19 (pV 20 9 21 33))) (.seq (qR [mv 22 7,nT 23 22] (cI 23 (rR [mv 24 6,mv 6 24,mB 7 false]))) (qR [mv 25 2,mv 26 8,o1 27 (.call (T 25) [(T 26)]),ex 28 0 27,ex 29 1 27,c2 30 150 28 29,mv 6 30] (qR [mv 31 8,o1 32 (.bld [zp] (.fields [(0,1)]) [(0,(T 31))]),c1 33 67 32] (rR [mv 34 6,mv 6 34,mB 7 true])))))))⟩
def fi78:=Fi1 78 ir78
def ir79:FI:=⟨8,[.tmp 2,.tmp 3],(qR [mS 2,mI 3 0] (rR [mv 4 0,cl 5 151 [(T 4),(.func 152)],ex 6 0 5,ex 7 1 5,mv 2 6,mv 3 7]))⟩
def fi79:=Fi1 79 ir79
def ir87:FI:=⟨38,[.tmp 4],(qR [bx 2 24 0,bx 3 24 1,mB 4 false] (.seq (qR [fA 6 1 2,lD 7 6,fA 8 1 3,lD 9 8,bN 10 .neq 0 7 9,mv 11 10,fF 12 0 2 11,lF 13 12 11,oF 14 (.len false (T 13)) 11,fF 15 0 3 11,lF 16 15 11,oF 17 (.len false (T 16)) 11,oF 18 (.bin .neq 0 (T 14) (T 17)) 11,pT 19 11 18] (cI 19 (rR [mB 4 false]))) (.seq (qR [mI 5 0] (.blk 0 (.loop (.seq (qR [mv 20 5,fA 21 0 2,lD 22 21,lN 23 false 22,bN 24 .lss 0 20 23] (cE 24 0)) (.seq (.blk 1 (.seq (.drw [tt (fA 27 0 2),tt (lD 28 27),tt (mv 29 5),tt (iA 30 1 28 29),tt (lD 31 30),tt (fA 32 0 3),tt (lD 33 32),tt (mv 34 5),tt (iA 35 1 33 34),tt (lD 36 35),tt (bN 37 .neq 0 31 36)]) (cI 37 (rR [mB 4 false])))) (.reg [mv 25 5,aI 26 25,mv 5 26])))))) (rR [mB 4 true]))))⟩
def fi87:=Fi1 87 ir87
def ir88:FI:=⟨26,[.tmp 4],(qR [bx 2 27 0,bx 3 27 1,mB 4 false] (rR [fA 5 0 2,lD 6 5,fA 7 0 3,lD 8 7,bN 9 .eql 0 6 8,mv 10 9,fT 11 1 2 10,lT 12 11 10,fT 13 1 3 10,lT 14 13 10,oT 15 (.bin .eql 0 (T 12) (T 14)) 10,pF 16 10 15,mv 17 16,fT 18 2 2 17,lT 19 18 17,oT 20 (.toStr true (T 19)) 17,fT 21 2 3 17,lT 22 21 17,oT 23 (.toStr true (T 22)) 17,oT 24 (.bin .eql 0 (T 20) (T 23)) 17,pF 25 17 24,mv 4 25]))⟩
def fi88:=Fi1 88 ir88
def ir89:FI:=⟨43,[.tmp 4],(qR [mB 4 false] (.seq (qR [mv 6 0,lN 7 false 6,mv 8 1,lN 9 false 8,bN 10 .neq 0 7 9] (cI 10 (rR [mB 4 false]))) (.seq (qR [mI 5 0] (.blk 0 (.loop (.seq (qR [mv 11 5,mv 12 0,lN 13 false 12,bN 14 .lss 0 11 13] (cE 14 0)) (.seq (.blk 1 (.seq (.drw [tt (mv 17 0),tt (mv 18 5),tt (iA 19 2 17 18),tt (fA 20 0 19),tt (lD 21 20),tt (mv 22 1),tt (mv 23 5),tt (iA 24 2 22 23),tt (fA 25 0 24),tt (lD 26 25),tt (bN 27 .neq 0 21 26),tt (mv 28 27),tt (vF 29 0 28),tt (vF 30 5 28),tt (oF 31 (.ia 2 (T 29) (T 30)) 28),tt (fF 32 1 31 28),tt (lF 33 32 28),tt (oF 34 (.toStr true (T 33)) 28),tt (vF 35 1 28),tt (vF 36 5 28),tt (oF 37 (.ia 2 (T 35) (T 36)) 28),tt (fF 38 1 37 28),tt (lF 39 38 28),tt (oF 40 (.toStr true (T 39)) 28),tt (oF 41 (.bin .neq 0 (T 34) (T 40)) 28),tt (pT 42 28 41)]) (cI 42 (rR [mB 4 false])))) (.reg [mv 15 5,aI 16 15,mv 5 16])))))) (rR [mB 4 true]))))⟩
def fi89:=Fi1 89 ir89
def ir90:FI:=⟨69,[.cell 8 44,.tmp 9],(qR [bx 4 27 0,o1 8 (.new 44 [zi,zi,zs]),mI 9 0] (qR [lG 16 3 4,mv 17 1,c2 18 159 16 17,mv 15 18,ex 19 0 15,ex 20 1 15,o1 10 (.new 141 [ze,zi,zi,zi,zi,.nilFunc,.nilFunc,.nilFunc]),sT 8 10 19,mv 11 20] (.seq (qR [mv 21 11,bC 22 .neq 21 0] (cI 22 (rR [o1 23 (.bld [zi,zi,zs] (.fields [(0,1),(1,1),(2,1)]) []),mv 24 11,sT 3 8 23,mv 9 24]))) (.seq (qR [mv 25 2,lN 26 false 25,fA 27 1 10,fA 28 1 27,lD 29 28,bN 30 .neq 0 26 29,mv 31 30,vF 32 3 31,oF 33 (.len false (T 32)) 31,oF 34 (.bin .gtr 0 (T 33) (ci 65536)) 31,pT 35 31 34] (cI 35 (rR [o1 36 (.bld [zi,zi,zs] (.fields [(0,1),(1,1),(2,1)]) []),sT 3 8 36,mI 9 2]))) (qR [lG 37 3 4,mv 38 1,c2 39 160 37 38,mv 12 39] (.seq (.drw [tt (fA 40 5 10),tt (lD 41 40),tt (mv 42 12),tt (mv 44 2),tt (mv 45 3),ft (o1 43 (.call (T 42) [(kU .u8 170)])),ft (o1 46 (.call (T 41) [(T 43),(T 44),(T 45)])),tt (mv 13 46)]) (.seq (.drw [tt (fA 47 7 10),tt (lD 48 47),tt (mv 49 12),tt (mv 51 13),tt (fA 53 1 10),tt (fA 54 2 53),tt (lD 55 54),tt (fA 56 1 10),tt (fA 57 2 56),tt (lD 58 57),ft (o1 50 (.call (T 49) [(kU .u8 85)])),ft (o1 52 (.call (T 48) [(T 50),(T 51)])),tt (o1 59 (.sl3 1 false (T 52) none (T 55) (T 58))),tt (mv 14 59)]) (.seq (.drw [tt (fA 60 0 4),tt (lD 61 60),tt (fA 62 1 4),tt (lD 63 62),tt (mv 64 13),tt (mv 65 14),ft (o1 66 (.bsl (.slice .u8) 2 1 [zs,zs] [(0,(T 64)),(1,(T 65))])),ft (c1 67 161 66),tt (o1 68 (.bld [zi,zi,zs] (.fields [(0,1),(1,1),(2,1)]) [(0,(T 61)),(1,(T 63)),(2,(T 67))])),ft (sT 3 8 68),tt (mI 9 0)]) .ret))))))))⟩
def fi90:=Fi1 90 ir90
def ir92:FI:=⟨103,[.tmp 6,.tmp 7],(qR [bx 3 27 0,bx 5 44 2,mS 6,mI 7 0] (qR [lG 15 3 3,mv 16 1,c2 17 159 15 16,mv 14 17,ex 18 0 14,ex 19 1 14,o1 8 (.new 141 [ze,zi,zi,zi,zi,.nilFunc,.nilFunc,.nilFunc]),sT 8 8 18,mv 9 19] (.seq (qR [mv 20 9,bC 21 .neq 20 0] (cI 21 (rR [mv 22 9,mS 6,mv 7 22]))) (.seq (qR [fA 23 0 5,lD 24 23,fA 25 0 3,lD 26 25,bN 27 .neq 0 24 26,mv 28 27,fF 29 1 5 28,lF 30 29 28,fF 31 1 3 28,lF 32 31 28,oF 33 (.bin .neq 0 (T 30) (T 32)) 28,vF 34 33 28,fT 35 1 5 34,lT 36 35 34,oT 37 (.bin .neq 0 (T 36) (ci 0)) 34,oF 38 (.pick (T 34) (T 37) kF) 28,vF 39 38 28,fT 40 1 3 39,lT 41 40 39,oT 42 (.bin .neq 0 (T 41) (ci 0)) 39,oF 43 (.pick (T 39) (T 42) kF) 28,pT 44 28 43] (cI 44 (rR [mS 6,mI 7 9]))) (qR [fA 45 2 5,lD 46 45,lN 47 false 46,fA 48 1 8,fA 49 2 48,lD 50 49,bN 51 .sub 0 47 50,mv 10 51] (.seq (qR [mv 52 10,fA 53 1 8,fA 54 1 53,lD 55 54,bN 56 .lss 0 52 55] (cI 56 (rR [mS 6,mI 7 4]))) (.seq (qR [mv 57 10,fA 58 1 8,fA 59 1 58,lD 60 59,bC 61 .add 60 65536,bN 62 .gtr 0 57 61] (cI 62 (rR [mS 6,mI 7 5]))) (.seq (.drw [tt (fA 63 2 5),tt (lD 64 63),tt (mv 65 10),tt (mv 66 10),tt (o1 67 (.sl3 1 false (T 64) none (T 65) (T 66))),tt (fA 68 2 5),tt (lD 69 68),tt (mv 70 10),tt (fA 71 2 5),tt (lD 72 71),tt (lN 73 false 72),tt (fA 74 2 5),tt (lD 75 74),tt (lN 76 false 75),tt (o1 77 (.sl3 1 false (T 69) (some (T 70)) (T 73) (T 76))),tt (mv 11 67),tt (mv 12 77)]) (qR [lG 78 3 3,mv 79 1,c2 80 160 78 79,mv 13 80] (.seq (.seq (.drw [tt (fA 81 7 8),tt (lD 82 81),tt (mv 83 13),tt (mv 85 11),tt (fA 87 1 8),tt (fA 88 2 87),tt (lD 89 88),tt (fA 90 1 8),tt (fA 91 2 90),tt (lD 92 91),tt (mv 94 12),ft (o1 84 (.call (T 83) [(kU .u8 85)])),ft (o1 86 (.call (T 82) [(T 84),(T 85)])),tt (o1 93 (.sl3 1 false (T 86) none (T 89) (T 92))),ft (c2 95 167 93 94),tt (nT 96 95)]) (cI 96 (rR [mS 6,mI 7 10]))) (.seq (.drw [tt (fA 97 6 8),tt (lD 98 97),tt (mv 99 13),tt (mv 101 11),ft (o1 100 (.call (T 99) [(kU .u8 170)])),ft (o1 102 (.call (T 98) [(T 100),(T 101)])),tt (mv 6 102),tt (mI 7 0)]) .ret)))))))))))⟩
def fi92:=Fi1 92 ir92
def ir94:FI:=⟨17,[.tmp 4],(qR [bx 2 24 0,bx 3 24 1,mB 4 false] (rR [fA 5 1 2,lD 6 5,fA 7 1 3,lD 8 7,bN 9 .eql 0 6 8,mv 10 9,fT 11 0 2 10,lT 12 11 10,fT 13 0 3 10,lT 14 13 10,oT 15 (.call (.func 170) [(T 12),(T 14)]) 10,pF 16 10 15,mv 4 16]))⟩
def fi94:=Fi1 94 ir94
def ir95:FI:=⟨24,[.tmp 6],(qR [mB 6 false] (rR [mv 7 0,c1 8 172 7,mv 9 1,c1 10 172 9,mv 11 2,c1 12 173 11,o1 13 (.bsl .bool 3 1 [(.bool false),(.bool false),(.bool false)] [(0,(T 8)),(1,(T 10)),(2,(T 12))]),c1 14 171 13,mv 15 14,vT 16 0 15,vT 17 1 15,oT 18 (.bin .sub 0 (T 16) (T 17)) 15,vT 19 2 15,oT 20 (.un .neg (T 19)) 15,vT 21 2 15,oT 22 (.call (.func 174) [(T 18),(T 20),(T 21)]) 15,pF 23 15 22,mv 6 23]))⟩
def fi95:=Fi1 95 ir95
def ir97:FI:=⟨27,[.tmp 6],(qR [bx 3 30 0,bx 4 30 1,mI 6 0] (.seq (qR [mv 10 2,lN 11 false 10,mI 12 0] (.blk 0 (.loop (qR [bN 13 .lss 0 12 11] (.seq (cE 13 0) (.seq (.blk 1 (qR [iA 14 1 10 12,lD 15 14,mv 8 15] (.seq (.drw [tt (mv 16 8),tt (lG 17 10 3),tt (mv 19 8),tt (lG 20 10 4),ft (o1 18 (.call (T 16) [(T 17)])),ft (o1 21 (.call (T 19) [(T 20)])),ft (c2 22 175 18 21),tt (mv 9 22)]) (qR [mv 23 9,bC 24 .neq 23 0] (cI 24 (rR [mv 25 9,mv 6 25])))))) (iN 26 12 12))))))) (rR [mI 6 0])))⟩
def fi97:=Fi1 97 ir97
def ir98:FI:=⟨5,[.tmp 2],(qR [bx 1 30 0,mI 2 0] (rR [fA 3 3 1,lD 4 3,mv 2 4]))⟩
def fi98:=Fi1 98 ir98
def ir99:FI:=⟨5,[.tmp 2],(qR [bx 1 30 0,mI 2 0] (rR [fA 3 4 1,lD 4 3,mv 2 4]))⟩
def fi99:=Fi1 99 ir99
def ir100:FI:=⟨17,[.tmp 4],(qR [bx 2 61 0,bx 3 61 1,mB 4 false] (rR [fA 5 0 2,lD 6 5,fA 7 0 3,lD 8 7,bN 9 .eql 0 6 8,mv 10 9,fT 11 1 2 10,lT 12 11 10,fT 13 1 3 10,lT 14 13 10,oT 15 (.call (.func 101) [(T 12),(T 14)]) 10,pF 16 10 15,mv 4 16]))⟩
def fi100:=Fi1 100 ir100
def ir101:FI:=⟨10,[.tmp 4],(qR [mB 4 false] (rR [mv 5 0,tS 6 5,mv 7 1,tS 8 7,bN 9 .eql 0 6 8,mv 4 9]))⟩
def fi101:=Fi1 101 ir101
def ir102:FI:=⟨24,[.tmp 4],(qR [bx 2 27 0,bx 3 27 1,mB 4 false] (rR [fA 5 0 2,lD 6 5,fA 7 0 3,lD 8 7,bN 9 .eql 0 6 8,mv 10 9,fT 11 1 2 10,lT 12 11 10,fT 13 1 3 10,lT 14 13 10,oT 15 (.bin .eql 0 (T 12) (T 14)) 10,pF 16 10 15,mv 17 16,fT 18 2 2 17,lT 19 18 17,fT 20 2 3 17,lT 21 20 17,oT 22 (.call (.func 101) [(T 19),(T 21)]) 17,pF 23 17 22,mv 4 23]))⟩
def fi102:=Fi1 102 ir102
def ir103:FI:=⟨32,[.tmp 6],(qR [mB 6 false] (.seq (qR [mv 10 0,lN 11 false 10,mv 12 1,lN 13 false 12,bN 14 .neq 0 11 13] (cI 14 (rR [mB 6 false]))) (.seq (qR [mv 15 0,lN 16 false 15,mI 17 0] (.blk 0 (.loop (qR [bN 18 .lss 0 17 16] (.seq (cE 18 0) (.seq (.blk 1 (qR [mv 19 17,iA 20 2 15 17,lG 21 2 20,o1 8 (.new 61 [zi,zs]),mv 7 19,sT 2 8 21] (qR [mv 22 1,mv 23 7,iA 24 2 22 23,lG 25 2 24,o1 9 (.new 61 [zi,zs]),sT 2 9 25] (qR [mv 26 2,lG 27 2 8,lG 28 2 9,o1 29 (.call (T 26) [(T 27),(T 28)]),nT 30 29] (cI 30 (rR [mB 6 false])))))) (iN 31 17 17))))))) (rR [mB 6 true]))))⟩
def fi103:=Fi1 103 ir103
def ir104:FI:=⟨8,[.cell 2 24],(qR [bx 1 24 0,o1 2 (.new 24 [zs,ze])] (qR [fA 3 0 1,lD 4 3,c1 5 176 4,fA 6 0 1,sT 1 6 5] (rR [lG 7 2 1,sT 2 2 7])))⟩
def fi104:=Fi1 104 ir104
def ir105:FI:=⟨8,[.tmp 2],(qR [mS 2] (.seq (qR [mv 3 0,o1 4 (.bin .eql 5 (T 3) kS)] (cI 4 (rR [mS 2]))) (rR [o1 5 (.bsl .u8 0 1 [] []),mv 6 0,o1 7 (.app .u8 1 (T 5) (T 6)),mv 2 7])))⟩
def fi105:=Fi1 105 ir105
def ir106:FI:=⟨8,[.cell 2 27],(qR [bx 1 27 0,o1 2 (.new 27 [zi,zi,zs])] (qR [fA 3 2 1,lD 4 3,c1 5 105 4,fA 6 2 1,sT 1 6 5] (rR [lG 7 3 1,sT 3 2 7])))⟩
def fi106:=Fi1 106 ir106
def ir107:FI:=⟨8,[.tmp 2],(qR [mS 2] (.seq (qR [mv 3 0,o1 4 (.bin .eql 5 (T 3) kS)] (cI 4 (rR [mS 2]))) (rR [o1 5 (.bsl (.prod (.int .i64) (.slice .u8)) 0 2 [] []),mv 6 0,o1 7 (.app (.prod (.int .i64) (.slice .u8)) 32 (T 5) (T 6)),mv 2 7])))⟩
def fi107:=Fi1 107 ir107
def ir108:FI:=⟨7,[.tmp 2],(qR [mS 2] (rR [mv 3 0,o1 4 (.toB (T 3)),o1 5 (.bsl (.slice .u8) 1 1 [zs] [(0,(T 4))]),cl 6 110 [(kU .u8 27),(T 5)],mv 2 6]))⟩
def fi108:=Fi1 108 ir108
def ir109:FI:=⟨25,[.tmp 6],(qR [mS 6] (.seq (qR [mv 7 1,bC 8 .lss 7 0,mv 9 8,vF 10 1 9,oF 11 (.bin .gtr 0 (T 10) (ci 30)) 9,pT 12 9 11,mv 13 12,vF 14 2 13,oF 15 (.len false (T 14)) 13,oF 16 (.bin .eql 0 (T 15) (ci 0)) 13,pT 17 13 16] (cI 17 (rR [mS 6]))) (rR [mv 18 0,mv 19 1,bN 20 .add 0 18 19,o1 21 (.toInt .u8 (T 20)),mv 22 2,o1 23 (.bsl (.slice .u8) 1 1 [zs] [(0,(T 22))]),c2 24 110 21 23,mv 6 24])))⟩
def fi109:=Fi1 109 ir109
def ir110:FI:=⟨83,[.tmp 4],(qR [mS 4] (qR [mI 5 0] (.seq (qR [mv 11 1,lN 12 false 11,mI 13 0] (.blk 0 (.loop (qR [bN 14 .lss 0 13 12] (.seq (cE 14 0) (.seq (.blk 1 (qR [iA 15 1 11 13,lD 16 15,mv 7 16] (.seq (qR [mv 17 7,lN 18 false 17,mv 19 5,o1 20 (.bin .sub 0 (ci 16777215) (T 19)),bN 21 .gtr 0 18 20] (cI 21 (rR [mS 4]))) (.reg [mv 22 5,mv 23 7,lN 24 false 23,bN 25 .add 0 22 24,mv 5 25])))) (iN 26 13 13))))))) (qR [mv 27 5,bC 28 .add 27 5,o1 29 (.mks .u8 1 (ci 0) (T 28)),mv 8 29] (qR [mv 30 8,mv 31 0,o1 32 (.bsl .u8 1 1 [(.int .u8 0)] [(0,(T 31))]),o1 33 (.app .u8 1 (T 30) (T 32)),mv 8 33] (.seq (.blk 2 (qR [mv 46 5,bC 47 .lss 46 128,mv 45 47] (.cond (T 45) (.reg [mv 48 8,mv 49 5,o1 50 (.toInt .u8 (T 49)),o1 51 (.bsl .u8 1 1 [(.int .u8 0)] [(0,(T 50))]),o1 52 (.app .u8 1 (T 48) (T 51)),mv 8 52]) (qR [mv 54 5,bC 55 .lss 54 256,mv 53 55] (.cond (T 53) (.reg [mv 56 8,mv 57 5,o1 58 (.toInt .u8 (T 57)),o1 59 (.bsl .u8 2 1 [(.int .u8 0),(.int .u8 0)] [(0,(kU .u8 129)),(1,(T 58))]),o1 60 (.app .u8 1 (T 56) (T 59)),mv 8 60]) (qR [mv 62 5,bC 63 .lss 62 65536,mv 61 63] (.cond (T 61) (.reg [mv 64 8,mv 65 5,o1 66 (.bin .shr 0 (T 65) (kU .u64 8)),o1 67 (.toInt .u8 (T 66)),mv 68 5,o1 69 (.toInt .u8 (T 68)),o1 70 (.bsl .u8 3 1 [(.int .u8 0),(.int .u8 0),(.int .u8 0)] [(0,(kU .u8 130)),(1,(T 67)),(2,(T 69))]),o1 71 (.app .u8 1 (T 64) (T 70)),mv 8 71]) (.reg [mv 34 8,mv 35 5,o1 36 (.bin .shr 0 (T 35) (kU .u64 16)),o1 37 (.toInt .u8 (T 36)),mv 38 5,o1 39 (.bin .shr 0 (T 38) (kU .u64 8)),o1 40 (.toInt .u8 (T 39)),mv 41 5,o1 42 (.toInt .u8 (T 41)),o1 43 (.bsl .u8 4 1 [(.int .u8 0),(.int .u8 0),(.int .u8 0),(.int .u8 0)] [(0,(kU .u8 131)),(1,(T 37)),(2,(T 40)),(3,(T 42))]),o1 44 (.app .u8 1 (T 34) (T 43)),mv 8 44])))))))) (.seq (qR [mv 72 1,lN 73 false 72,mI 74 0] (.blk 3 (.loop (qR [bN 75 .lss 0 74 73] (.seq (cE 75 3) (.seq (.blk 4 (qR [iA 76 1 72 74,lD 77 76,mv 10 77] (.reg [mv 78 8,mv 79 10,o1 80 (.app .u8 1 (T 78) (T 79)),mv 8 80]))) (iN 81 74 74))))))) (rR [mv 82 8,mv 4 82]))))))))⟩
def fi110:=Fi1 110 ir110
def ir111:FI:=⟨15,[.tmp 6],(qR [mS 6] (rR [mv 7 0,c1 8 39 7,mv 9 1,c1 10 39 9,mv 11 2,c1 12 34 11,o1 13 (.bsl (.slice .u8) 3 1 [zs,zs,zs] [(0,(T 8)),(1,(T 10)),(2,(T 12))]),c1 14 112 13,mv 6 14]))⟩
def fi111:=Fi1 111 ir111
attribute [go_sem] ir47 ir62 ir63 ir64 ir65 ir66 ir67 ir68 ir69 ir70 ir71 ir72 ir73 ir74 ir75 ir76 ir77 ir78 ir79 ir87 ir88 ir89 ir90 ir92 ir94 ir95 ir97 ir98 ir99 ir100 ir101 ir102 ir103 ir104 ir105 ir106 ir107 ir108 ir109 ir110 ir111
def Fi2(n:Nat)(i:FI)(h:finfo Tryz.prog n=some i:=by kernel_rfl):finfo Tryz.prog n=some i:=h
def ir112:FI:=⟨22,[.tmp 2],(qR [mS 2] (qR [mS 3] (.seq (qR [mv 6 0,lN 7 false 6,mI 8 0] (.blk 0 (.loop (qR [bN 9 .lss 0 8 7] (.seq (cE 9 0) (.seq (.blk 1 (qR [mv 10 8,iA 11 1 6 8,lD 12 11,mv 4 10,mv 5 12] (.reg [mv 13 3,mv 14 4,mv 15 5,c2 16 33 14 15,o1 17 (.bsl (.slice .u8) 1 1 [zs] [(0,(T 16))]),o1 18 (.app (.slice .u8) 24 (T 13) (T 17)),mv 3 18]))) (iN 19 8 8))))))) (rR [mv 20 3,c1 21 113 20,mv 2 21]))))⟩
def fi112:=Fi2 112 ir112
def ir113:FI:=⟨17,[.tmp 2],(qR [mS 2] (.seq (qR [mv 5 0,lN 6 false 5,mI 7 0] (.blk 0 (.loop (qR [bN 8 .lss 0 7 6] (.seq (cE 8 0) (.seq (.blk 1 (qR [iA 9 1 5 7,lD 10 9,mv 4 10] (qR [mv 11 4,lN 12 false 11,bC 13 .eql 12 0] (cI 13 (rR [mS 2]))))) (iN 14 7 7))))))) (rR [mv 15 0,c1 16 42 15,mv 2 16])))⟩
def fi113:=Fi2 113 ir113
def ir114:FI:=⟨27,[.tmp 4],(qR [mS 4] (qR [mv 7 1,o1 8 (.mks .u8 1 (T 7) (T 7)),mv 5 8] (.seq (qR [mv 9 5,lN 10 false 9,mI 11 0] (.blk 0 (.loop (qR [bN 12 .lss 0 11 10] (.seq (cE 12 0) (.seq (.blk 1 (qR [mv 13 11,mv 6 13] (.reg [mv 14 5,mv 15 1,bC 16 .sub 15 1,mv 17 6,bN 18 .sub 0 16 17,mv 19 0,mv 20 6,o1 21 (.bin .mul 0 (ci 8) (T 20)),bN 22 .shr 0 19 21,o1 23 (.toInt .u8 (T 22)),iA 24 1 14 18,sT 1 24 23]))) (iN 25 11 11))))))) (rR [mv 26 5,mv 4 26]))))⟩
def fi114:=Fi2 114 ir114
def ir115:FI:=⟨6,[.tmp 2],(qR [mB 2 false] (rR [mv 3 0,cl 4 177 [(T 3),kF],nT 5 4,mv 2 5]))⟩
def fi115:=Fi2 115 ir115
def ir116:FI:=⟨41,[.cell 2 4],(qR [o1 2 (.new 4 [(.bool false)])] (.seq (qR [mv 6 0,c1 7 178 6,nT 8 7] (cI 8 (rR [o0 (.st 1 (T 2) kF)]))) (.seq (qR [mv 9 0,o1 10 (.call (.func 179) [(T 9),(.const (.string ⟨#[46]⟩))])] (.blk 0 (.rf (T 10) #[11] (.reg [mv 3 11]) (.blk 1 (.seq (qR [mv 12 3,o1 13 (.bin .eql 0 (T 12) kE)] (cI 13 (rR [o0 (.st 1 (T 2) kF)]))) (qR [mv 14 3,lN 15 true 14,mI 16 0] (.blk 2 (.loop (qR [bN 17 .lss 0 16 15] (.seq (cE 17 2) (.seq (.blk 3 (qR [mv 18 16,mv 4 18] (qR [mv 19 3,mv 20 4,o1 21 (.ixs (T 19) (T 20)),mv 5 21] (qR [mv 22 5,o1 23 (.bin .lss 0 (T 22) (kU .u8 65)),mv 24 23,vF 25 5 24,oF 26 (.bin .gtr 0 (T 25) (kU .u8 90)) 24,pT 27 24 26,mv 28 27,vT 29 5 28,oT 30 (.bin .lss 0 (T 29) (kU .u8 48)) 28,vT 31 30 28,vF 32 5 31,oF 33 (.bin .gtr 0 (T 32) (kU .u8 57)) 31,oT 34 (.pick (T 31) kT (T 33)) 28,pF 35 28 34,mv 36 35,vT 37 5 36,oT 38 (.bin .neq 0 (T 37) (kU .u8 45)) 36,pF 39 36 38] (cI 39 (rR [o0 (.st 1 (T 2) kF)])))))) (iN 40 16 16)))))))))))) (rR [o0 (.st 1 (T 2) kT)]))))⟩
def fi116:=Fi2 116 ir116
def ir117:FI:=⟨22,[.tmp 2],(qR [mB 2 false] (.seq (qR [mv 4 0,lN 5 true 4,mI 6 0] (.blk 0 (.loop (qR [bN 7 .lss 0 6 5] (.seq (cE 7 0) (.seq (.blk 1 (qR [mv 8 6,mv 3 8] (qR [mv 9 0,mv 10 3,o1 11 (.ixs (T 9) (T 10)),o1 12 (.bin .lss 0 (T 11) (kU .u8 33)),mv 13 12,vF 14 0 13,vF 15 3 13,oF 16 (.ixs (T 14) (T 15)) 13,oF 17 (.bin .gtr 0 (T 16) (kU .u8 126)) 13,pT 18 13 17] (cI 18 (rR [mB 2 false]))))) (iN 19 6 6))))))) (rR [mv 20 0,c1 21 178 20,mv 2 21])))⟩
def fi117:=Fi2 117 ir117
def ir118:FI:=⟨36,[.cell 2 141,.tmp 3],(qR [bx 1 27 0,o1 2 (.new 141 [ze,zi,zi,zi,zi,.nilFunc,.nilFunc,.nilFunc]),mB 3 false] (.seq (.drw [tt (fA 9 0 1),tt (lD 10 9),tt (c0 8 180),tt (o1 11 (.mlk (some .i64) (.agg #[ze,zi,zi,zi,zi,.nilFunc,.nilFunc,.nilFunc]) true (T 8) (T 10))),tt (mv 7 11),tt (ex 12 0 7),tt (ex 13 1 7),ft (o1 4 (.new 141 [ze,zi,zi,zi,zi,.nilFunc,.nilFunc,.nilFunc])),ft (sT 8 4 12),tt (mv 5 13)]) (qR [mv 14 5,mv 15 14,fT 16 2 1 15,lT 17 16 15,oT 18 (.len false (T 17)) 15,fT 19 1 4 15,fT 20 0 19 15,lT 21 20 15,oT 22 (.bin .eql 0 (T 18) (T 21)) 15,pF 23 15 22,mv 24 23,fT 25 1 1 24,lT 26 25 24,oT 27 (.bin .geq 0 (T 26) (ci 0)) 24,pF 28 24 27,mv 29 28,fT 30 1 1 29,lT 31 30 29,oT 32 (.bin .leq 0 (T 31) (ci 65535)) 29,pF 33 29 32,mv 6 33] (rR [lG 34 8 4,mv 35 6,sT 8 2 34,mv 3 35]))))⟩
def fi118:=Fi2 118 ir118
def ir125:FI:=⟨7,[.tmp 2],(qR [o1 2 (.mov kP)] (rR [mv 3 0,o1 4 (.bld [zs,zi] (.fields [(0,1),(1,1)]) [(0,(T 3)),(1,(ci 0))]),o1 5 (.bld [zs,zi,(.bool false)] (.fields [(0,2),(2,1)]) [(0,(T 4)),(1,kT)]),bx 6 147 5,mv 2 6]))⟩
def fi125:=Fi2 125 ir125
def ir126:FI:=⟨54,[.tmp 6,.tmp 7],(qR [o1 6 (.mov kP),mI 7 0] (qR [o1 8 (.mov kP)] (.seq (qR [mv 12 0,o1 13 (.bin .eql 1 (T 12) kP),mv 14 13,vF 15 0 14,oF 16 (.nil (T 15)) 14,fF 17 2 16 14,lF 18 17 14,oF 19 (.un .not (T 18)) 14,pT 20 14 19] (cI 20 (rR [mv 21 8,mv 6 21,mI 7 1]))) (qR [mv 22 0,nL 23 22,fA 24 0 23,fA 25 1 24,lD 26 25,mv 9 26] (qR [mv 28 0,nL 29 28,fA 30 0 29,mv 31 1,c2 32 182 30 31,mv 27 32,ex 33 0 27,ex 34 1 27,mv 10 33,mv 7 34] (.seq (qR [mv 35 7,bC 36 .neq 35 0] (cI 36 (rR [mv 37 8,mv 38 7,mv 6 37,mv 7 38]))) (qR [mv 40 2,mv 41 10,o1 42 (.call (T 40) [(T 41)]),mv 39 42,ex 43 0 39,ex 44 1 39,mv 6 43,mv 11 44] (.seq (qR [mv 45 11,nT 46 45] (cI 46 (qR [mv 47 0,mv 48 9,nL 49 47,fA 50 0 49,fA 51 1 50,sT 1 51 48] (rR [mv 52 8,mv 6 52,mI 7 6])))) (rR [mv 53 6,mv 6 53,mI 7 0])))))))))⟩
def fi126:=Fi2 126 ir126
def ir127:FI:=⟨6,[.tmp 2,.tmp 3],(qR [o1 2 (.mov kP),mB 3 false] (rR [mv 4 0,c1 5 125 4,mv 2 5,mB 3 true]))⟩
def fi127:=Fi2 127 ir127
def ir128:FI:=⟨17,[.tmp 2],(qR [mI 2 0] (.seq (qR [mv 3 0,o1 4 (.bin .eql 1 (T 3) kP),mv 5 4,vF 6 0 5,oF 7 (.nil (T 6)) 5,fF 8 2 7 5,lF 9 8 5,oF 10 (.un .not (T 9)) 5,pT 11 5 10] (cI 11 (rR [mI 2 0]))) (rR [mv 12 0,nL 13 12,fA 14 0 13,c1 15 183 14,lN 16 false 15,mv 2 16])))⟩
def fi128:=Fi2 128 ir128
def ir129:FI:=⟨35,[.tmp 6,.tmp 7],(qR [bx 3 85 0,mI 6 0,mB 7 false] (qR [fA 11 0 3,lD 12 11,mv 13 1,c2 14 140 12 13,mv 10 14,ex 15 0 10,ex 16 1 10,ex 17 2 10,mv 8 15,mv 7 16,mv 9 17] (.seq (qR [mv 18 9,bC 19 .neq 18 0] (cI 19 (pV 20 9 21 33))) (.seq (qR [mv 22 7,nT 23 22] (cI 23 (rR [mv 24 6,mv 6 24,mB 7 false]))) (qR [mv 25 2,mv 26 8,o1 27 (.call (T 25) [(T 26)]),ex 28 0 27,ex 29 1 27,c2 30 184 28 29,mv 6 30] (qR [mv 31 8,o1 32 (.bld [zp] (.fields [(0,1)]) [(0,(T 31))]),c1 33 67 32] (rR [mv 34 6,mv 6 34,mB 7 true])))))))⟩
def fi129:=Fi2 129 ir129
def ir130:FI:=⟨54,[.tmp 6,.tmp 7],(qR [mI 6 0,mI 7 0] (qR [mI 8 0] (.seq (qR [mv 12 0,o1 13 (.bin .eql 1 (T 12) kP),mv 14 13,vF 15 0 14,oF 16 (.nil (T 15)) 14,fF 17 2 16 14,lF 18 17 14,oF 19 (.un .not (T 18)) 14,pT 20 14 19] (cI 20 (rR [mv 21 8,mv 6 21,mI 7 1]))) (qR [mv 22 0,nL 23 22,fA 24 0 23,fA 25 1 24,lD 26 25,mv 9 26] (qR [mv 28 0,nL 29 28,fA 30 0 29,mv 31 1,c2 32 182 30 31,mv 27 32,ex 33 0 27,ex 34 1 27,mv 10 33,mv 7 34] (.seq (qR [mv 35 7,bC 36 .neq 35 0] (cI 36 (rR [mv 37 8,mv 38 7,mv 6 37,mv 7 38]))) (qR [mv 40 2,mv 41 10,o1 42 (.call (T 40) [(T 41)]),mv 39 42,ex 43 0 39,ex 44 1 39,mv 6 43,mv 11 44] (.seq (qR [mv 45 11,nT 46 45] (cI 46 (qR [mv 47 0,mv 48 9,nL 49 47,fA 50 0 49,fA 51 1 50,sT 1 51 48] (rR [mv 52 8,mv 6 52,mI 7 6])))) (rR [mv 53 6,mv 6 53,mI 7 0])))))))))⟩
def fi130:=Fi2 130 ir130
def ir131:FI:=⟨40,[.tmp 2,.tmp 3],(qR [mI 2 0,mB 3 false] (.seq (qR [mv 7 0,lN 8 false 7,bC 9 .lss 8 1,mv 10 9,vF 11 0 10,oF 12 (.len false (T 11)) 10,oF 13 (.bin .gtr 0 (T 12) (ci 8)) 10,pT 14 10 13] (cI 14 (rR [mI 2 0,mB 3 false]))) (qR [mv 15 0,o1 16 (.ia 1 (T 15) (ci 0)),lD 17 16,o1 18 (.toInt .i8 (T 17)),o1 19 (.toInt .i64 (T 18)),mv 4 19] (.seq (qR [mv 20 0,o1 21 (.sl (some 1) (T 20) (some (ci 1)) none),lN 22 false 21,mI 23 0] (.blk 0 (.loop (qR [bN 24 .lss 0 23 22] (.seq (cE 24 0) (.seq (.blk 1 (qR [iA 25 1 21 23,lD 26 25,mv 6 26] (.reg [mv 27 4,o1 28 (.bin .shl 0 (T 27) (kU .u64 8)),mv 29 6,o1 30 (.toInt .i64 (T 29)),bN 31 .or 0 28 30,mv 4 31]))) (iN 32 23 23))))))) (rR [mv 33 4,mv 34 4,c1 35 39 34,mv 36 0,o1 37 (.bsl (.slice .u8) 1 1 [zs] [(0,(T 36))]),cl 38 110 [(kU .u8 2),(T 37)],c2 39 101 35 38,mv 2 33,mv 3 39])))))⟩
def fi131:=Fi2 131 ir131
def ir132:FI:=⟨35,[.cell 6 24,.tmp 7],(qR [bx 3 85 0,o1 6 (.new 24 [zs,ze]),mB 7 false] (qR [fA 11 0 3,lD 12 11,mv 13 1,c2 14 140 12 13,mv 10 14,ex 15 0 10,ex 16 1 10,ex 17 2 10,mv 8 15,mv 7 16,mv 9 17] (.seq (qR [mv 18 9,bC 19 .neq 18 0] (cI 19 (pV 20 9 21 33))) (.seq (qR [mv 22 7,nT 23 22] (cI 23 (rR [lG 24 2 6,sT 2 6 24,mB 7 false]))) (qR [mv 25 2,mv 26 8,o1 27 (.call (T 25) [(T 26)]),ex 28 0 27,ex 29 1 27,c2 30 185 28 29,sT 2 6 30] (qR [mv 31 8,o1 32 (.bld [zp] (.fields [(0,1)]) [(0,(T 31))]),c1 33 67 32] (rR [lG 34 2 6,sT 2 6 34,mB 7 true])))))))⟩
def fi132:=Fi2 132 ir132
def ir133:FI:=⟨16,[.tmp 2],(qR [o1 2 (.mov kP)] (.seq (qR [mv 4 0,o1 5 (.bin .eql 1 (T 4) kP),mv 6 5,vF 7 0 6,oF 8 (.nil (T 7)) 6,fF 9 2 8 6,lF 10 9 6,oF 11 (.un .not (T 10)) 6,pT 12 6 11] (cI 12 (rR [o1 2 (.mov kP)]))) (qR [mv 13 0,nL 14 13,lG 15 3 14,o1 3 (.new 147 [zs,zi,(.bool false)]),sT 3 3 15] (rR [mv 2 3]))))⟩
def fi133:=Fi2 133 ir133
def ir134:RI:=⟨19,7,[o1 8 (.ta 33 zi (T 7)),mv 6 8,ex 9 0 6,ex 10 1 6,mv 4 9,mv 5 10],(qR [mv 11 5] (cI 11 (.seq (.drw [tt (lD 12 1),tt (lD 13 0),tt (nL 14 13),tt (lG 15 3 14),tt (nL 16 12),ft (sT 3 16 15)]) (.reg [o1 17 (.bld [zs,ze] (.fields [(0,1),(1,1)]) []),mv 18 4,sT 2 2 17,sT 1 3 18]))))⟩
def fi134:rinfo Tryz.prog 134=some ir134:=by kernel_rfl
def ir135:FI:=⟨10,[.tmp 4],(qR [o1 4 (.mov kP)] (.seq (qR [mv 5 1,bC 6 .neq 5 0] (cI 6 (pV 7 1 8 33))) (rR [mv 9 0,mv 4 9])))⟩
def fi135:=Fi2 135 ir135
def ir136:FI:=⟨47,[.tmp 6],(qR [o1 6 (.mov kP)] (qR [mv 12 0,mv 13 1,c2 14 140 12 13,mv 11 14,ex 15 0 11,ex 16 1 11,ex 17 2 11,mv 7 15,mv 8 16,mv 9 17] (.seq (.blk 0 (qR [mv 19 9,bC 20 .neq 19 0,mv 18 20] (.cond (T 18) (pV 21 9 22 33) (qR [mv 24 8,nT 25 24,mv 26 25,vT 27 0 26,oT 28 (.call (.func 128) [(T 27)]) 26,oT 29 (.bin .eql 0 (T 28) (ci 0)) 26,pF 30 26 29,mv 23 30] (.cond (T 23) (pN 31 33 4) (qR [mv 33 8,nT 34 33,mv 32 34] (cI 32 (pN 35 33 6)))))))) (qR [mv 36 2,mv 37 7,o1 38 (.call (T 36) [(T 37)]),ex 39 0 38,ex 40 1 38,c2 41 135 39 40,mv 10 41] (.seq (qR [mv 42 7,c1 43 128 42,bC 44 .gtr 43 0] (cI 44 (pN 45 33 6))) (rR [mv 46 10,mv 6 46]))))))⟩
def fi136:=Fi2 136 ir136
def ir137:FI:=⟨10,[.tmp 4],(qR [o1 4 (.mov kE)] (.seq (qR [mv 5 1,bC 6 .neq 5 0] (cI 6 (pV 7 1 8 33))) (rR [mv 9 0,mv 4 9])))⟩
def fi137:=Fi2 137 ir137
def ir138:FI:=⟨8,[.tmp 2,.tmp 3],(qR [o1 2 (.mov kE),mI 3 0] (rR [mv 4 0,cl 5 186 [(T 4),(kU .u8 27),(.func 187)],ex 6 0 5,ex 7 1 5,mv 2 6,mv 3 7]))⟩
def fi138:=Fi2 138 ir138
def ir139:FI:=⟨47,[.tmp 6],(qR [o1 6 (.mov kE)] (qR [mv 12 0,mv 13 1,c2 14 140 12 13,mv 11 14,ex 15 0 11,ex 16 1 11,ex 17 2 11,mv 7 15,mv 8 16,mv 9 17] (.seq (.blk 0 (qR [mv 19 9,bC 20 .neq 19 0,mv 18 20] (.cond (T 18) (pV 21 9 22 33) (qR [mv 24 8,nT 25 24,mv 26 25,vT 27 0 26,oT 28 (.call (.func 128) [(T 27)]) 26,oT 29 (.bin .eql 0 (T 28) (ci 0)) 26,pF 30 26 29,mv 23 30] (.cond (T 23) (pN 31 33 4) (qR [mv 33 8,nT 34 33,mv 32 34] (cI 32 (pN 35 33 6)))))))) (qR [mv 36 2,mv 37 7,o1 38 (.call (T 36) [(T 37)]),ex 39 0 38,ex 40 1 38,c2 41 137 39 40,mv 10 41] (.seq (qR [mv 42 7,c1 43 128 42,bC 44 .gtr 43 0] (cI 44 (pN 45 33 6))) (rR [mv 46 10,mv 6 46]))))))⟩
def fi139:=Fi2 139 ir139
def ir140:FI:=⟨51,[.tmp 4,.tmp 5,.tmp 6],(qR [o1 4 (.mov kP),mB 5 false,mI 6 0] (.seq (qR [mv 8 0,o1 9 (.bin .eql 1 (T 8) kP),mv 10 9,vF 11 0 10,oF 12 (.nil (T 11)) 10,fF 13 2 12 10,lF 14 13 10,oF 15 (.un .not (T 14)) 10,pT 16 10 15] (cI 16 (rR [o1 4 (.mov kP),mB 5 false,mI 6 1]))) (.seq (qR [mv 17 1,bC 18 .lss 17 0,mv 19 18,vF 20 1 19,oF 21 (.bin .gtr 0 (T 20) (ci 30)) 19,pT 22 19 21] (cI 22 (rR [o1 4 (.mov kP),mB 5 false,mI 6 2]))) (.seq (qR [mv 23 0,nL 24 23,fA 25 0 24,c1 26 183 25,mv 7 26] (qR [mv 27 7,lN 28 false 27,bC 29 .eql 28 0,mv 30 29,vF 31 7 30,oF 32 (.ia 1 (T 31) (ci 0)) 30,lF 33 32 30,vF 34 1 30,oF 35 (.bin .add 0 (ci 160) (T 34)) 30,oF 36 (.toInt .u8 (T 35)) 30,oF 37 (.bin .neq 0 (T 33) (T 36)) 30,pT 38 30 37] (cI 38 (rR [o1 4 (.mov kP),mB 5 false,mI 6 0])))) (qR [mv 40 0,mv 41 1,o1 42 (.bin .add 0 (ci 160) (T 41)),o1 43 (.toInt .u8 (T 42)),cl 44 126 [(T 40),(T 43),(.func 127)],mv 39 44,ex 45 0 39,ex 46 1 39,mv 4 45,mv 6 46] (rR [mv 47 4,mv 48 6,bC 49 .eql 48 0,mv 50 6,mv 4 47,mv 5 49,mv 6 50]))))))⟩
def fi140:=Fi2 140 ir140
def ir141:FI:=⟨10,[.tmp 4],(qR [mS 4] (.seq (qR [mv 5 1,bC 6 .neq 5 0] (cI 6 (pV 7 1 8 33))) (rR [mv 9 0,mv 4 9])))⟩
def fi141:=Fi2 141 ir141
def ir142:FI:=⟨54,[.tmp 6,.tmp 7],(qR [mS 6,mI 7 0] (qR [mS 8] (.seq (qR [mv 12 0,o1 13 (.bin .eql 1 (T 12) kP),mv 14 13,vF 15 0 14,oF 16 (.nil (T 15)) 14,fF 17 2 16 14,lF 18 17 14,oF 19 (.un .not (T 18)) 14,pT 20 14 19] (cI 20 (rR [mv 21 8,mv 6 21,mI 7 1]))) (qR [mv 22 0,nL 23 22,fA 24 0 23,fA 25 1 24,lD 26 25,mv 9 26] (qR [mv 28 0,nL 29 28,fA 30 0 29,mv 31 1,c2 32 182 30 31,mv 27 32,ex 33 0 27,ex 34 1 27,mv 10 33,mv 7 34] (.seq (qR [mv 35 7,bC 36 .neq 35 0] (cI 36 (rR [mv 37 8,mv 38 7,mv 6 37,mv 7 38]))) (qR [mv 40 2,mv 41 10,o1 42 (.call (T 40) [(T 41)]),mv 39 42,ex 43 0 39,ex 44 1 39,mv 6 43,mv 11 44] (.seq (qR [mv 45 11,nT 46 45] (cI 46 (qR [mv 47 0,mv 48 9,nL 49 47,fA 50 0 49,fA 51 1 50,sT 1 51 48] (rR [mv 52 8,mv 6 52,mI 7 6])))) (rR [mv 53 6,mv 6 53,mI 7 0])))))))))⟩
def fi142:=Fi2 142 ir142
def ir143:FI:=⟨6,[.tmp 2,.tmp 3],(qR [mS 2,mB 3 false] (rR [mv 4 0,c1 5 105 4,mv 2 5,mB 3 true]))⟩
def fi143:=Fi2 143 ir143
def ir144:FI:=⟨13,[.tmp 2,.tmp 3],(qR [mI 2 0,mB 3 false] (.seq (qR [mv 5 0,lN 6 false 5,bC 7 .neq 6 6] (cI 7 (rR [mI 2 0,mB 3 false]))) (qR [mv 8 0,c1 9 145 8,mv 4 9] (rR [mv 10 4,mv 11 4,bC 12 .leq 11 1099511627776,mv 2 10,mv 3 12]))))⟩
def fi144:=Fi2 144 ir144
def ir145:FI:=⟨18,[.tmp 2],(qR [mI 2 0] (.seq (qR [mv 5 0,lN 6 false 5,mI 7 0] (.blk 0 (.loop (qR [bN 8 .lss 0 7 6] (.seq (cE 8 0) (.seq (.blk 1 (qR [iA 9 1 5 7,lD 10 9,mv 4 10] (.reg [mv 11 2,o1 12 (.bin .shl 0 (T 11) (kU .u64 8)),mv 13 4,o1 14 (.toInt .i64 (T 13)),bN 15 .or 0 12 14,mv 2 15]))) (iN 16 7 7))))))) (rR [mv 17 2,mv 2 17])))⟩
def fi145:=Fi2 145 ir145
def ir146:FI:=⟨10,[.cell 4 27],(qR [bx 2 27 0,o1 4 (.new 27 [zi,zi,zs])] (.seq (qR [mv 5 1,bC 6 .neq 5 0] (cI 6 (pV 7 1 8 33))) (rR [lG 9 3 2,sT 3 4 9])))⟩
def fi146:=Fi2 146 ir146
def ir147:DI:=⟨26,[.cell 4 27,.cell 5 33],[(.reg [bx 2 82 0,o1 4 (.new 27 [zi,zi,zs]),o1 5 (.new 33 [zi])]),(qR [lD 7 2,o1 8 (.bin .eql 1 (T 7) kP),mv 9 8,lF 10 2 9,oF 11 (.nil (T 10)) 9,fF 12 2 11 9,lF 13 12 9,oF 14 (.un .not (T 13)) 9,pT 15 9 14] (cI 15 (rR [lG 16 3 4,sT 3 4 16,o0 (.st 1 (T 5) (ci 1))]))),(.reg [lD 17 2,nL 18 17,fA 19 0 18,fA 20 1 19,lD 21 20,o1 6 (.new 3 [zi]),sT 1 6 21])],22,188,[(T 6),(T 2),(T 4),(T 5)],(rR [mv 23 1,lD 24 2,o1 25 (.call (T 23) [(T 24)]),sT 3 4 25,o0 (.st 1 (T 5) (ci 0))])⟩
def fi147:dinfo Tryz.prog 147=some ir147:=by kernel_rfl
def ir148:FI:=⟨16,[.cell 2 27],(qR [o1 2 (.new 27 [zi,zi,zs])] (qR [mv 7 0,c1 8 149 7,mv 6 8,ex 9 0 6,ex 10 1 6,ex 11 2 6,mv 3 9,mv 4 10,mv 5 11] (rR [mv 12 3,mv 13 4,mv 14 5,o1 15 (.bld [zi,zi,zs] (.fields [(0,1),(1,1),(2,1)]) [(0,(T 12)),(1,(T 13)),(2,(T 14))]),sT 3 2 15])))⟩
def fi148:=Fi2 148 ir148
def ir149:FI:=⟨22,[.tmp 2,.tmp 3,.tmp 4],(qR [mI 2 0,mI 3 0,mS 4] (qR [mv 6 0,c1 7 66 6,ex 8 0 7,ex 9 1 7,c2 10 153 8 9,mv 5 10] (qR [mv 11 5,cl 12 154 [(T 11),(ci 0),(.func 70)],mv 2 12] (qR [mv 13 5,cl 14 154 [(T 13),(ci 1),(.func 70)],mv 3 14] (qR [mv 15 5,cl 16 155 [(T 15),(ci 2),(.func 74)],mv 4 16] (qR [mv 17 5,c1 18 156 17] (rR [mv 19 2,mv 20 3,mv 21 4,mv 2 19,mv 3 20,mv 4 21])))))))⟩
def fi149:=Fi2 149 ir149
def ir150:FI:=⟨10,[.tmp 4],(qR [mS 4] (.seq (qR [mv 5 1,bC 6 .neq 5 0] (cI 6 (pV 7 1 8 33))) (rR [mv 9 0,mv 4 9])))⟩
def fi150:=Fi2 150 ir150
def ir151:DI:=⟨26,[.cell 4 28,.cell 5 33],[(.reg [bx 2 82 0,o1 4 (.new 28 [zs]),o1 5 (.new 33 [zi])]),(qR [lD 7 2,o1 8 (.bin .eql 1 (T 7) kP),mv 9 8,lF 10 2 9,oF 11 (.nil (T 10)) 9,fF 12 2 11 9,lF 13 12 9,oF 14 (.un .not (T 13)) 9,pT 15 9 14] (cI 15 (rR [lD 16 4,sT 1 4 16,o0 (.st 1 (T 5) (ci 1))]))),(.reg [lD 17 2,nL 18 17,fA 19 0 18,fA 20 1 19,lD 21 20,o1 6 (.new 3 [zi]),sT 1 6 21])],22,189,[(T 6),(T 2),(T 4),(T 5)],(rR [mv 23 1,lD 24 2,o1 25 (.call (T 23) [(T 24)]),sT 1 4 25,o0 (.st 1 (T 5) (ci 0))])⟩
def fi151:dinfo Tryz.prog 151=some ir151:=by kernel_rfl
def ir152:FI:=⟨37,[.tmp 2],(qR [mS 2] (qR [mv 7 0,c1 8 66 7,ex 9 0 8,ex 10 1 8,c2 11 153 9 10,mv 3 11] (.seq (.blk 0 (.loop (.seq (qR [mv 12 3,c1 13 128 12,bC 14 .gtr 13 0] (cE 14 0)) (.blk 1 (.seq (qR [mv 15 2,lN 16 false 15,bC 17 .eql 16 16] (cI 17 (pN 18 33 6))) (qR [mv 19 3,c1 20 66 19,ex 21 0 20,ex 22 1 20,c2 23 153 21 22,mv 4 23] (qR [mv 24 4,cl 25 154 [(T 24),(ci 0),(.func 70)],mv 5 25] (qR [mv 26 4,cl 27 155 [(T 26),(ci 1),(.func 74)],mv 6 27] (qR [mv 28 4,c1 29 156 28] (.reg [mv 30 2,mv 31 5,mv 32 6,o1 33 (.bld [zi,zs] (.fields [(0,1),(1,1)]) [(0,(T 31)),(1,(T 32))]),o1 34 (.bsl (.prod (.int .i64) (.slice .u8)) 1 2 [zi,zs] [(0,(T 33))]),o1 35 (.app (.prod (.int .i64) (.slice .u8)) 32 (T 30) (T 34)),mv 2 35])))))))))) (rR [mv 36 2,mv 2 36]))))⟩
def fi152:=Fi2 152 ir152
def ir153:FI:=⟨10,[.tmp 4],(qR [o1 4 (.mov kP)] (.seq (qR [mv 5 1,bC 6 .neq 5 0] (cI 6 (pV 7 1 8 33))) (rR [mv 9 0,mv 4 9])))⟩
def fi153:=Fi2 153 ir153
def ir154:FI:=⟨45,[.tmp 6],(qR [mI 6 0] (qR [mv 12 0,mv 13 1,c2 14 140 12 13,mv 11 14,ex 15 0 11,ex 16 1 11,ex 17 2 11,mv 7 15,mv 8 16,mv 9 17] (.seq (.blk 0 (qR [mv 19 9,bC 20 .neq 19 0,mv 18 20] (.cond (T 18) (pV 21 9 22 33) (qR [mv 24 8,nT 25 24,mv 26 25,vT 27 0 26,oT 28 (.call (.func 128) [(T 27)]) 26,oT 29 (.bin .eql 0 (T 28) (ci 0)) 26,pF 30 26 29,mv 23 30] (.cond (T 23) (pN 31 33 4) (qR [mv 33 8,nT 34 33,mv 32 34] (cI 32 (pN 35 33 6)))))))) (qR [mv 36 2,mv 37 7,o1 38 (.call (T 36) [(T 37)]),ex 39 0 38,ex 40 1 38,c2 41 190 39 40,mv 10 41] (qR [mv 42 7,c1 43 156 42] (rR [mv 44 10,mv 6 44]))))))⟩
def fi154:=Fi2 154 ir154
def ir155:FI:=⟨45,[.tmp 6],(qR [mS 6] (qR [mv 12 0,mv 13 1,c2 14 140 12 13,mv 11 14,ex 15 0 11,ex 16 1 11,ex 17 2 11,mv 7 15,mv 8 16,mv 9 17] (.seq (.blk 0 (qR [mv 19 9,bC 20 .neq 19 0,mv 18 20] (.cond (T 18) (pV 21 9 22 33) (qR [mv 24 8,nT 25 24,mv 26 25,vT 27 0 26,oT 28 (.call (.func 128) [(T 27)]) 26,oT 29 (.bin .eql 0 (T 28) (ci 0)) 26,pF 30 26 29,mv 23 30] (.cond (T 23) (pN 31 33 4) (qR [mv 33 8,nT 34 33,mv 32 34] (cI 32 (pN 35 33 6)))))))) (qR [mv 36 2,mv 37 7,o1 38 (.call (T 36) [(T 37)]),ex 39 0 38,ex 40 1 38,c2 41 191 39 40,mv 10 41] (qR [mv 42 7,c1 43 156 42] (rR [mv 44 10,mv 6 44]))))))⟩
def fi155:=Fi2 155 ir155
def ir156:FI:=⟨6,[],(qR [mv 2 0,c1 3 128 2,bC 4 .gtr 3 0] (cI 4 (pN 5 33 6)))⟩
def fi156:=Fi2 156 ir156
def ir159:FI:=⟨25,[.cell 4 141,.tmp 5],(qR [bx 2 27 0,o1 4 (.new 141 [ze,zi,zi,zi,zi,.nilFunc,.nilFunc,.nilFunc]),mI 5 0] (qR [lG 9 3 2,c1 10 118 9,mv 8 10,ex 11 0 8,ex 12 1 8,o1 6 (.new 141 [ze,zi,zi,zi,zi,.nilFunc,.nilFunc,.nilFunc]),sT 8 6 11,mv 7 12] (.seq (qR [mv 13 7,nT 14 13,mv 15 14,vF 16 1 15,oF 17 (.bin .lss 0 (T 16) (ci 1)) 15,pT 18 15 17,mv 19 18,vF 20 1 19,oF 21 (.bin .gtr 0 (T 20) (ci 1023)) 19,pT 22 19 21] (cI 22 (rR [o1 23 (.bld [ze,zi,zi,zi,zi,.nilFunc,.nilFunc,.nilFunc] (.fields [(0,1),(1,4),(5,1),(6,1),(7,1)]) []),sT 8 4 23,mI 5 2]))) (rR [lG 24 8 6,sT 8 4 24,mI 5 0]))))⟩
def fi159:=Fi2 159 ir159
def ir160:FI:=⟨6,[.tmp 4],(qR [bx 2 27 0,bx 3 47 1,o1 4 (.mov (.const .nilFunc))] (rR [o1 5 (.mkf 192 [] [(T 2),(T 3)]),mv 4 5]))⟩
def fi160:=Fi2 160 ir160
def ir161:FI:=⟨17,[.tmp 2],(qR [mS 2] (qR [mS 3] (.seq (qR [mv 6 0,lN 7 false 6,mI 8 0] (.blk 0 (.loop (qR [bN 9 .lss 0 8 7] (.seq (cE 9 0) (.seq (.blk 1 (qR [iA 10 1 6 8,lD 11 10,mv 5 11] (.reg [mv 12 3,mv 13 5,o1 14 (.app .u8 1 (T 12) (T 13)),mv 3 14]))) (iN 15 8 8))))))) (rR [mv 16 3,mv 2 16]))))⟩
def fi161:=Fi2 161 ir161
def ir167:FI:=⟨8,[.tmp 4],(qR [mB 4 false] (rR [mv 5 0,mv 6 1,c2 7 199 5 6,mv 4 7]))⟩
def fi167:=Fi2 167 ir167
def ir170:FI:=⟨26,[.tmp 4],(qR [mB 4 false] (.seq (qR [mv 6 0,lN 7 false 6,mv 8 1,lN 9 false 8,bN 10 .neq 0 7 9] (cI 10 (rR [mB 4 false]))) (.seq (qR [mv 11 0,lN 12 false 11,mI 13 0] (.blk 0 (.loop (qR [bN 14 .lss 0 13 12] (.seq (cE 14 0) (.seq (.blk 1 (qR [mv 15 13,mv 5 15] (.seq (.drw [tt (mv 16 0),tt (mv 17 5),tt (iA 18 1 16 17),tt (lD 19 18),tt (mv 20 1),tt (mv 21 5),tt (iA 22 1 20 21),tt (lD 23 22),tt (bN 24 .neq 0 19 23)]) (cI 24 (rR [mB 4 false]))))) (iN 25 13 13))))))) (rR [mB 4 true]))))⟩
def fi170:=Fi2 170 ir170
def ir171:FI:=⟨6,[.tmp 2],(qR [mB 2 false] (rR [mv 3 0,cl 4 177 [(T 3),kF],nT 5 4,mv 2 5]))⟩
def fi171:=Fi2 171 ir171
def ir172:FI:=⟨5,[.tmp 2],(qR [mB 2 false] (rR [mv 3 0,cl 4 174 [(T 3),(ci 0),(ci 1099511627776)],mv 2 4]))⟩
def fi172:=Fi2 172 ir172
def ir173:FI:=⟨5,[.tmp 2],(qR [mB 2 false] (rR [mv 3 0,cl 4 174 [(T 3),(ci 0),(ci 86400)],mv 2 4]))⟩
def fi173:=Fi2 173 ir173
def ir174:FI:=⟨15,[.tmp 6],(qR [mB 6 false] (rR [mv 7 1,mv 8 0,bN 9 .leq 0 7 8,mv 10 9,vT 11 0 10,vT 12 2 10,oT 13 (.bin .leq 0 (T 11) (T 12)) 10,pF 14 10 13,mv 6 14]))⟩
def fi174:=Fi2 174 ir174
def ir175:FI:=⟨20,[.tmp 4],(qR [mI 4 0] (qR [mv 7 0,c1 8 203 7,mv 5 8] (qR [mv 9 1,c1 10 203 9,mv 6 10] (.seq (qR [mv 11 5] (cI 11 (.seq (qR [mv 12 6] (cI 12 (rR [mI 4 0]))) (rR [o1 4 (.mov (.const (.int .i64 (-1))))])))) (.seq (qR [mv 13 6] (cI 13 (rR [mI 4 1]))) (.seq (qR [mv 14 0,mv 15 1,bN 16 .lss 0 14 15] (cI 16 (rR [o1 4 (.mov (.const (.int .i64 (-1))))]))) (.seq (qR [mv 17 0,mv 18 1,bN 19 .gtr 0 17 18] (cI 19 (rR [mI 4 1]))) (rR [mI 4 0]))))))))⟩
def fi175:=Fi2 175 ir175
def ir176:FI:=⟨8,[.tmp 2],(qR [mS 2] (.seq (qR [mv 3 0,o1 4 (.bin .eql 5 (T 3) kS)] (cI 4 (rR [mS 2]))) (rR [o1 5 (.bsl .str 0 1 [] []),mv 6 0,o1 7 (.app .str 16 (T 5) (T 6)),mv 2 7])))⟩
def fi176:=Fi2 176 ir176
def ir177:FI:=⟨9,[.tmp 4],(qR [mB 4 false] (rR [mv 5 0,mv 6 1,c2 7 204 5 6,bC 8 .geq 7 0,mv 4 8]))⟩
def fi177:=Fi2 177 ir177
def ir178:FI:=⟨11,[.tmp 2],(qR [mB 2 false] (rR [mv 3 0,lN 4 true 3,bC 5 .geq 4 1,mv 6 5,vT 7 0 6,oT 8 (.len true (T 7)) 6,oT 9 (.bin .leq 0 (T 8) (ci 32)) 6,pF 10 6 9,mv 2 10]))⟩
def fi178:=Fi2 178 ir178
def ir179:FI:=⟨8,[.tmp 4],(qR [o1 4 (.mov (.const .nilFunc))] (rR [mv 5 0,mv 6 1,cl 7 205 [(T 5),(T 6),(ci 0)],mv 4 7]))⟩
def fi179:=Fi2 179 ir179
def ir180:FI:=⟨7,[.tmp 0],(qR [o1 0 (.mov (.const (.map none)))] (rR [o1 1 (.mkm (some .i64)),o1 2 (.bld [zi,zi,zi,zi] (.fields [(0,1),(1,1),(2,1),(3,1)]) [(0,(ci 16)),(1,(ci 16)),(2,(ci 16)),(3,(ci 16))]),o1 3 (.bld [ze,zi,zi,zi,zi,.nilFunc,.nilFunc,.nilFunc] (.fields [(0,1),(1,4),(5,1),(6,1),(7,1)]) [(0,(.const (.string ⟨#[97,101,115,49,50,56,45,99,116,115,45,104,109,97,99,45,115,104,97,50,53,54,45,49,50,56]⟩))),(1,(T 2)),(2,(.func 206)),(3,(.func 207)),(4,(.func 208))]),o0 (.mup (some .i64) (T 1) (ci 1) (T 3)),o1 4 (.bld [zi,zi,zi,zi] (.fields [(0,1),(1,1),(2,1),(3,1)]) [(0,(ci 32)),(1,(ci 16)),(2,(ci 32)),(3,(ci 32))]),o1 5 (.bld [ze,zi,zi,zi,zi,.nilFunc,.nilFunc,.nilFunc] (.fields [(0,1),(1,4),(5,1),(6,1),(7,1)]) [(0,(.const (.string ⟨#[115,116,114,101,97,109,45,104,109,97,99,45,115,104,97,50,53,54,45,50,53,54]⟩))),(1,(T 4)),(2,(.func 209)),(3,(.func 210)),(4,(.func 211))]),o0 (.mup (some .i64) (T 1) (ci 2) (T 5)),mv 6 1,mv 0 6]))⟩
def fi180:=Fi2 180 ir180
def ir182:FI:=⟨42,[.tmp 4,.tmp 5],(qR [mS 4,mI 5 0] (qR [mv 10 0,c1 11 183 10,mv 6 11] (.seq (qR [mv 12 6,lN 13 false 12,bC 14 .eql 13 0] (cI 14 (rR [mS 4,mI 5 4]))) (.seq (qR [mv 15 6,o1 16 (.ia 1 (T 15) (ci 0)),lD 17 16,mv 18 1,bN 19 .neq 0 17 18] (cI 19 (rR [mS 4,mI 5 6]))) (qR [mv 21 6,c1 22 213 21,mv 20 22,ex 23 0 20,ex 24 1 20,ex 25 2 20,mv 7 23,mv 8 24,mv 9 25] (.seq (qR [mv 26 9,bC 27 .neq 26 0] (cI 27 (rR [mv 28 9,mS 4,mv 5 28]))) (qR [mv 29 0,nL 30 29,fA 31 1 30,lD 32 31,mv 33 8,bN 34 .add 0 32 33,nL 35 29,fA 36 1 35,sT 1 36 34] (rR [mv 37 6,mv 38 7,mv 39 8,mv 40 8,o1 41 (.sl3 1 false (T 37) (some (T 38)) (T 39) (T 40)),mv 4 41,mI 5 0]))))))))⟩
def fi182:=Fi2 182 ir182
def ir183:FI:=⟨22,[.tmp 2],(qR [mS 2] (.seq (.drw [tt (mv 3 0),tt (nL 4 3),tt (fA 5 0 4),tt (lD 6 5),tt (mv 7 0),tt (nL 8 7),tt (fA 9 1 8),tt (lD 10 9),tt (mv 11 0),tt (nL 12 11),tt (fA 13 0 12),tt (lD 14 13),tt (lN 15 false 14),tt (mv 16 0),tt (nL 17 16),tt (fA 18 0 17),tt (lD 19 18),tt (lN 20 false 19),tt (o1 21 (.sl3 1 false (T 6) (some (T 10)) (T 15) (T 20))),tt (mv 2 21)]) .ret))⟩
def fi183:=Fi2 183 ir183
def ir184:FI:=⟨10,[.tmp 4],(qR [mI 4 0] (.seq (qR [mv 5 1,bC 6 .neq 5 0] (cI 6 (pV 7 1 8 33))) (rR [mv 9 0,mv 4 9])))⟩
def fi184:=Fi2 184 ir184
def ir185:FI:=⟨10,[.cell 4 24],(qR [bx 2 24 0,o1 4 (.new 24 [zs,ze])] (.seq (qR [mv 5 1,bC 6 .neq 5 0] (cI 6 (pV 7 1 8 33))) (rR [lG 9 2 2,sT 2 4 9])))⟩
def fi185:=Fi2 185 ir185
def ir186:FI:=⟨54,[.tmp 6,.tmp 7],(qR [o1 6 (.mov kE),mI 7 0] (qR [o1 8 (.mov kE)] (.seq (qR [mv 12 0,o1 13 (.bin .eql 1 (T 12) kP),mv 14 13,vF 15 0 14,oF 16 (.nil (T 15)) 14,fF 17 2 16 14,lF 18 17 14,oF 19 (.un .not (T 18)) 14,pT 20 14 19] (cI 20 (rR [mv 21 8,mv 6 21,mI 7 1]))) (qR [mv 22 0,nL 23 22,fA 24 0 23,fA 25 1 24,lD 26 25,mv 9 26] (qR [mv 28 0,nL 29 28,fA 30 0 29,mv 31 1,c2 32 182 30 31,mv 27 32,ex 33 0 27,ex 34 1 27,mv 10 33,mv 7 34] (.seq (qR [mv 35 7,bC 36 .neq 35 0] (cI 36 (rR [mv 37 8,mv 38 7,mv 6 37,mv 7 38]))) (qR [mv 40 2,mv 41 10,o1 42 (.call (T 40) [(T 41)]),mv 39 42,ex 43 0 39,ex 44 1 39,mv 6 43,mv 11 44] (.seq (qR [mv 45 11,nT 46 45] (cI 46 (qR [mv 47 0,mv 48 9,nL 49 47,fA 50 0 49,fA 51 1 50,sT 1 51 48] (rR [mv 52 8,mv 6 52,mI 7 6])))) (rR [mv 53 6,mv 6 53,mI 7 0])))))))))⟩
def fi186:=Fi2 186 ir186
attribute [go_sem] ir112 ir113 ir114 ir115 ir116 ir117 ir118 ir125 ir126 ir127 ir128 ir129 ir130 ir131 ir132 ir133 ir134 ir135 ir136 ir137 ir138 ir139 ir140 ir141 ir142 ir143 ir144 ir145 ir146 ir147 ir148 ir149 ir150 ir151 ir152 ir153 ir154 ir155 ir156 ir159 ir160 ir161 ir167 ir170 ir171 ir172 ir173 ir174 ir175 ir176 ir177 ir178 ir179 ir180 ir182 ir183 ir184 ir185 ir186
def Fi3(n:Nat)(i:FI)(h:finfo Tryz.prog n=some i:=by kernel_rfl):finfo Tryz.prog n=some i:=h
def ir187:FI:=⟨6,[.tmp 2,.tmp 3],(qR [o1 2 (.mov kE),mB 3 false] (rR [mv 4 0,tS 5 4,mv 2 5,mB 3 true]))⟩
def fi187:=Fi3 187 ir187
def ir188:RI:=⟨20,8,[o1 9 (.ta 33 zi (T 8)),mv 7 9,ex 10 0 7,ex 11 1 7,mv 4 10,mv 5 11],(qR [mv 12 5] (cI 12 (qR [o1 6 (.new 27 [zi,zi,zs])] (.drw [tt (lD 13 1),tt (lD 14 0),tt (mv 16 4),tt (nL 17 13),tt (fA 18 0 17),tt (fA 19 1 18),tt (o1 15 (.ldS (some 3) (T 6))),ft (sT 1 19 14),ft (sT 3 2 15),ft (sT 1 3 16)]))))⟩
def fi188:rinfo Tryz.prog 188=some ir188:=by kernel_rfl
def ir189:RI:=⟨20,8,[o1 9 (.ta 33 zi (T 8)),mv 7 9,ex 10 0 7,ex 11 1 7,mv 4 10,mv 5 11],(qR [mv 12 5] (cI 12 (qR [mS 6] (.reg [lD 13 1,lD 14 0,mv 15 6,mv 16 4,nL 17 13,fA 18 0 17,fA 19 1 18,sT 1 19 14,sT 1 2 15,sT 1 3 16]))))⟩
def fi189:rinfo Tryz.prog 189=some ir189:=by kernel_rfl
def ir190:FI:=⟨10,[.tmp 4],(qR [mI 4 0] (.seq (qR [mv 5 1,bC 6 .neq 5 0] (cI 6 (pV 7 1 8 33))) (rR [mv 9 0,mv 4 9])))⟩
def fi190:=Fi3 190 ir190
def ir191:FI:=⟨10,[.tmp 4],(qR [mS 4] (.seq (qR [mv 5 1,bC 6 .neq 5 0] (cI 6 (pV 7 1 8 33))) (rR [mv 9 0,mv 4 9])))⟩
def fi191:=Fi3 191 ir191
def ir192:FI:=⟨23,[.tmp 4],(qR [mS 4] (.seq (.drw [tt (fA 8 2 1),tt (lD 9 8),tt (lD 10 2),tt (mv 12 0),tt (fA 16 2 1),tt (lD 17 16),tt (lN 18 false 17),tt (c1 11 194 10),tt (o1 13 (.bsl .u8 1 1 [(.int .u8 0)] [(0,(T 12))])),ft (o1 14 (.bsl (.slice .u8) 2 1 [zs,zs] [(0,(T 11)),(1,(T 13))])),ft (c1 15 161 14),ft (cl 19 193 [(T 9),(T 15),kS,(T 18)]),tt (mv 7 19),tt (ex 20 0 7),tt (ex 21 1 7),tt (mv 5 20),tt (mv 6 21)]) (rR [mv 22 5,mv 4 22])))⟩
def fi192:=Fi3 192 ir192
def ir193:FI:=⟨29,[.tmp 8,.tmp 9],(qR [mS 8,mI 9 0] (.seq (qR [mv 11 3,mv 12 0,mv 13 1,mv 14 2,o1 15 (.bsl (.slice .u8) 3 1 [zs,zs,zs] [(0,(T 12)),(1,(T 13)),(2,(T 14))]),c2 16 214 11 15,nT 17 16] (cI 17 (rR [mS 8,mI 9 2]))) (qR [mv 18 0,o1 19 (.bld [zs] (.fields [(0,1)]) [(0,(T 18))]),mv 20 1,mv 21 2,mv 22 3,o1 23 (.bld [zs,zs,zs,zi] (.fields [(0,1),(1,1),(2,1),(3,1)]) [(0,(T 19)),(1,(T 20)),(2,(T 21)),(3,(T 22))]),o1 10 (.new 227 [zs,zs,zs,zi]),sT 4 10 23] (rR [mv 24 3,lG 25 4 10,o1 26 (.mkf 217 [(T 25)] []),c1 27 216 26,c2 28 215 24 27,mv 8 28,mI 9 0]))))⟩
def fi193:=Fi3 193 ir193
def ir194:FI:=⟨15,[.tmp 2],(qR [mS 2] (rR [mv 3 0,o1 4 (.bin .shr 0 (T 3) (kU .u64 24)),o1 5 (.toInt .u8 (T 4)),mv 6 0,o1 7 (.bin .shr 0 (T 6) (kU .u64 16)),o1 8 (.toInt .u8 (T 7)),mv 9 0,o1 10 (.bin .shr 0 (T 9) (kU .u64 8)),o1 11 (.toInt .u8 (T 10)),mv 12 0,o1 13 (.toInt .u8 (T 12)),o1 14 (.bsl .u8 4 1 [(.int .u8 0),(.int .u8 0),(.int .u8 0),(.int .u8 0)] [(0,(T 5)),(1,(T 8)),(2,(T 11)),(3,(T 13))]),mv 2 14]))⟩
def fi194:=Fi3 194 ir194
def ir199:FI:=⟨31,[.tmp 4],(qR [mB 4 false] (.seq (qR [mv 7 0,lN 8 false 7,mv 9 1,lN 10 false 9,bN 11 .neq 0 8 10] (cI 11 (rR [mB 4 false]))) (qR [o1 5 (.mov (kU .u8 0))] (.seq (qR [mv 12 0,lN 13 false 12,mI 14 0] (.blk 0 (.loop (qR [bN 15 .lss 0 14 13] (.seq (cE 15 0) (.seq (.blk 1 (qR [mv 16 14,mv 6 16] (.drw [tt (mv 17 5),tt (mv 18 0),tt (mv 19 6),tt (iA 20 1 18 19),tt (lD 21 20),tt (mv 22 1),tt (mv 23 6),tt (iA 24 1 22 23),tt (lD 25 24),tt (bN 26 .xor 0 21 25),tt (bN 27 .or 0 17 26),tt (mv 5 27)]))) (iN 28 14 14))))))) (rR [mv 29 5,o1 30 (.bin .eql 0 (T 29) (kU .u8 0)),mv 4 30])))))⟩
def fi199:=Fi3 199 ir199
def ir203:FI:=⟨6,[.tmp 2],(qR [mB 2 false] (rR [mv 3 0,mv 4 0,bN 5 .neq 0 3 4,mv 2 5]))⟩
def fi203:=Fi3 203 ir203
def ir204:FI:=⟨19,[.tmp 4],(qR [mI 4 0] (.seq (qR [mv 6 0,lN 7 false 6,mI 8 0] (.blk 0 (.loop (qR [bN 9 .lss 0 8 7] (.seq (cE 9 0) (.seq (.blk 1 (qR [mv 10 8,mv 5 10] (qR [mv 11 1,mv 12 0,mv 13 5,iA 14 1 12 13,lD 15 14,bN 16 .eql 3 11 15] (cI 16 (rR [mv 17 5,mv 4 17]))))) (iN 18 8 8))))))) (rR [o1 4 (.mov (.const (.int .i64 (-1))))])))⟩
def fi204:=Fi3 204 ir204
def ir205:FI:=⟨8,[.tmp 6],(qR [bx 3 9 0,bx 4 9 1,bx 5 3 2,o1 6 (.mov (.const .nilFunc))] (rR [o1 7 (.mkf 225 [] [(T 4),(T 3),(T 5)]),mv 6 7]))⟩
def fi205:=Fi3 205 ir205
def ir206:FI:=⟨20,[.tmp 6],(qR [mS 6] (.seq (.drw [tt (mv 10 0),tt (mv 12 1),tt (mv 13 2),tt (o1 14 (.bsl (.slice .u8) 2 1 [zs,zs] [(0,(T 12)),(1,(T 13))])),tt (c1 15 161 14),ft (o1 11 (.mks .u8 1 (ci 16) (ci 16))),ft (c3 16 228 10 11 15),tt (mv 9 16),tt (ex 17 0 9),tt (ex 18 1 9),tt (mv 7 17),tt (mv 8 18)]) (rR [mv 19 7,mv 6 19])))⟩
def fi206:=Fi3 206 ir206
def ir207:FI:=⟨20,[.tmp 4],(qR [mS 4] (qR [mv 8 0,o1 9 (.mks .u8 1 (ci 16) (ci 16)),mv 10 1,c3 11 229 8 9 10,mv 7 11,ex 12 0 7,ex 13 1 7,mv 5 12,mv 6 13] (rR [mv 14 5,mv 15 5,lN 16 false 15,mv 17 5,lN 18 false 17,o1 19 (.sl3 1 false (T 14) (some (ci 16)) (T 16) (T 18)),mv 4 19])))⟩
def fi207:=Fi3 207 ir207
def ir208:FI:=⟨10,[.tmp 4],(qR [mS 4] (rR [mv 5 0,o1 6 (.mks .u8 1 (ci 16) (ci 16)),mv 7 1,o1 8 (.bsl (.slice .u8) 2 1 [zs,zs] [(0,(T 6)),(1,(T 7))]),c2 9 230 5 8,mv 4 9]))⟩
def fi208:=Fi3 208 ir208
def ir213:FI:=⟨65,[.tmp 2,.tmp 3,.tmp 4],(qR [mI 2 0,mI 3 0,mI 4 0] (.seq (qR [mv 10 0,lN 11 false 10,bC 12 .lss 11 2] (cI 12 (rR [mI 2 0,mI 3 0,mI 4 4]))) (qR [mv 13 0,o1 14 (.ia 1 (T 13) (ci 1)),lD 15 14,o1 16 (.toInt .i64 (T 15)),mv 5 16,mI 2 2] (.seq (qR [mv 17 5,bC 18 .geq 17 128] (cI 18 (qR [mv 19 5,bC 20 .sub 19 128,mv 6 20] (.seq (qR [mv 21 6,bC 22 .lss 21 1,mv 23 22,vF 24 6 23,oF 25 (.bin .gtr 0 (T 24) (ci 3)) 23,pT 26 23 25] (cI 26 (rR [mI 2 0,mI 3 0,mI 4 6]))) (.seq (qR [mv 27 0,lN 28 false 27,mv 29 6,o1 30 (.bin .add 0 (ci 2) (T 29)),bN 31 .lss 0 28 30] (cI 31 (rR [mI 2 0,mI 3 0,mI 4 4]))) (qR [mv 32 6,o1 33 (.bin .add 0 (ci 2) (T 32)),mI 5 0,mv 2 33] (.seq (qR [mv 34 0,mv 35 2,mv 36 2,o1 37 (.sl3 1 false (T 34) (some (ci 2)) (T 35) (T 36)),lN 38 false 37,mI 39 0] (.blk 0 (.loop (qR [bN 40 .lss 0 39 38] (.seq (cE 40 0) (.seq (.blk 1 (qR [iA 41 1 37 39,lD 42 41,mv 8 42] (.reg [mv 43 5,o1 44 (.bin .shl 0 (T 43) (kU .u64 8)),mv 45 8,o1 46 (.toInt .i64 (T 45)),bN 47 .or 0 44 46,mv 5 47]))) (iN 48 39 39))))))) (qR [o1 49 (.bld [zi,zi,zi,zi] (.arr 1) [(0,(ci 0)),(1,(ci 128)),(2,(ci 256)),(3,(ci 65536))]),o1 9 (.new 247 [zi,zi,zi,zi]),sT 4 9 49] (qR [mv 50 5,mv 51 6,iZ 52 4 1 9 51,lD 53 52,bN 54 .lss 0 50 53] (cI 54 (rR [mI 2 0,mI 3 0,mI 4 6]))))))))))) (.seq (qR [mv 55 0,lN 56 false 55,mv 57 2,bN 58 .sub 0 56 57,mv 59 5,bN 60 .lss 0 58 59] (cI 60 (rR [mI 2 0,mI 3 0,mI 4 4]))) (rR [mv 61 2,mv 62 2,mv 63 5,bN 64 .add 0 62 63,mv 2 61,mv 3 64,mI 4 0]))))))⟩
def fi213:=Fi3 213 ir213
def ir214:FI:=⟨23,[.tmp 4],(qR [mB 4 false] (.seq (qR [mv 7 1,lN 8 false 7,mI 9 0] (.blk 0 (.loop (qR [bN 10 .lss 0 9 8] (.seq (cE 10 0) (.seq (.blk 1 (qR [iA 11 1 7 9,lD 12 11,mv 6 12] (qR [mv 13 6,lN 14 false 13,bC 15 .gtr 14 4096] (cI 15 (rR [mB 4 false]))))) (iN 16 9 9))))))) (rR [mv 17 0,bC 18 .geq 17 1,mv 19 18,vT 20 0 19,oT 21 (.bin .leq 0 (T 20) (ci 1024)) 19,pF 22 19 21,mv 4 22])))⟩
def fi214:=Fi3 214 ir214
def ir215:FI:=⟨22,[.tmp 4],(qR [bx 2 3 0,mS 4] (.scp (qR [o1 5 (.new 25 [zs])] (.seq (.lbl 0) (.seq (qR [mv 8 1] (.blk 0 (.rf (T 8) #[9,10] (.reg [mv 7 10]) (.blk 1 (qR [lD 11 5,mv 12 7,o1 13 (.app .u8 1 (T 11) (T 12)),sT 1 5 13] (qR [lD 14 5,lN 15 false 14,lD 16 2,bN 17 .geq 0 15 16] (cI 17 (.exit 0)))))))) (rR [lD 18 5,lD 19 2,o1 20 (.sl (some 1) (T 18) none (some (T 19))),c1 21 105 20,mv 4 21]))))))⟩
def fi215:=Fi3 215 ir215
def ir216:FI:=⟨4,[.tmp 2],(qR [bx 1 232 0,o1 2 (.mov (.const .nilFunc))] (rR [o1 3 (.mkf 232 [] [(T 1)]),mv 2 3]))⟩
def fi216:=Fi3 216 ir216
def ir217:FI:=⟨27,[.cell 4 234],(qR [bx 2 227 0,o1 4 (.arr .u8 32)] (.seq (.drw [tt (fA 8 0 2),tt (fA 9 0 8),tt (lD 10 9),tt (mv 11 1),tt (fA 13 1 2),tt (lD 14 13),tt (fA 16 2 2),tt (lD 17 16),tt (fA 18 3 2),tt (lD 19 18),tt (o1 20 (.bin .mul 0 (ci 8) (T 19))),tt (c1 12 234 11),tt (c1 21 234 20),tt (o1 15 (.bsl .u8 1 1 [(.int .u8 0)] [(0,(kU .u8 0))])),tt (o1 22 (.bsl (.slice .u8) 5 1 [zs,zs,zs,zs,zs] [(0,(T 12)),(1,(T 14)),(2,(T 15)),(3,(T 17)),(4,(T 21))])),tt (c2 23 233 10 22),tt (mv 7 23),tt (ex 24 0 7),tt (ex 25 1 7),ft (o1 5 (.arr .u8 32)),ft (sT 32 5 24),tt (mv 6 25)]) (rR [lG 26 32 5,sT 32 4 26])))⟩
def fi217:=Fi3 217 ir217
def ir225:FI:=⟨52,[],(.seq (qR [lD 9 1,lN 10 true 9,bC 11 .eql 10 0] (cI 11 (.seq (.blk 0 (.loop (.seq (qR [lD 12 2,lN 13 true 12,bC 14 .gtr 13 0] (cE 14 0)) (.blk 1 (qR [lD 16 2,c1 17 226 16,mv 15 17,ex 18 0 15,ex 19 1 15,mv 5 18,mv 6 19] (.seq (qR [mv 20 0,lD 21 2,mv 22 6,o1 23 (.sl none (T 21) none (some (T 22))),o1 24 (.call (T 20) [(T 23)]),nT 25 24] (.cond (T 25) .ret .skip)) (.reg [lD 26 2,mv 27 6,o1 28 (.sl none (T 26) (some (T 27)) none),sT 1 2 28]))))))) .ret))) (.seq (.blk 2 (.loop (.blk 3 (qR [lD 29 2,lD 30 1,c2 31 227 29 30,mv 7 31] (.seq (qR [mv 32 7,bC 33 .lss 32 0] (cI 33 (.exit 2))) (qR [lD 34 2,mv 35 7,lD 36 3,bN 37 .add 0 35 36,o1 38 (.sl none (T 34) none (some (T 37))),mv 8 38] (.seq (qR [mv 39 0,mv 40 8,o1 41 (.call (T 39) [(T 40)]),nT 42 41] (.cond (T 42) .ret .skip)) (.reg [lD 43 2,mv 44 7,lD 45 1,lN 46 true 45,bN 47 .add 0 44 46,o1 48 (.sl none (T 43) (some (T 47)) none),sT 1 2 48])))))))) (.reg [mv 49 0,lD 50 2,o1 51 (.call (T 49) [(T 50)])])))⟩
def fi225:=Fi3 225 ir225
def ir227:FI:=⟨8,[.tmp 4],(qR [mI 4 0] (rR [mv 5 0,mv 6 1,c2 7 240 5 6,mv 4 7]))⟩
def fi227:=Fi3 227 ir227
def ir228:FI:=⟨47,[.tmp 6,.tmp 7],(qR [mS 6,mI 7 0] (.seq (qR [mv 15 0,mv 16 1,c2 17 241 15 16,mv 14 17,ex 18 0 14,ex 19 1 14,o1 8 (.new 256 [zp,zs]),sT 2 8 18,mv 9 19] (qR [mv 20 9,bC 21 .neq 20 0] (cI 21 (rR [mv 22 9,mS 6,mv 7 22])))) (.seq (qR [mv 23 2,c1 24 242 23,mv 10 24] (qR [mv 25 10,bC 26 .neq 25 0] (cI 26 (rR [mv 27 10,mS 6,mv 7 27])))) (qR [o1 11 (.new 65 [zs])] (.seq (qR [mv 28 0,mv 29 1,mv 30 2,c1 31 244 30,c3 32 243 28 29 31] (.blk 0 (.rf (T 32) #[33] (.reg [mv 12 33]) (.blk 1 (.reg [lD 34 11,mv 35 12,o1 36 (.bsl (.slice .u8) 1 1 [zs] [(0,(T 35))]),o1 37 (.app (.slice .u8) 24 (T 34) (T 36)),sT 1 11 37]))))) (qR [o1 38 (.mkf 245 [] [(T 11)]),mv 13 38] (qR [mv 39 13,o1 40 (.call (T 39) [])] (rR [lD 41 11,cl 42 246 [(T 41),kS],mv 43 2,lN 44 false 43,o1 45 (.sl (some 1) (T 42) none (some (T 44))),c1 46 105 45,mv 6 46,mI 7 0]))))))))⟩
def fi228:=Fi3 228 ir228
def ir229:FI:=⟨65,[.tmp 6,.tmp 7],(qR [bx 5 25 2,mS 6,mI 7 0] (qR [mv 19 0,mv 20 1,c2 21 241 19 20,mv 18 21,ex 22 0 18,ex 23 1 18,o1 8 (.new 256 [zp,zs]),sT 2 8 22,mv 9 23] (.seq (qR [mv 24 9,bC 25 .neq 24 0] (cI 25 (rR [mv 26 9,mS 6,mv 7 26]))) (.seq (qR [lD 27 5,c1 28 242 27,mv 10 28] (qR [mv 29 10,bC 30 .neq 29 0] (cI 30 (rR [mv 31 10,mS 6,mv 7 31])))) (qR [o1 11 (.new 65 [zs])] (.seq (qR [lD 32 5,c1 33 244 32] (.blk 0 (.rf (T 33) #[34] (.reg [mv 12 34]) (.blk 1 (.reg [lD 35 11,mv 36 12,o1 37 (.bsl (.slice .u8) 1 1 [zs] [(0,(T 36))]),o1 38 (.app (.slice .u8) 24 (T 35) (T 37)),sT 1 11 38]))))) (qR [o1 39 (.mkf 247 [] [(T 11),(T 5),(T 8)]),mv 13 39] (qR [mv 40 13,o1 41 (.call (T 40) [])] (qR [mS 14] (qR [fA 42 1 8,lD 43 42,mv 15 43] (.seq (qR [lD 44 11,lN 45 false 44,mI 46 0] (.blk 2 (.loop (qR [bN 47 .lss 0 46 45] (.seq (cE 47 2) (.seq (.blk 3 (qR [iA 48 1 44 46,lD 49 48,mv 17 49] (qR [mv 50 14,lG 51 2 8,o1 52 (.mke 256 "Decrypt"),mv 53 17,c3 54 248 51 52 53,mv 55 15,c2 56 250 54 55,o1 57 (.app .u8 1 (T 50) (T 56)),mv 14 57] (.reg [mv 58 17,mv 15 58])))) (iN 59 46 46))))))) (rR [mv 60 14,lD 61 5,lN 62 false 61,o1 63 (.sl (some 1) (T 60) none (some (T 62))),c1 64 105 63,mv 6 64,mI 7 0]))))))))))))⟩
def fi229:=Fi3 229 ir229
def ir230:FI:=⟨14,[.tmp 4],(qR [mS 4] (qR [mv 8 0,mv 9 1,c2 10 233 8 9,mv 7 10,ex 11 0 7,ex 12 1 7,o1 5 (.arr .u8 32),sT 32 5 11,mv 6 12] (rR [o1 13 (.sla 32 1 (T 5) none none),mv 4 13])))⟩
def fi230:=Fi3 230 ir230
def ir232:FI:=⟨15,[],(qR [mI 3 1] (.blk 0 (.loop (.seq (.blk 1 (qR [lD 7 1,mv 8 3,o1 9 (.call (T 7) [(T 8)]),o1 4 (.arr .u8 32),sT 32 4 9] (qR [mv 10 0,mv 11 3,o1 12 (.sla 32 1 (T 4) none none),o1 13 (.call (T 10) [(T 11),(T 12)]),nT 14 13] (.cond (T 14) .ret .skip)))) (.reg [mv 5 3,aI 6 5,mv 3 6])))))⟩
def fi232:=Fi3 232 ir232
def ir233:FI:=⟨33,[.cell 4 234,.tmp 5],(qR [o1 4 (.arr .u8 32),mI 5 0] (qR [mv 11 0,c1 12 251 11,mv 10 12,ex 13 0 10,ex 14 1 10,mv 6 13,mv 7 14] (.seq (qR [mv 15 7,bC 16 .neq 15 0] (cI 16 (rR [o1 17 (.bdd (.arr 32 .u8) (.arr 1) []),mv 18 7,sT 32 4 17,mv 5 18]))) (.seq (qR [mv 19 1,lN 20 false 19,mI 21 0] (.blk 0 (.loop (qR [bN 22 .lss 0 21 20] (.seq (cE 22 0) (.seq (.blk 1 (qR [iA 23 1 19 21,lD 24 23,mv 9 24] (.reg [mv 25 6,mv 26 9,c2 27 252 25 26]))) (iN 28 21 21))))))) (rR [mv 29 6,c1 30 253 29,ex 31 0 30,ex 32 1 30,sT 32 4 31,mv 5 32])))))⟩
def fi233:=Fi3 233 ir233
def ir234:FI:=⟨15,[.tmp 2],(qR [mS 2] (rR [mv 3 0,o1 4 (.bin .shr 0 (T 3) (kU .u64 24)),o1 5 (.toInt .u8 (T 4)),mv 6 0,o1 7 (.bin .shr 0 (T 6) (kU .u64 16)),o1 8 (.toInt .u8 (T 7)),mv 9 0,o1 10 (.bin .shr 0 (T 9) (kU .u64 8)),o1 11 (.toInt .u8 (T 10)),mv 12 0,o1 13 (.toInt .u8 (T 12)),o1 14 (.bsl .u8 4 1 [(.int .u8 0),(.int .u8 0),(.int .u8 0),(.int .u8 0)] [(0,(T 5)),(1,(T 8)),(2,(T 11)),(3,(T 13))]),mv 2 14]))⟩
def fi234:=Fi3 234 ir234
def ir241:FI:=⟨22,[.cell 4 256,.tmp 5],(qR [o1 4 (.new 256 [zp,zs]),mI 5 0] (.seq (qR [mv 8 1,lN 9 false 8,bC 10 .neq 9 16] (cI 10 (rR [o1 11 (.bld [zp,zs] (.fields [(0,1),(1,1)]) []),sT 2 4 11,mI 5 2]))) (qR [mv 13 0,c1 14 261 13,mv 12 14,ex 15 0 12,ex 16 1 12,mv 6 15,mv 7 16] (rR [mv 17 6,mv 18 1,c1 19 105 18,o1 20 (.bld [zp,zs] (.fields [(0,1),(1,1)]) [(0,(T 17)),(1,(T 19))]),mv 21 7,sT 2 4 20,mv 5 21]))))⟩
def fi241:=Fi3 241 ir241
def ir242:FI:=⟨11,[.tmp 2],(qR [mI 2 0] (.seq (.blk 0 (qR [mv 4 0,lN 5 false 4,bC 6 .lss 5 16,mv 3 6] (.cond (T 3) (rR [mI 2 4]) (qR [mv 8 0,lN 9 false 8,bC 10 .gtr 9 131072,mv 7 10] (cI 7 (rR [mI 2 5])))))) (rR [mI 2 0])))⟩
def fi242:=Fi3 242 ir242
def ir243:FI:=⟨16,[.tmp 6],(qR [bx 5 261 2,o1 6 (.mov (.const .nilFunc))] (qR [mv 10 0,mv 11 1,c2 12 241 10 11,mv 9 12,ex 13 0 9,ex 14 1 9,o1 7 (.new 256 [zp,zs]),o1 8 (.new 33 [zi]),sT 2 7 13,sT 1 8 14] (rR [o1 15 (.mkf 262 [] [(T 8),(T 5),(T 7)]),mv 6 15])))⟩
def fi243:=Fi3 243 ir243
def ir244:FI:=⟨4,[.tmp 2],(qR [bx 1 25 0,o1 2 (.mov (.const .nilFunc))] (rR [o1 3 (.mkf 265 [] [(T 1)]),mv 2 3]))⟩
def fi244:=Fi3 244 ir244
def ir245:FI:=⟨24,[],(qR [lD 2 0,lN 3 false 2,mv 1 3] (qR [mv 4 1,bC 5 .gtr 4 1] (cI 5 (.drw [tt (lD 6 0),tt (mv 7 1),tt (bC 8 .sub 7 2),tt (mv 10 1),tt (bC 11 .sub 10 1),tt (lD 12 0),tt (mv 13 1),tt (bC 14 .sub 13 1),tt (iA 15 1 12 14),tt (lD 16 15),tt (lD 17 0),tt (mv 18 1),tt (bC 19 .sub 18 2),tt (iA 20 1 17 19),tt (lD 21 20),tt (iA 22 1 6 8),tt (o1 9 (.ldS none (T 0))),ft (sT 1 22 16),tt (iA 23 1 9 11),ft (sT 1 23 21)]))))⟩
def fi245:=Fi3 245 ir245
def ir246:FI:=⟨92,[.tmp 4],(qR [mS 4] (.seq (qR [mv 12 0,lN 13 false 12,bC 14 .eql 13 0] (cI 14 (rR [o1 15 (.bsl .u8 0 1 [] []),mv 4 15]))) (.seq (qR [mv 16 0,lN 17 false 16,bC 18 .eql 17 1] (cI 18 (rR [mv 19 0,o1 20 (.ia 1 (T 19) (ci 0)),lD 21 20,o1 22 (.app .u8 1 kS (T 21)),mv 4 22]))) (qR [mI 5 0] (.seq (qR [mv 23 1,lN 24 false 23,bC 25 .gtr 24 0] (cI 25 (.seq (qR [mv 26 1,lN 27 false 26,mv 28 0,lN 29 false 28,bC 30 .sub 29 1,o1 31 (.bin .quo 0 (ci 9223372036854775807) (T 30)),bN 32 .geq 0 27 31] (cI 32 (.reg [o1 33 (.mki 9 (.const (.string ⟨#[98,121,116,101,115,58,32,74,111,105,110,32,111,117,116,112,117,116,32,108,101,110,103,116,104,32,111,118,101,114,102,108,111,119]⟩))),o0 (.pan (T 33))]))) (.reg [mv 34 5,mv 35 1,lN 36 false 35,mv 37 0,lN 38 false 37,bC 39 .sub 38 1,bN 40 .mul 0 36 39,bN 41 .add 0 34 40,mv 5 41])))) (.seq (qR [mv 42 0,lN 43 false 42,mI 44 0] (.blk 0 (.loop (qR [bN 45 .lss 0 44 43] (.seq (cE 45 0) (.seq (.blk 1 (qR [iA 46 1 42 44,lD 47 46,mv 7 47] (.seq (qR [mv 48 7,lN 49 false 48,mv 50 5,o1 51 (.bin .sub 0 (ci 9223372036854775807) (T 50)),bN 52 .gtr 0 49 51] (cI 52 (.reg [o1 53 (.mki 9 (.const (.string ⟨#[98,121,116,101,115,58,32,74,111,105,110,32,111,117,116,112,117,116,32,108,101,110,103,116,104,32,111,118,101,114,102,108,111,119]⟩))),o0 (.pan (T 53))]))) (.reg [mv 54 5,mv 55 7,lN 56 false 55,bN 57 .add 0 54 56,mv 5 57])))) (iN 58 44 44))))))) (qR [mv 59 5,c1 60 266 59,mv 61 5,mv 62 5,o1 63 (.sl3 1 false (T 60) none (T 61) (T 62)),mv 8 63] (qR [mv 64 8,mv 65 0,o1 66 (.ia 1 (T 65) (ci 0)),lD 67 66,o1 68 (.cpy 1 (T 64) (T 67)),mv 9 68] (.seq (qR [mv 69 0,o1 70 (.sl (some 1) (T 69) (some (ci 1)) none),lN 71 false 70,mI 72 0] (.blk 2 (.loop (qR [bN 73 .lss 0 72 71] (.seq (cE 73 2) (.seq (.blk 3 (qR [iA 74 1 70 72,lD 75 74,mv 11 75] (qR [mv 76 9,mv 77 8,mv 78 9,o1 79 (.sl (some 1) (T 77) (some (T 78)) none),mv 80 1,o1 81 (.cpy 1 (T 79) (T 80)),bN 82 .add 0 76 81,mv 9 82] (.reg [mv 83 9,mv 84 8,mv 85 9,o1 86 (.sl (some 1) (T 84) (some (T 85)) none),mv 87 11,o1 88 (.cpy 1 (T 86) (T 87)),bN 89 .add 0 83 88,mv 9 89])))) (iN 90 72 72))))))) (rR [mv 91 8,mv 4 91]))))))))))⟩
def fi246:=Fi3 246 ir246
def ir247:FI:=⟨49,[],(qR [lD 8 0,lN 9 false 8,mv 3 9] (.seq (qR [mv 10 3,bC 11 .eql 10 1] (.cond (T 11) .ret .skip)) (qR [lD 12 0,mv 13 3,bC 14 .sub 13 2,iA 15 1 12 14,lD 16 15,mv 4 16] (qR [lD 17 1,lN 18 false 17,mv 19 3,bC 20 .sub 19 1,o1 21 (.bin .mul 0 (ci 16) (T 20)),bN 22 .sub 0 18 21,mv 5 22] (qR [lG 23 2 2,o1 24 (.mke 256 "Decrypt"),mv 25 4,c3 26 248 23 24 25,mv 6 26] (.seq (.drw [tt (lD 27 0),tt (mv 28 3),tt (bC 29 .sub 28 1),tt (iA 30 1 27 29),tt (lD 31 30),tt (mv 32 5),tt (mv 33 5),tt (o1 34 (.sl3 1 false (T 31) none (T 32) (T 33))),tt (mv 35 6),tt (mv 36 5),tt (o1 37 (.sl (some 1) (T 35) (some (T 36)) none)),ft (o1 38 (.app .u8 1 (T 34) (T 37))),tt (mv 7 38)]) (.drw [tt (lD 39 0),tt (mv 40 3),tt (bC 41 .sub 40 2),tt (mv 43 3),tt (bC 44 .sub 43 1),tt (mv 45 7),tt (mv 46 4),tt (iA 47 1 39 41),tt (o1 42 (.ldS none (T 0))),ft (sT 1 47 45),tt (iA 48 1 42 44),ft (sT 1 48 46)])))))))⟩
def fi247:=Fi3 247 ir247
def ir248:FI:=⟨17,[.tmp 6],(qR [bx 3 256 0,mS 6] (qR [mv 10 1,lG 11 2 3,mv 12 2,o1 13 (.call (T 10) [(T 11),(T 12)]),mv 9 13,ex 14 0 9,ex 15 1 9,mv 7 14,mv 8 15] (rR [mv 16 7,mv 6 16])))⟩
def fi248:=Fi3 248 ir248
def ir249:FI:=⟨67,[.tmp 4,.tmp 5],(qR [mS 4,mI 5 0] (.seq (qR [mv 11 0,mv 12 1,c2 13 267 11 12,mv 6 13] (qR [mv 14 6,bC 15 .neq 14 0] (cI 15 (rR [mv 16 6,mS 4,mv 5 16])))) (qR [mv 17 0,mv 18 1,o1 19 (.s2a 16 (T 18)),lG 20 16 19,o1 21 (.bdd (.prod (.ptr (.prod (.prod (.arr 256 .u8) (.arr 256 .u8)) (.prod (.arr 176 .u8) .bool))) (.prod (.arr 16 .u8) (.arr 16 .u8))) (.fields [(0,1),(1,16),(17,16)]) [(0,(T 17)),(1,(T 20))]),bx 22 286 21,o1 7 (.new 282 [zp]),sT 1 7 22] (qR [lD 23 7,o1 24 (.mkf 268 [(T 23)] []),lD 25 7,o1 26 (.mkf 269 [(T 25)] []),lD 27 7,o1 28 (.mkf 270 [(T 27)] []),lD 29 7,o1 30 (.mkf 271 [(T 29)] []),o1 31 (.bsf 1 1 4 [.nilFunc,.nilFunc,.nilFunc,.nilFunc] [(0,(T 24)),(1,(T 26)),(2,(T 28)),(3,(T 30))]),o1 8 (.new 287 [zs]),sT 1 8 31] (.seq (qR [mv 32 0,cl 33 272 [(T 32),kT]] (.blk 0 (.rf (T 33) #[34,35] (qR [mv 9 34] (.reg [o1 10 (.arr .u8 16),sT 16 10 35])) (.blk 1 (qR [lD 36 7,lG 37 16 10,nL 38 36,fA 39 17 38,sT 16 39 37] (qR [mv 40 9] (.blk 2 (qR [bC 45 .eql 40 0,mv 44 45] (.cond (T 44) (.reg [lD 46 7,lD 47 7,o1 48 (.mkf 268 [(T 47)] []),o1 49 (.bsf 1 1 1 [.nilFunc] [(0,(T 48))]),c2 50 273 46 49]) (qR [bC 52 .eql 40 10,mv 51 52] (.cond (T 51) (.reg [lD 53 7,lD 54 7,o1 55 (.mkf 268 [(T 54)] []),lD 56 7,o1 57 (.mkf 270 [(T 56)] []),lD 58 7,o1 59 (.mkf 271 [(T 58)] []),o1 60 (.bsf 1 1 3 [.nilFunc,.nilFunc,.nilFunc] [(0,(T 55)),(1,(T 57)),(2,(T 59))]),c2 61 273 53 60]) (.reg [lD 41 7,lD 42 8,c2 43 273 41 42])))))))))))) (rR [lD 62 7,nL 63 62,fA 64 1 63,o1 65 (.sla 16 1 (T 64) none none),c1 66 105 65,mv 4 66,mI 5 0]))))))⟩
def fi249:=Fi3 249 ir249
def ir250:FI:=⟨26,[.tmp 4],(qR [mS 4] (qR [mv 7 0,c1 8 105 7,mv 5 8] (.seq (qR [mv 9 5,lN 10 false 9,mI 11 0] (.blk 0 (.loop (qR [bN 12 .lss 0 11 10] (.seq (cE 12 0) (.seq (.blk 1 (qR [mv 13 11,mv 6 13] (.drw [tt (mv 14 5),tt (mv 15 6),tt (iA 16 1 14 15),tt (lD 17 16),tt (mv 18 1),tt (mv 19 6),tt (iA 20 1 18 19),tt (lD 21 20),tt (bN 22 .xor 0 17 21),tt (iA 23 1 14 15),ft (sT 1 23 22)]))) (iN 24 11 11))))))) (rR [mv 25 5,mv 4 25]))))⟩
def fi250:=Fi3 250 ir250
def ir251:FI:=⟨38,[.tmp 2,.tmp 3],(qR [o1 2 (.mov kP),mI 3 0] (.seq (qR [mv 8 0,lN 9 false 8,bC 10 .gtr 9 4096] (cI 10 (rR [o1 2 (.mov kP),mI 3 2]))) (qR [o1 4 (.arr .u8 64)] (.seq (qR [mv 11 0,lN 12 false 11,bC 13 .gtr 12 64] (.cond (T 13) (qR [mv 14 0,c1 15 274 14,o1 5 (.arr .u8 32),sT 32 5 15] (.drw [tt (o1 16 (.sla 64 1 (T 4) none none)),tt (o1 17 (.sla 32 1 (T 5) none none)),ft (o1 18 (.cpy 1 (T 16) (T 17)))])) (.reg [o1 19 (.sla 64 1 (T 4) none none),mv 20 0,o1 21 (.cpy 1 (T 19) (T 20))]))) (qR [o1 22 (.mkf 275 [] [(T 4)]),mv 6 22] (qR [mv 23 6,o1 24 (.call (T 23) [(kU .u8 92)]),mv 25 6,o1 26 (.call (T 25) [(kU .u8 54)]),o1 27 (.bdd (.prod (.arr 64 .u8) (.arr 64 .u8)) (.fields [(0,64),(64,64)]) [(0,(T 24)),(1,(T 26))]),o1 28 (.bdd (.prod (.prod (.arr 64 .u8) (.arr 64 .u8)) (.prod (.prod (.arr 8 (.int .u32)) (.prod (.arr 64 .u8) (.int .i64))) .bool)) (.fields [(0,128),(128,73),(201,1)]) [(0,(T 27)),(2,kT)]),bx 29 302 28,mv 7 29] (qR [mv 30 7,mv 31 7,nL 32 31,fA 33 0 32,c1 34 276 33,nL 35 30,fA 36 128 35,sT 73 36 34] (rR [mv 37 7,mv 2 37,mI 3 0]))))))))⟩
def fi251:=Fi3 251 ir251
def ir252:FI:=⟨19,[.tmp 4],(qR [mI 4 0] (.seq (qR [mv 5 0,o1 6 (.bin .eql 1 (T 5) kP),mv 7 6,vF 8 0 7,oF 9 (.nil (T 8)) 7,fF 10 201 9 7,lF 11 10 7,oF 12 (.un .not (T 11)) 7,pT 13 7 12] (cI 13 (rR [mI 4 1]))) (rR [mv 14 0,nL 15 14,fA 16 128 15,mv 17 1,c2 18 277 16 17,mv 4 18])))⟩
def fi252:=Fi3 252 ir252
def ir253:FI:=⟨22,[.cell 2 234,.tmp 3],(qR [o1 2 (.arr .u8 32),mI 3 0] (.seq (qR [mv 4 0,o1 5 (.bin .eql 1 (T 4) kP),mv 6 5,vF 7 0 6,oF 8 (.nil (T 7)) 6,fF 9 201 8 6,lF 10 9 6,oF 11 (.un .not (T 10)) 6,pT 12 6 11] (cI 12 (rR [o1 13 (.bdd (.arr 32 .u8) (.arr 1) []),sT 32 2 13,mI 3 1]))) (.seq (.drw [tt (mv 14 0),tt (nL 15 14),tt (fA 16 0 15),tt (mv 17 0),tt (nL 18 17),tt (fA 19 128 18),ft (c1 20 279 19),ft (c2 21 278 16 20),ft (sT 32 2 21),tt (mI 3 0)]) .ret)))⟩
def fi253:=Fi3 253 ir253
def ir261:FI:=⟨18,[.tmp 2,.tmp 3],(qR [o1 2 (.mov kP),mI 3 0] (.seq (qR [mv 5 0,lN 6 false 5,bC 7 .neq 6 16] (cI 7 (rR [o1 2 (.mov kP),mI 3 2]))) (qR [o1 8 (.bdd (.prod (.prod (.arr 256 .u8) (.arr 256 .u8)) (.prod (.arr 176 .u8) .bool)) (.fields [(0,512),(512,176),(688,1)]) [(2,kT)]),bx 9 312 8,mv 4 9] (qR [mv 10 4,nL 11 10,fA 12 0 11,c1 13 282 12] (qR [mv 14 4,mv 15 0,c2 16 283 14 15] (rR [mv 17 4,mv 2 17,mI 3 0]))))))⟩
def fi261:=Fi3 261 ir261
def ir262:FI:=⟨18,[],(qR [bx 4 281 0] (.seq (qR [lD 7 1,bC 8 .neq 7 0,mv 9 8,lF 10 2 9,oF 11 (.bin .eql 2 (T 10) (.const .nilFunc)) 9,pT 12 9 11] (.cond (T 12) .ret .skip)) (qR [fA 13 1 3,lD 14 13,o1 5 (.new 25 [zs]),o1 6 (.new 4 [(.bool false)]),sT 1 5 14,o0 (.st 1 (T 6) kF)] (qR [lD 15 2,o1 16 (.mkf 263 [] [(T 6),(T 3),(T 5),(T 4)]),o1 17 (.call (T 15) [(T 16)])] (.reg [o0 (.st 1 (T 6) kT)])))))⟩
def fi262:=Fi3 262 ir262
def ir263:FI:=⟨26,[.tmp 6],(qR [mB 6 false] (.seq (qR [lD 7 1,mv 8 7,vF 9 0 8,oF 10 (.len false (T 9)) 8,oF 11 (.bin .neq 0 (T 10) (ci 16)) 8,pT 12 8 11] (cI 12 (qR [o0 (.st 1 (T 1) kT)] (rR [mB 6 false])))) (.seq (.drw [tt (lG 13 2 2),tt (o1 14 (.mke 256 "Encrypt")),tt (lD 15 3),tt (mv 16 0),ft (c2 17 250 15 16),ft (c3 18 248 13 14 17),ft (sT 1 3 18)]) (.seq (.drw [tt (lD 19 4),tt (lD 20 3),ft (c1 21 105 20),ft (o1 22 (.call (T 19) [(T 21)])),tt (nT 23 22),ft (sT 1 1 23)]) (rR [lD 24 1,nT 25 24,mv 6 25])))))⟩
def fi263:=Fi3 263 ir263
def ir264:FI:=⟨67,[.tmp 4,.tmp 5],(qR [mS 4,mI 5 0] (.seq (qR [mv 11 0,mv 12 1,c2 13 267 11 12,mv 6 13] (qR [mv 14 6,bC 15 .neq 14 0] (cI 15 (rR [mv 16 6,mS 4,mv 5 16])))) (qR [mv 17 0,mv 18 1,o1 19 (.s2a 16 (T 18)),lG 20 16 19,o1 21 (.bdd (.prod (.ptr (.prod (.prod (.arr 256 .u8) (.arr 256 .u8)) (.prod (.arr 176 .u8) .bool))) (.prod (.arr 16 .u8) (.arr 16 .u8))) (.fields [(0,1),(1,16),(17,16)]) [(0,(T 17)),(1,(T 20))]),bx 22 286 21,o1 7 (.new 282 [zp]),sT 1 7 22] (qR [lD 23 7,o1 24 (.mkf 284 [(T 23)] []),lD 25 7,o1 26 (.mkf 285 [(T 25)] []),lD 27 7,o1 28 (.mkf 286 [(T 27)] []),lD 29 7,o1 30 (.mkf 268 [(T 29)] []),o1 31 (.bsf 1 1 4 [.nilFunc,.nilFunc,.nilFunc,.nilFunc] [(0,(T 24)),(1,(T 26)),(2,(T 28)),(3,(T 30))]),o1 8 (.new 287 [zs]),sT 1 8 31] (.seq (qR [mv 32 0,cl 33 272 [(T 32),kF]] (.blk 0 (.rf (T 33) #[34,35] (qR [mv 9 34] (.reg [o1 10 (.arr .u8 16),sT 16 10 35])) (.blk 1 (qR [lD 36 7,lG 37 16 10,nL 38 36,fA 39 17 38,sT 16 39 37] (qR [mv 40 9] (.blk 2 (qR [bC 45 .eql 40 0,mv 44 45] (.cond (T 44) (.reg [lD 46 7,lD 47 7,o1 48 (.mkf 268 [(T 47)] []),o1 49 (.bsf 1 1 1 [.nilFunc] [(0,(T 48))]),c2 50 273 46 49]) (qR [bC 52 .eql 40 10,mv 51 52] (.cond (T 51) (.reg [lD 53 7,lD 54 7,o1 55 (.mkf 284 [(T 54)] []),lD 56 7,o1 57 (.mkf 285 [(T 56)] []),lD 58 7,o1 59 (.mkf 268 [(T 58)] []),o1 60 (.bsf 1 1 3 [.nilFunc,.nilFunc,.nilFunc] [(0,(T 55)),(1,(T 57)),(2,(T 59))]),c2 61 273 53 60]) (.reg [lD 41 7,lD 42 8,c2 43 273 41 42])))))))))))) (rR [lD 62 7,nL 63 62,fA 64 1 63,o1 65 (.sla 16 1 (T 64) none none),c1 66 105 65,mv 4 66,mI 5 0]))))))⟩
def fi264:=Fi3 264 ir264
def ir265:FI:=⟨34,[],(qR [mI 3 0] (.blk 0 (.loop (.seq (qR [mv 6 3,lD 7 1,lN 8 false 7,bN 9 .lss 0 6 8] (cE 9 0)) (.seq (.blk 1 (qR [mv 12 3,bC 13 .add 12 16,lD 14 1,lN 15 false 14,o1 16 (.mxm false (T 13) (T 15)),mv 4 16] (qR [lD 17 1,mv 18 3,mv 19 4,mv 20 4,o1 21 (.sl3 1 false (T 17) (some (T 18)) (T 19) (T 20)),mv 5 21] (.seq (qR [mv 22 5,lN 23 false 22,bC 24 .lss 23 16] (cI 24 (.reg [mv 25 5,mv 26 5,lN 27 false 26,o1 28 (.bin .sub 0 (ci 16) (T 27)),o1 29 (.apz .u8 1 (T 25) (T 28)),mv 5 29]))) (qR [mv 30 0,mv 31 5,o1 32 (.call (T 30) [(T 31)]),nT 33 32] (.cond (T 33) .ret .skip)))))) (.reg [mv 10 3,bC 11 .add 10 16,mv 3 11]))))))⟩
def fi265:=Fi3 265 ir265
def ir267:FI:=⟨17,[.tmp 4],(qR [mI 4 0] (.seq (qR [mv 5 0,o1 6 (.bin .eql 1 (T 5) kP),mv 7 6,vF 8 0 7,oF 9 (.nil (T 8)) 7,fF 10 688 9 7,lF 11 10 7,oF 12 (.un .not (T 11)) 7,pT 13 7 12] (cI 13 (rR [mI 4 1]))) (.seq (qR [mv 14 1,lN 15 false 14,bC 16 .neq 15 16] (cI 16 (rR [mI 4 2]))) (rR [mI 4 0]))))⟩
def fi267:=Fi3 267 ir267
attribute [go_sem] ir187 ir188 ir189 ir190 ir191 ir192 ir193 ir194 ir199 ir203 ir204 ir205 ir206 ir207 ir208 ir213 ir214 ir215 ir216 ir217 ir225 ir227 ir228 ir229 ir230 ir232 ir233 ir234 ir241 ir242 ir243 ir244 ir245 ir246 ir247 ir248 ir249 ir250 ir251 ir252 ir253 ir261 ir262 ir263 ir264 ir265 ir267
end Go.Proofs.YthbcodbcndiapaaGreatDoor