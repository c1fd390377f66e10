/- A part of the proof: a symbolic executor over abstract values, and its soundness. -/
import Derived.Test.YthbcodbcndiapaaGreatDoorP7
import Derived.RecoverIn
import Derived.Test.YthbcodbcndiapaaGreatDoorProg
import Derived.KernelRfl
set_option linter.all false
namespace Go.Sx
section
open Go
variable [Ghost] {P:Program} {AQ:Ex->List SV->List SObj->Prop} {k0:Nat} {k:List IT} {t:List SV} {H:List SObj}

mutual
def SV.sealB(n:Nat)(H:List SObj):SV->Option (SV×Prop)
 |.any=>some (.any,True)
 |.raw v=>some (.raw v,True)
 |.isl t xs=>some (.isl t xs,True)
 |.fsl t xs=>some (.isl t xs,True)
 |.iptr t x k=>some (.iptr t x k,True)
 |.dat t x=>some (.dat t x,True)
 |.imap kk ks vs=>some (.imap kk ks vs,True)
 |.ptr h off=>if h<n then some (.ptr h off,True) else none
 |.rptr h t i k=>if h<n then some (.rptr h t i k,True) else none
 |.csl h t k i m=>if h<n then some (.csl h t k i m,True) else none
 |.bld h t m=>if h<n then some (.bld h t m,True) else match H[h]? with
  |some (.row t' xs)=>if t=t' then some (.isl t' (xs.take m),m<=xs.length∧xs.length<=1125899906842624) else none
  |_=>none
 |.osl h t off m=>if h<n then some (.osl h t off m,True) else match H[h]? with
  |some (.row t' xs)=>if t=t' then some (.isl t' ((xs.drop off).take m),off+m<=xs.length∧xs.length<=1125899906842624) else none
  |_=>none
 |.mp h=>if h<n then some (.mp h,True) else match H[h]? with
  |some (.map kk ks vs)=>(unrawL vs).map fun us=>(.imap kk ks us,True)
  |_=>none
 |.agg l=>match SV.sealBL n H l with
  |some (l',p)=>some (.agg l',p)
  |none=>none
 |.tup l=>match SV.sealBL n H l with
  |some (l',p)=>some (.tup l',p)
  |none=>none
 |.iface T x=>match SV.sealB n H x with
  |some (x',p)=>some (.iface T x',p)
  |none=>none
 |.fn f a b=>match SV.sealBL n H a,SV.sealBL n H b with
  |some (a',p),some (b',q)=>some (.fn f a' b',p∧q)
  |_,_=>none
def SV.sealBL(n:Nat)(H:List SObj):List SV->Option (List SV×Prop)
 | []=>some ([],True)
 |s :: l=>match SV.sealB n H s,SV.sealBL n H l with
  |some (s',p),some (l',q)=>some (s' :: l',p∧q)
  |_,_=>none
end

def OwnGe(C:Cx)(H:List SObj)(n:Nat)(b:Nat):Prop:=∃h o,n<=h∧H[h]?=some o∧o.live=true∧C.ρ h=some b
def Cx.shutB(C:Cx)(H:List SObj)(n:Nat):Cx:={C with n:=n,I:=fun b=>C.I b∨OwnGe C H n b}
theorem q1F(C:Cx)(H:List SObj)(n:Nat):Keeps C.I (C.shutB H n).I C.w (C.shutB H n).w:=fun _ hb=>⟨.inl hb,rfl⟩
theorem q8o{C:Cx}{n hd:Nat}{o:SObj}(hn:n<=hd)(hH:H[hd]?=some o)(hl:o.live=true):Keeps (C.frz hd).I (C.shutB H n).I (C.frz hd).w (C.shutB H n).w:=
 fun _ hb=>⟨hb.elim .inl (fun e=>.inr ⟨hd,o,hn,hH,hl,e⟩),rfl⟩
mutual
theorem q5k{C:Cx}{H:List SObj}{n:Nat}(hw:Wd C H):∀ {s s':SV} {p:Prop} {v:Value},s.sealB n H=some (s',p)->p->s.den C v->s'.den (C.shutB H n) v
 |.any,_,_,_,h,_,_=>by simp [SV.sealB] at h;rw [<-h.1,SV.den];trivial
 |.raw _,_,_,_,h,_,d=>by simp [SV.sealB] at h;rw [<-h.1];rw [SV.den] at d⊢;exact d
 |.isl _ _,_,_,_,h,_,d=>by simp [SV.sealB] at h;rw [<-h.1];exact q0F (q1F C H n) rfl d
 |.fsl _ _,_,_,_,h,_,d=>by simp [SV.sealB] at h;rw [<-h.1];rw [SV.den] at d;exact q0F (q1F C H n) rfl (by rw [SV.den];exact d.1)
 |.dat ..,_,_,_,h,_,d=>by simp [SV.sealB] at h;rw [<-h.1];exact q0F (q1F C H n) rfl d
 |.iptr ..,_,_,_,h,_,d=>by simp [SV.sealB] at h;rw [<-h.1];exact q0F (q1F C H n) rfl d
 |.imap ..,_,_,_,h,_,d=>by simp [SV.sealB] at h;rw [<-h.1];exact q0F (q1F C H n) rfl d
 |.ptr hd off,_,_,_,h,_,d=>by
  simp only [SV.sealB] at h;split at h
  . cases h;rw [SV.den] at d⊢;exact ⟨by assumption,d.2⟩
  cases h
 |.rptr ..,_,_,_,h,_,d=>by
  simp only [SV.sealB] at h;split at h
  . cases h;rw [SV.den] at d⊢;exact ⟨by assumption,d.2⟩
  cases h
 |.csl ..,_,_,_,h,_,d=>by
  simp only [SV.sealB] at h;split at h
  . cases h;rw [SV.den] at d⊢;exact ⟨by assumption,d.2⟩
  cases h
 |.bld hd t m,s',p,v,h,hp,d=>by
  simp only [SV.sealB] at h;split at h
  . cases h;rw [SV.den] at d⊢;exact ⟨by assumption,d.2⟩
  rename_i hge;split at h
  . rename_i t' xs hH;split at h
    . rename_i e;subst e;cases h;have h1:=q4v hw hH hp.2 (s:=.bld hd t m) (by rw [SV.frzOb,if_pos ⟨rfl,rfl⟩];exact hp.1) d;rw [SV.frz,if_pos ⟨rfl,rfl⟩] at h1;exact q0F (q8o (AT.1 hge) hH rfl) rfl h1
    cases h
  cases h
 |.osl hd t off m,s',p,v,h,hp,d=>by
  simp only [SV.sealB] at h;split at h
  . cases h;rw [SV.den] at d⊢;exact ⟨by assumption,d.2⟩
  rename_i hge;split at h
  . rename_i t' xs hH;split at h
    . rename_i e;subst e;cases h;have h1:=q4v hw hH hp.2 (s:=.osl hd t off m) (by rw [SV.frzOb,if_pos ⟨rfl,rfl⟩];exact hp.1) d;rw [SV.frz,if_pos ⟨rfl,rfl⟩] at h1;exact q0F (q8o (AT.1 hge) hH rfl) rfl h1
    cases h
  cases h
 |.mp hd,s',p,v,h,hp,d=>by
  simp only [SV.sealB] at h;split at h
  . cases h;rw [SV.den] at d⊢;exact ⟨by assumption,d.2⟩
  rename_i hge;split at h
  . rename_i kk ks vs hH;obtain ⟨us,hu,h⟩:=Ap.1 h;cases h;obtain rfl:=q4F hu;simp only [SV.den] at d⊢;obtain ⟨_,b,hb,rfl⟩:=d;obtain ⟨b',us',hb',hm,hl⟩:=hw.obj hd _ hH;rw [q1l hl] at hm;rw [hb] at hb';cases hb';exact ⟨b,rfl,.inr ⟨hd,_,AT.1 hge,hH,rfl,hb⟩,hm⟩
  cases h
 |.agg l,s',p,v,h,hp,d=>by
  unfold SV.sealB at h;split at h
  . cases h;rw [SV.den] at d⊢;obtain ⟨vs,hv,hl⟩:=d;exact ⟨vs,hv,q2p hw (by assumption) hp hl⟩
  cases h
 |.tup l,s',p,v,h,hp,d=>by
  unfold SV.sealB at h;split at h
  . cases h;rw [SV.den] at d⊢;obtain ⟨vs,hv,hl⟩:=d;exact ⟨vs,hv,q2p hw (by assumption) hp hl⟩
  cases h
 |.iface T x,s',p,v,h,hp,d=>by
  unfold SV.sealB at h;split at h
  . cases h;rw [SV.den] at d⊢;obtain ⟨u,hv,hl⟩:=d;exact ⟨u,hv,q5k hw (by assumption) hp hl⟩
  cases h
 |.fn f a b,s',p,v,h,hp,d=>by
  unfold SV.sealB at h;split at h
  . cases h;rw [SV.den] at d⊢;obtain ⟨v1,v2,hv,h1,h2⟩:=d;exact ⟨v1,v2,hv,q2p hw (by assumption) hp.1 h1,q2p hw (by assumption) hp.2 h2⟩
  cases h
theorem q2p{C:Cx}{H:List SObj}{n:Nat}(hw:Wd C H):∀ {l l':List SV} {p:Prop} {vs:List Value},SV.sealBL n H l=some (l',p)->p->SV.denL C l vs->SV.denL (C.shutB H n) l' vs
 | [],_,_,_,h,_,d=>by simp [SV.sealBL] at h;rw [h.1];rw [q0y] at d⊢;exact d
 |s :: l,l',p,vs,h,hp,d=>by
  unfold SV.sealBL at h;split at h
  . cases h;obtain ⟨v,us,rfl,h1,h2⟩:=q0d.1 d;exact q0d.2 ⟨v,us,rfl,q5k hw (by assumption) hp.1 h1,q2p hw (by assumption) hp.2 h2⟩
  cases h
end

/- A value that says less: nil and the empty slice are one, .any says nothing. -/
mutual
def SV.leA:SV->SV->Prop
 |_,.any=>True
 |s,.isl t xs=>s= .isl t xs∨(s= .raw (.slice none 0 0)∧xs= [])
 |s,.agg l=>match s with
  |.agg l'=>SV.leAL l' l
  |_=>False
 |s,.tup l=>match s with
  |.tup l'=>SV.leAL l' l
  |_=>False
 |s,s'=>s=s'
def SV.leAL:List SV->List SV->Prop
 | [],l=>l= []
 |s :: l,r=>match r with
  | []=>False
  |s' :: l'=>SV.leA s s'∧SV.leAL l l'
end
def j4k{s:SV}:SV.leA s .any=True:=by cases s<;>simp [SV.leA]
def j3a{v u:Value}:SV.leA (.raw v) (.raw u)=(v=u):=by simp [SV.leA]
def j0E{t:Ty}{x y:t.den}{k j:Nat}:SV.leA (.iptr t x k) (.iptr t y j)=(x=y∧k=j):=by simp [SV.leA]
def j2G{t:Ty}{xs ys:List t.den}:SV.leA (.isl t xs) (.isl t ys)=(xs=ys):=by simp [SV.leA]
def j3G{t:Ty}{ys:List t.den}:SV.leA (.raw (.slice none 0 0)) (.isl t ys)=(ys= []):=by simp [SV.leA]
def z8F{l l':List SV}:SV.leA (.agg l) (.agg l')=SV.leAL l l':=by rw [SV.leA]
def z8c{l l':List SV}:SV.leA (.tup l) (.tup l')=SV.leAL l l':=by rw [SV.leA]
def j3T{h o h' o':Nat}:SV.leA (.ptr h o) (.ptr h' o')=(h=h'∧o=o'):=by simp [SV.leA]
def z6q{T T':TypeId}{x x':SV}:SV.leA (.iface T x) (.iface T' x')=(T=T'∧x=x'):=by simp [SV.leA]
def j5G{f f':Nat}{a a' b b':List SV}:SV.leA (.fn f a b) (.fn f' a' b')=(f=f'∧a=a'∧b=b'):=by simp [SV.leA]
def j4U{h h' n n':Nat}{t t':Ty}:SV.leA (.bld h t n) (.bld h' t' n')=(h=h'∧t=t'∧n=n'):=by simp [SV.leA]
def z1A{s s':SV}{l l':List SV}:SV.leAL (s :: l) (s' :: l')=(SV.leA s s'∧SV.leAL l l'):=by rw [SV.leAL]
def j0x:SV.leAL [] []=True:=by simp [SV.leAL]
mutual
theorem z1T{C:Cx}:∀ {s s':SV} {v:Value},SV.leA s s'->s.den C v->s'.den C v
 |s,.any,v,_,_=>by rw [SV.den];trivial
 |s,.isl t xs,v,h,d=>by
  rw [SV.leA] at h;rcases h with rfl| ⟨rfl,rfl⟩
  . exact d
  rw [SV.den] at d;subst d;rw [SV.den];exact ⟨_,_,_,rfl,rfl,Af _,by simp,.inl rfl⟩
 |.agg l',.agg l,v,h,d=>by rw [z8F] at h;rw [SV.den] at d⊢;obtain ⟨vs,hv,hl⟩:=d;exact ⟨vs,hv,q6E h hl⟩
 |.tup l',.tup l,v,h,d=>by rw [z8c] at h;rw [SV.den] at d⊢;obtain ⟨vs,hv,hl⟩:=d;exact ⟨vs,hv,q6E h hl⟩
 |.any,.agg _,_,h,_=>by simp [SV.leA] at h
 |.raw _,.agg _,_,h,_=>by simp [SV.leA] at h
 |.isl _ _,.agg _,_,h,_=>by simp [SV.leA] at h
 |.fsl _ _,.agg _,_,h,_=>by simp [SV.leA] at h
 |.iptr ..,.agg _,_,h,_=>by simp [SV.leA] at h
 |.ptr ..,.agg _,_,h,_=>by simp [SV.leA] at h
 |.rptr ..,.agg _,_,h,_=>by simp [SV.leA] at h
 |.bld ..,.agg _,_,h,_=>by simp [SV.leA] at h
 |.osl ..,.agg _,_,h,_=>by simp [SV.leA] at h
 |.csl ..,.agg _,_,h,_=>by simp [SV.leA] at h
 |.dat ..,.agg _,_,h,_=>by simp [SV.leA] at h
 |.mp _,.agg _,_,h,_=>by simp [SV.leA] at h
 |.imap ..,.agg _,_,h,_=>by simp [SV.leA] at h
 |.fn ..,.agg _,_,h,_=>by simp [SV.leA] at h
 |.iface ..,.agg _,_,h,_=>by simp [SV.leA] at h
 |.tup _,.agg _,_,h,_=>by simp [SV.leA] at h
 |.any,.tup _,_,h,_=>by simp [SV.leA] at h
 |.raw _,.tup _,_,h,_=>by simp [SV.leA] at h
 |.isl _ _,.tup _,_,h,_=>by simp [SV.leA] at h
 |.fsl _ _,.tup _,_,h,_=>by simp [SV.leA] at h
 |.iptr ..,.tup _,_,h,_=>by simp [SV.leA] at h
 |.ptr ..,.tup _,_,h,_=>by simp [SV.leA] at h
 |.rptr ..,.tup _,_,h,_=>by simp [SV.leA] at h
 |.bld ..,.tup _,_,h,_=>by simp [SV.leA] at h
 |.osl ..,.tup _,_,h,_=>by simp [SV.leA] at h
 |.csl ..,.tup _,_,h,_=>by simp [SV.leA] at h
 |.dat ..,.tup _,_,h,_=>by simp [SV.leA] at h
 |.mp _,.tup _,_,h,_=>by simp [SV.leA] at h
 |.imap ..,.tup _,_,h,_=>by simp [SV.leA] at h
 |.fn ..,.tup _,_,h,_=>by simp [SV.leA] at h
 |.iface ..,.tup _,_,h,_=>by simp [SV.leA] at h
 |.agg _,.tup _,_,h,_=>by simp [SV.leA] at h
 |s,.raw _,v,h,d=>by simp [SV.leA] at h;subst h;exact d
 |s,.fsl _ _,v,h,d=>by simp [SV.leA] at h;subst h;exact d
 |s,.iptr ..,v,h,d=>by simp [SV.leA] at h;subst h;exact d
 |s,.ptr ..,v,h,d=>by simp [SV.leA] at h;subst h;exact d
 |s,.rptr ..,v,h,d=>by simp [SV.leA] at h;subst h;exact d
 |s,.bld ..,v,h,d=>by simp [SV.leA] at h;subst h;exact d
 |s,.osl ..,v,h,d=>by simp [SV.leA] at h;subst h;exact d
 |s,.csl ..,v,h,d=>by simp [SV.leA] at h;subst h;exact d
 |s,.dat ..,v,h,d=>by simp [SV.leA] at h;subst h;exact d
 |s,.mp _,v,h,d=>by simp [SV.leA] at h;subst h;exact d
 |s,.imap ..,v,h,d=>by simp [SV.leA] at h;subst h;exact d
 |s,.fn ..,v,h,d=>by simp [SV.leA] at h;subst h;exact d
 |s,.iface ..,v,h,d=>by simp [SV.leA] at h;subst h;exact d
theorem q6E{C:Cx}:∀ {l l':List SV} {vs:List Value},SV.leAL l l'->SV.denL C l vs->SV.denL C l' vs
 | [],l',vs,h,d=>by simp only [SV.leAL] at h;subst h;exact d
 |s :: l,[],vs,h,d=>by simp [SV.leAL] at h
 |s :: l,s' :: l',vs,h,d=>by rw [z1A] at h;obtain ⟨v,us,rfl,h1,h2⟩:=q0d.1 d;exact q0d.2 ⟨v,us,rfl,z1T h.1 h1,q6E h.2 h2⟩
end

def SObj.unmarked:SObj->Prop
 |.mark _=>False
 |.dead=>True
 |.cells _ _=>True
 |.row _ _=>True
 |.map _ _ _=>True
def sealHL(n:Nat)(H:List SObj):List SObj->List SObj->Prop
 |_,[]=>True
 |o :: l,.dead :: l'=>o.unmarked∧sealHL n H l l'
 |.cells T cs :: l,.cells T' cs' :: l'=>(match SV.sealBL n H cs with
  |some (cs1,p)=>p∧T=T'∧SV.leAL cs1 cs'
  |none=>False)∧sealHL n H l l'
 |.row t xs :: l,.row t' xs' :: l'=>SObj.row t xs=SObj.row t' xs'∧sealHL n H l l'
 |.map a b c :: l,.map a' b' c' :: l'=>(a=a'∧b=b'∧c=c'∧(unrawL c).isSome=true)∧sealHL n H l l'
 |.mark a :: l,.mark a' :: l'=>a=a'∧sealHL n H l l'
 |_,_=>False
theorem q1e{n:Nat}{H:List SObj}:∀ {L L':List SObj} {h:Nat} {o':SObj},sealHL n H L L'->L'[h]?=some o'->o'.live=true->
 ∃o,L[h]?=some o∧o.live=true∧((∃T cs cs' cs1 p,o= .cells T cs∧o'= .cells T cs'∧SV.sealBL n H cs=some (cs1,p)∧p∧SV.leAL cs1 cs')∨(o=o'∧(∀T cs,o≠ .cells T cs)∧∀kk ks vs,o= .map kk ks vs->(unrawL vs).isSome=true))
 |L,[],h,o',_,hi,_=>by simp at hi
 | [],.dead :: l',_,_,hl,_,_=>by simp [sealHL] at hl
 | [],.cells _ _ :: l',_,_,hl,_,_=>by simp [sealHL] at hl
 | [],.row _ _ :: l',_,_,hl,_,_=>by simp [sealHL] at hl
 | [],.map _ _ _ :: l',_,_,hl,_,_=>by simp [sealHL] at hl
 | [],.mark _ :: l',_,_,hl,_,_=>by simp [sealHL] at hl
 |o :: l,.dead :: l',0,o',hl,hi,hv=>by simp at hi;subst hi;simp [SObj.live] at hv
 |o :: l,.dead :: l',h+1,o',hl,hi,hv=>by simp only [sealHL] at hl;simpa using q1e hl.2 (by simpa using hi) hv
 |.cells T cs :: l,.cells T' cs' :: l',0,o',hl,hi,hv=>by
  simp at hi;subst hi;simp only [sealHL] at hl;obtain ⟨h1,_⟩:=hl;split at h1
  . rename_i cs1 p he;obtain ⟨hp,rfl,hle⟩:=h1;exact ⟨_,rfl,rfl,.inl ⟨T,cs,cs',cs1,p,rfl,rfl,he,hp,hle⟩⟩
  exact h1.elim
 |.cells T cs :: l,.cells T' cs' :: l',h+1,o',hl,hi,hv=>by simp only [sealHL] at hl;simpa using q1e hl.2 (by simpa using hi) hv
 |.row t xs :: l,.row t' xs' :: l',0,o',hl,hi,hv=>by simp at hi;subst hi;simp only [sealHL] at hl;exact ⟨_,rfl,rfl,.inr ⟨hl.1,(fun _ _ h=>by cases h),fun _ _ _ h=>by cases h⟩⟩
 |.row t xs :: l,.row t' xs' :: l',h+1,o',hl,hi,hv=>by simp only [sealHL] at hl;simpa using q1e hl.2 (by simpa using hi) hv
 |.map a b c :: l,.map a' b' c' :: l',0,o',hl,hi,hv=>by simp at hi;subst hi;simp only [sealHL] at hl;obtain ⟨⟨rfl,rfl,rfl,hr⟩,_⟩:=hl;exact ⟨_,rfl,rfl,.inr ⟨rfl,(fun _ _ h=>by cases h),fun _ _ _ h=>by cases h;exact hr⟩⟩
 |.map a b c :: l,.map a' b' c' :: l',h+1,o',hl,hi,hv=>by simp only [sealHL] at hl;simpa using q1e hl.2 (by simpa using hi) hv
 |.dead :: l,.cells _ _ :: l',_,_,hl,_,_=>by simp [sealHL] at hl
 |.dead :: l,.row _ _ :: l',_,_,hl,_,_=>by simp [sealHL] at hl
 |.dead :: l,.map _ _ _ :: l',_,_,hl,_,_=>by simp [sealHL] at hl
 |.cells _ _ :: l,.row _ _ :: l',_,_,hl,_,_=>by simp [sealHL] at hl
 |.cells _ _ :: l,.map _ _ _ :: l',_,_,hl,_,_=>by simp [sealHL] at hl
 |.row _ _ :: l,.cells _ _ :: l',_,_,hl,_,_=>by simp [sealHL] at hl
 |.row _ _ :: l,.map _ _ _ :: l',_,_,hl,_,_=>by simp [sealHL] at hl
 |.map _ _ _ :: l,.cells _ _ :: l',_,_,hl,_,_=>by simp [sealHL] at hl
 |.map _ _ _ :: l,.row _ _ :: l',_,_,hl,_,_=>by simp [sealHL] at hl
 |.mark a :: l,.mark a' :: l',0,o',hl,hi,hv=>by simp at hi;subst hi;simp [SObj.live] at hv
 |.mark a :: l,.mark a' :: l',h+1,o',hl,hi,hv=>by simp only [sealHL] at hl;simpa using q1e hl.2 (by simpa using hi) hv
 |.dead :: l,.mark _ :: l',_,_,hl,_,_=>by simp [sealHL] at hl
 |.cells _ _ :: l,.mark _ :: l',_,_,hl,_,_=>by simp [sealHL] at hl
 |.mark _ :: l,.cells _ _ :: l',_,_,hl,_,_=>by simp [sealHL] at hl
 |.row _ _ :: l,.mark _ :: l',_,_,hl,_,_=>by simp [sealHL] at hl
 |.mark _ :: l,.row _ _ :: l',_,_,hl,_,_=>by simp [sealHL] at hl
 |.map _ _ _ :: l,.mark _ :: l',_,_,hl,_,_=>by simp [sealHL] at hl
 |.mark _ :: l,.map _ _ _ :: l',_,_,hl,_,_=>by simp [sealHL] at hl

def z2i{n:Nat}{L L':List SObj}{m:Nat}(hl:sealHL n H L L')(hn:0<L'.length)(h:L[0]?=some (.mark m)):L'[0]?=some (.mark m):=by
 cases L with
 |nil=>simp at h
 |cons a L=>
  simp at h;subst h;cases L' with
  |nil=>simp at hn
  |cons a' L'=>cases a'<;>simp [sealHL,SObj.unmarked] at hl⊢;exact hl.1.symm

def z9N{C:Cx}{H' H1:List SObj}(hw:Wd C H')(hlen:H1.length<=H'.length)(hl:sealHL H1.length H' H' H1):Wd (C.shutB H' H1.length) H1:=by
 have hown:∀b,OwnB (C.shutB H' H1.length) H1 b->OwnB C H' b∧¬OwnGe C H' H1.length b:=by rintro b ⟨h,o',ho,hv,hb⟩;obtain ⟨o,h1,h2,_⟩:=q1e hl ho hv;refine ⟨⟨h,o,h1,h2,hb⟩,?_⟩;rintro ⟨h',o2,hge,h3,h4,hb'⟩;have e:=hw.inj h h' o o2 b h1 h3 h2 h4 hb hb';have:=(Ag.1 ho).1;omega
 refine ⟨rfl,fun h o' ho=> ?_,fun b hb=> ?_,fun h h' o o' b ho ho' hv hv' hb hb'=> ?_,?_⟩
 . by_cases hv:o'.live=true
   . obtain ⟨o,h1,_,h3⟩:=q1e hl ho hv;have hd:=hw.obj h o h1;rcases h3 with ⟨T,cs,cs',cs1,p,rfl,rfl,he,hp,hle⟩ | ⟨rfl,hc,hcm⟩
     . obtain ⟨b,vs,g1,g2,g3⟩:=hd;exact ⟨b,vs,g1,g2,q6E hle (q2p hw he hp g3)⟩
     cases o with
     |dead=>trivial
     |cells T cs=>exact absurd rfl (hc T cs)
     |row t xs=>
      rcases hd with hd| ⟨b,arr,T,fz,g1,g2,g3,g4,g5⟩
      . exact .inl hd
      refine .inr ⟨b,arr,T,fz,g1,g2,g3,g4,fun i x hx=> ?_⟩;obtain ⟨us,hu,hc'⟩:=g5 i x hx;exact ⟨us,Ty.rel_keep (q1F C H' _) _ _ _ hu,hc'⟩
     |map kk ks vs=>obtain ⟨b,us,g1,g2,g3⟩:=hd;obtain ⟨us',hu⟩:=Co.1 (hcm _ _ _ rfl);obtain rfl:=q4F hu;obtain rfl:=q1l g3;exact ⟨b,_,g1,g2,q1n _⟩
     |mark n=>trivial
   cases o'<;>first|trivial|simp [SObj.live] at hv
 . obtain ⟨h1,h2⟩:=hown b hb;exact ⟨fun hi=>hi.elim (hw.own b h1).1 h2,(hw.own b h1).2⟩
 . obtain ⟨o1,h1,h2,_⟩:=q1e hl ho hv;obtain ⟨o2,h3,h4,_⟩:=q1e hl ho' hv';exact hw.inj h h' o1 o2 b h1 h3 h2 h4 hb hb'
 rintro b (hb| ⟨h,o,_,h1,h2,h3⟩)
 . exact hw.imm b hb
 exact (hw.own b ⟨h,o,h1,h2,h3⟩).2
def z6y{C C':Cx}{H' H1:List SObj}(hw':Wd C' H')(hn:C.n<=H1.length)(hx:Ext ⟨C,H⟩ C' H')(hl:sealHL H1.length H' H' H1):Ext ⟨C,H⟩ (C'.shutB H' H1.length) H1:=by
 refine ⟨⟨hn,fun h hh=>hx.evo.ρ h hh,hx.evo.I.trans (q1F C' H' _),hx.evo.sz⟩,hx.size,hx.os,hx.tape,hx.output,hx.frame,?_,?_,fun m hm h=>z2i hl (An hm hn) (hx.keep0 m hm h)⟩
 . rintro b (hb| ⟨h,o,_,h1,h2,h3⟩)
   . exact hx.immNew b hb
   exact .inr ⟨hx.ownNew b ⟨h,o,h1,h2,h3⟩,(q4y hw' ⟨h,o,h1,h2,h3⟩:Unf C'.w b)⟩
 rintro b ⟨h,o',ho,hv,hb⟩;obtain ⟨o,h1,h2,_⟩:=q1e hl ho hv;exact hx.ownNew b ⟨h,o,h1,h2,hb⟩

def SealO(o:Out)(H1:List SObj)(o':Out)(H':List SObj):Prop:=
 o'=o.withV o'.val∧H1.length<=H'.length∧(match o'.val.sealB H1.length H' with
  |some (s1,p)=>p∧SV.leA s1 o.val
  |none=>False)∧sealHL H1.length H' H' H1
theorem VCall.sealO{f:FuncId}{args:List SV}{o:Out}{H1:List SObj}(hn:H.length<=H1.length)(h:VCall P f args H (SealO o H1)):VCall P f args H fun o' H'=>o'=o∧H'=H1:=by
 intro C vs hw ht hv;refine (h C vs hw ht hv).mono ?_;rintro e w' ⟨o',H',C',⟨ho,hlen,hs,hl⟩,rfl,hw',hx,hd⟩;split at hs
 . rename_i s1 p he;refine ⟨o,H1,C'.shutB H' H1.length,⟨rfl,rfl⟩,rfl,z9N hw' hlen hl,z6y hw' (by rw [hw.n];exact hn) hx hl,?_⟩;rw [ho] at hd;cases o with
   |ret s=>obtain ⟨v,rfl,hd⟩:=hd;exact ⟨v,rfl,z1T hs.2 (q5k hw' he hs.1 hd)⟩
   |pan s=>obtain ⟨v,rfl,hd⟩:=hd;exact ⟨v,rfl,z1T hs.2 (q5k hw' he hs.1 hd)⟩
 exact hs.elim
def q0b{f:FuncId}{args:List SV}{H0 H1:List SObj}{o:Out}(hn:H0.length<=H1.length)(h:VC P f args H0 (SealO o H1)):PE P f args H0 o H1:=⟨h.1,VCall.sealO hn h.2⟩
theorem PC.pe{f:FuncId}{args:List SV}{s:SV}(h:PC P f args s):PE P f args [] (.ret s) []:=⟨h.1,h.2 _ _ ⟨rfl,rfl⟩⟩
def z8L{s s':SV}{H1 H':List SObj}:SealO (.ret s) H1 (.ret s') H'=(H1.length<=H'.length∧(match s'.sealB H1.length H' with
 |some (s1,p)=>p∧SV.leA s1 s
 |none=>False)∧sealHL H1.length H' H' H1):=by simp [SealO,Out.withV,Out.val]
def z8B{s s':SV}{H1 H':List SObj}:SealO (.pan s) H1 (.pan s') H'=(H1.length<=H'.length∧(match s'.sealB H1.length H' with
 |some (s1,p)=>p∧SV.leA s1 s
 |none=>False)∧sealHL H1.length H' H' H1):=by simp [SealO,Out.withV,Out.val]
attribute [go_sem] z8L z8B SV.sealB SV.sealBL j4k j3a j0E j2G j3G z8F z8c j3T z6q j5G j4U z1A j0x sealHL SObj.unmarked
end
open Go
variable {P:Program} {AQ:Ex->List SV->List SObj->Prop} {k0:Nat} {k:List IT} {t:List SV} {H:List SObj}

def afterD(H:List SObj)(C:Cx)(K:List SObj->Prop)(m:FrameMode):Ending->FrameMode->World->Prop:=
 fun e u w=>e= .returned (.tuple #[])∧u=m∧∃H' C',K H'∧C'.w=w∧Wd C' H'∧Ext ⟨C,H⟩ C' H'
def DCall(P:Program)(g:FuncId)(args:List SV)(pan:Option SV)(H:List SObj)(K:List SObj->Prop):Prop:=
 enters P g=true∧∀ (C:Cx) (vs:List Value),Wd C H->TabT C H->SV.denL C args vs->match pan with
  |none=>CallsDIn Fence.wide 0 P g vs.toArray .returning C.w (afterD H C K .returning)
  |some s=>∀v,s.den C v->CallsDIn Fence.wide 0 P g vs.toArray (.panicking [{v,recovered:=false}]) C.w (afterD H C K (.panicking [{v,recovered:=true}]))

def calmOp:Op->Bool
 |.typeAssert .. |.move _|.assign _|.extract .. |.alloc _|.store .. |.load .. =>true
 |_=>false
variable {w:World}{x:Next}
def z8v{s:Sem Value}{w':World}(h:(do pure (.value (<-s)):Sem Next).run P w= .ok x w'):(∃v,x= .value v)∨x= .skip:=by
 simp only [Sem.run_bind] at h;cases hs:s.run P w with
 |ok v w1=>rw [hs] at h;simp [Result.andThen] at h;exact .inl ⟨v,h.1.symm⟩
 |halt a b=>rw [hs] at h;simp [Result.andThen] at h
def z7h{s:Sem Unit}{w':World}(h:(do s;pure .skip:Sem Next).run P w= .ok x w'):(∃v,x= .value v)∨x= .skip:=by
 simp only [Sem.run_bind] at h;cases hs:s.run P w with
 |ok v w1=>rw [hs] at h;simp [Result.andThen] at h;exact .inr h.1.symm
 |halt a b=>rw [hs] at h;simp [Result.andThen] at h
theorem j1d{ρ:Operand->Value}{o:Oper}{w':World}(hc:calmOp o.op=true)(h:(execOp ρ o).run P w= .ok x w'):(∃v,x= .value v)∨x= .skip:=by unfold execOp at h;generalize o.op=op at*;cases op<;>first| (simp [calmOp] at hc;done) |exact z8v h|exact z7h h| (simp at h;exact .inl ⟨_,h.1.symm⟩)

def q7Y{all:Array Oper}{Q1:Exit->Act->World->Prop}{Q:Exit->Act->List Frame->World->Prop}{cs:List Frame}{n:Nat}(hq:∀e a w,Q1 e a w->Q e a cs w):
 ∀ (l:List Nat),(∀i∈l,∀o,all[i]?=some o->calmOp o.op=true)->∀ (a:Act) (w:World),wpOpsIn (Fw none) n P all Q1 l a w->wpOpsSIn Fence.wide n P all Q l a cs w
 | [],_,a,w,h=>hq _ _ _ h
 |i :: rest,hc,a,w,h=>by
  have ih:=fun a w=>q7Y (n:=n) hq rest (fun j hj=>hc j (AM _ hj)) a w;simp only [wpOpsIn] at h;simp only [wpOpsSIn];cases ho:all[i]? with
  |none=>rw [ho] at h;exact ih _ _ h
  |some o=>
   rw [ho] at h;simp only at h⊢;refine ⟨fun f _=>trivial,?_⟩;by_cases hw:Region.wanted o (yielded all a.tmps)=true
   . rw [if_pos hw] at h⊢;obtain ⟨_,hup⟩:=h;have hup':o.uponIn (Fw none) n P a (wpOpsIn (Fw none) n P all Q1 rest) Q1 ((execOp a.eval o).run P w):=hup;cases hr:(execOp a.eval o).run P w with
     |ok x w'=>
      rw [hr] at hup';rcases j1d (hc i (by simp) o ho) hr with ⟨v,rfl⟩ |rfl
      . exact ih _ _ hup'
      exact ih _ _ hup'
     |halt x w'=>rw [hr] at hup';cases x<;>first|exact hq _ _ _ hup'|exact hup'.elim
   rw [if_neg hw] at h⊢;exact ih _ _ h.2

def recS:Option SV->SV
 |none=>.raw .nilIface
 |some s=>s
def AQD(K:List SObj->Prop):Ex->List SV->List SObj->Prop
 |.normal,_,H=>K H
 |.ret,_,H=>K H
 |_,_,_=>False

variable {g:FuncId}{fn:Func}{args:List SV}{pan:Option SV}{K:List SObj->Prop}
def j0n{id:Nat}{all:Array Oper}{x:Code}{o0:Oper}{c:Call}{d:Nat}{m:Nat}(hg:enters P g=true)(hf:P.funcs[g]?=some fn)(hb:fn.body=some (.seq (.region id all false) x))
 (hr:fn.results= #[])(hm:all.size=m+1)(h0:all[0]?=some o0)(ho:o0.op= .call c)(hcal:c.callee= .builtin .recover)(hgd:o0.guard=none)(hd0:o0.dst=some d)(hcalm:∀i∈(List.range m).map (1+ ·),∀o,all[i]?=some o->calmOp o.op=true)
 (hs:Sound P (AQD K) ⟨H.length,[.ops all ((List.range m).map (1+ ·)),.code x],(args++List.replicate (fn.ntmps-args.length) SV.any).set d (recS pan),H⟩):DCall P g args pan H K:=by
 refine ⟨hg,?_⟩;intro C vs hw ht hv;have hlen:=q0A hv;have key:∀ (c₀:Frame) (cs:List Frame) (u:FrameMode) (v:Value),(recS pan).den C v->((recoverD (c₀ :: cs)=none∧v= .nilIface∧{c₀ with mode:=u}=c₀)∨recoverD (c₀ :: cs)=some (v,{c₀ with mode:=u} :: cs))->
  (Code.seq (.region id all false) x).wpSIn Fence.wide 0 P (bodyPostS P fn c₀ cs (afterD H C K u)) {tmps:=vs.toArray++Array.replicate (fn.ntmps-vs.toArray.size) undef,defers:=[]} (c₀ :: cs) C.w:=by
  intro c₀ cs u v hdv hrec;apply wpSIn_seq;apply wpSIn_region;have hra:List.range all.size=0 :: (List.range m).map (1+ ·):=by rw [hm,B2];congr 1;exact Ba fun a _=>by simp [Bs]
  rw [hra];simp only [wpOpsSIn,h0];refine ⟨fun f _=>trivial,?_⟩;have hwant:∀y,Region.wanted o0 y=true:=fun y=>by unfold Region.wanted;rw [hgd]
  rw [if_pos (hwant _)];have hrun:∀ρ:Operand->Value,(execOp ρ o0).run P C.w= .ok .recover C.w:=fun ρ=>by simp [execOp,ho,resolve,hcal,invoke,builtin]
  rw [hrun];simp only;have hden:Den ⟨⟨C,H⟩,[]⟩ C ((args++List.replicate (fn.ntmps-args.length) SV.any).set d (recS pan)) H (({tmps:=vs.toArray++Array.replicate (fn.ntmps-vs.toArray.size) undef,defers:=[]}:Act).put (some d) v):=by
   refine ⟨hw,Ext.refl _ _,⟨rfl,ht.here,trivial⟩,q9l (a:={tmps:=vs.toArray++Array.replicate (fn.ntmps-vs.toArray.size) undef,defers:=[]}) ?_ (some d) hdv⟩;simp only [CJ,Cv,AR,hlen];refine q0x.2 ⟨vs,_,rfl,hv,?_⟩;generalize fn.ntmps-args.length=m;induction m with
   |zero=>exact q0y.2 rfl
   |succ m ih=>exact q0d.2 ⟨_,_,Cj,by rw [SV.den];trivial,ih⟩
  have h1:=hs ⟨⟨C,H⟩,[]⟩ none 0 C _ ⟨by rw [hw.n];exact Af _,trivial⟩ hden;simp only [wpT] at h1;have fin:∀ (e:Exit) (a:Act) (w:World),conc ⟨⟨C,H⟩,[]⟩ (AQD K) e a w->bodyPostS P fn c₀ cs (afterD H C K u) e a ({c₀ with mode:=u} :: cs) w:=by
   intro e a w hq;have hres:∀w,(results fn a.tmps).run P w= .ok (.tuple #[]) w:=fun w=>by unfold results;rw [hr];simp [Result.andThen]
   cases e with
   |normal=>obtain ⟨C',t',H',hk,rfl,hd'⟩:=hq;exact ⟨hd'.defs.1,u,rfl,.tuple #[],hres _,rfl,rfl,H',C',hk,rfl,hd'.wd,hd'.ext⟩
   |ret=>obtain ⟨C',t',H',hk,rfl,hd'⟩:=hq;exact ⟨hd'.defs.1,u,rfl,.tuple #[],hres _,rfl,rfl,H',C',hk,rfl,hd'.wd,hd'.ext⟩
   |exit id=>obtain ⟨_,_,_,hk,_⟩:=hq;exact hk.elim
   |panic ch=>obtain ⟨_,_,_,_,_,hk,_⟩:=hq;exact hk.elim
   |goto l=>exact hq.elim
   |outgrown=>exact hq.elim
  have main:wpOpsSIn Fence.wide 0 P all (Exit.thenS (x.wpSIn Fence.wide 0 P (bodyPostS P fn c₀ cs (afterD H C K u))) (bodyPostS P fn c₀ cs (afterD H C K u))) ((List.range m).map (1+ ·)) (({tmps:=vs.toArray++Array.replicate (fn.ntmps-vs.toArray.size) undef,defers:=[]}:Act).put (some d) v) ({c₀ with mode:=u} :: cs) C.w:=by
   refine q7Y ?_ _ hcalm _ _ h1;intro e a w hq;cases e with
   |normal=>
    refine wpSIn_of_wpIn rfl (wpIn_mono hq fun e a w hq=> ?_);cases e with
    |normal=>exact fin _ _ _ hq
    |exit id=>exact fin _ _ _ hq
    |ret=>exact fin _ _ _ hq
    |panic ch=>exact fin _ _ _ hq
    |goto l=>exact hq.elim
    |outgrown=>exact hq.elim
   |exit id=>exact fin _ _ _ (by simpa only [exitT] using hq)
   |ret=>exact fin _ _ _ hq
   |panic ch=>exact fin _ _ _ hq
   |goto l=>exact hq.elim
   |outgrown=>exact hq.elim
  rcases hrec with ⟨hrec,rfl,hc⟩ |hrec
  . rw [hrec,hd0];rw [hc] at main;exact main
  rw [hrec,hd0];exact main
 cases pan with
 |none=>refine callsDIn_of_wpSIn hf hb trivial fun c₀ cs hu=> ?_;refine key c₀ cs .returning .nilIface (by simp [recS,SV.den]) (.inl ⟨by simp [recoverD,hu],rfl,?_⟩);cases c₀;simp at hu;subst hu;rfl
 |some s=>intro v hdv;refine callsDIn_of_wpSIn hf hb trivial fun c₀ cs hu=> ?_;exact key c₀ cs _ v hdv (.inr (by simp [recoverD,hu]))

def z4L{tmps:Array Value}{R:Ending->World->Prop}{caps:Array Value}{u:FrameMode}(hu:u≠ .run)(hg:enters P g=true)
 (h:CallsDIn Fence.wide 0 P g caps u w fun
  |.returned _,u',w'=>LeavesIn Fence.wide 0 P fn tmps R [] (settle u') w'
  |.panicked chain,u',w'=>LeavesIn Fence.wide 0 P fn tmps R [] (raised u' chain) w'
  |.outgrown,_,w'=>R .outgrown w'):
 LeavesInM Fence.wide 0 P fn tmps R [{target:=.fn (.func g) caps,args:= #[]}] u w:=by
 refine ⟨hu,.inr ⟨(fun hd=>by cases hd),.func g,caps,g,caps,rfl,?_,fun _ _=>trivial,?_⟩⟩
 . simp [invoke,q3d hg]
 exact h

structure DI where
 ntmps:Nat
 results:List ResultVar
 pre:List IC
 slot:Nat
 g:Nat
 ca:List Operand
 post:IC

def deferAt:Code->Option (Nat×Nat×List Operand)
 |.region _ ops false=>match ops.toList with
  | [o0,o1]=>match o0.op,o0.dst,o0.guard,o1.op,o1.dst,o1.guard with
   |.makeFunc (.func g) fi ca,some d,none,.defer c,none,none=>match c.callee with
    |.value (.tmp d')=>if d=d'∧c.args.size=0∧fi.size=0 then some (d,g,ca.toList) else none
    |_=>none
   |_,_,_,_,_,_=>none
  |_=>none
 |_=>none
def dsplit(P:Program):Code->Option (List IC×(Nat×Nat×List Operand)×IC)
 |.seq x y=>match deferAt x with
  |some q=>match comp P y with
   |some iy=>some ([],q,iy)
   |none=>none
  |none=>match comp P x,dsplit P y with
   |some ix,some (l,q,iy)=>some (ix :: l,q,iy)
   |_,_=>none
 |_=>none
def dinfo(P:Program)(f:FuncId):Option DI:=
 match P.funcs[f]? with
 |some fn=>match fn.body with
  |some c=>match dsplit P c with
   |some (l,(d,g,ca),iy)=>if fn.name== "runtime.NumGoroutine" then none else some ⟨fn.ntmps,fn.results.toList,l,d,g,ca,iy⟩
   |none=>none
  |none=>none
 |none=>none

def AQ2(P:Program)(rs:List ResultVar)(g:FuncId)(caps:List SV)(K:Out->List SObj->Prop):Ex->List SV->List SObj->Prop
 |.normal,t,H=>DCall P g caps none H fun H'=>∃s,resV P t H' rs=some s∧K (.ret s) H'
 |.ret,t,H=>DCall P g caps none H fun H'=>∃s,resV P t H' rs=some s∧K (.ret s) H'
 |.pan s,t,H=>t≠ []∧DCall P g caps (some s) H fun H'=>∃s,resV P t H' rs=some s∧K (.ret s) H'
 |.exit _,_,_=>False
def AQ1(P:Program)(rs:List ResultVar)(K:Out->List SObj->Prop):Ex->List SV->List SObj->Prop
 |.ret,t,H=>∃s,resV P t H rs=some s∧K (.ret s) H
 |.pan s,_,H=>K (.pan s) H
 |_,_,_=>False
def DPost(P:Program)(di:DI)(K:Out->List SObj->Prop):List SV->List SObj->Prop:=
 fun t H=>di.slot<t.length∧SoundI P (AQ2 P di.results di.g (di.ca.map (evT t)) K) ⟨H.length,[.ic di.post],t.set di.slot (.fn di.g [] (di.ca.map (evT t))),H⟩

def q5S{F:Fence}{n:Nat}{E:EnD}{Q1 Q:Exit->Act->World->Prop}{Φ:List SV->List SObj->Prop}{k2:List It}(hQ:∀e a w,e≠ .normal->Q1 e a w->Q e a w)(hx:∀id a w,¬Q1 (.exit id) a w)(hΦ:∀a C t H,Φ t H->Den E C t H a->wpT F n P E Q k2 a C.w):
 ∀ (l:List Code) (a:Act) (w:World),wpT F n P E Q1 (l.map .code++ [.stop Φ]) a w->wpT F n P E Q (l.map .code++k2) a w
 | [],a,w,h=>by obtain ⟨C,t,H,h1,rfl,h2⟩:=h;exact hΦ a C t H h1 h2
 |c :: l,a,w,h=>by
  simp only [AC,AH,wpT] at h⊢;refine wpIn_mono h fun e a w hq=> ?_;cases e with
  |normal=>exact q5S hQ hx hΦ l a w hq
  |exit id=>
   exfalso;have:∀ (l:List Code) (a:Act) (w:World),¬exitT F n P E Q1 id (l.map .code++ [.stop Φ]) a w:=by
    intro l;induction l with
    |nil=>intro a w hq;simp only [B3,Ax,exitT] at hq;exact hx _ _ _ hq
    |cons c l ih=>intro a w hq;simp only [AC,AH,exitT] at hq;exact ih a w hq
   exact this l a w hq
  |ret=>exact hQ _ _ _ (by simp) hq
  |panic ch=>exact hQ _ _ _ (by simp) hq
  |goto l=>exact hQ _ _ _ (by simp) hq
  |outgrown=>exact hQ _ _ _ (by simp) hq

theorem z0T{x:Code}{d g:Nat}{ca:List Operand}{n:Nat}{Q:Exit->Act->World->Prop}{a:Act}(h:deferAt x=some (d,g,ca))
 (hq:Q .normal {tmps:=a.tmps.setIfInBounds d (.func (.func g) #[] (ca.map a.eval).toArray),defers:={target:=.fn (.func g) (ca.map a.eval).toArray,args:= #[]} :: a.defers} w)(hsz:d<a.tmps.size):x.wpIn (Fw none) n P Q a w:=by
 unfold deferAt at h;split at h
 . rename_i id ops;split at h
   . rename_i o0 o1 hops;split at h
     . rename_i g' fi ca' d' c e1 e2 e3 e4 e5 e6;split at h
       . rename_i d'' ec;split at h
         . rename_i hcond;obtain ⟨rfl,hargs,hfi⟩:=hcond;cases h;have hops':ops= #[o0,o1]:=by rw [<-hops]
           subst hops';have hfi':fi= #[]:=A0 hfi;have hargs':c.args= #[]:=A0 hargs;apply wpIn_region;have hr:List.range (#[o0,o1]:Array Oper).size= [0,1]:=rfl;rw [hr];have hw0:∀y,Region.wanted o0 y=true:=fun y=>by unfold Region.wanted;rw [e3]
           have hw1:∀y,Region.wanted o1 y=true:=fun y=>by unfold Region.wanted;rw [e6]
           simp only [wpOpsIn,List.getElem?_toArray,List.getElem?_cons_zero,List.getElem?_cons_succ];rw [if_pos (hw0 _)];refine ⟨fun f _=>q4U none f,?_⟩;have r0:(o0.semAt (Fw none).round a.eval).run P w= .ok (.value (.func (.func g) #[] (ca'.map a.eval))) w:=by rw [Oper.semAt_eq _ _ _ (by rw [e1];intro c hc;cases hc)];simp [execOp,e1,hfi',Instr.makeFunc]
           rw [r0];simp only [Oper.uponIn];rw [if_pos (hw1 _)];refine ⟨fun f _=>q4U none f,?_⟩;have hev:(a.put o0.dst (.func (.func g) #[] (ca'.map a.eval))).eval (.tmp d)= .func (.func g) #[] (ca'.map a.eval):=by simp [e2,Act.put,Act.eval,BR,hsz]
           have r1:(o1.semAt (Fw none).round (a.put o0.dst (.func (.func g) #[] (ca'.map a.eval))).eval).run P w= .ok (.defer {target:=.fn (.func g) (ca'.map a.eval),args:= #[]}) w:=by show (o1.semAt none _).run P w=_;rw [Oper.semAt_none];simp [execOp,e4,resolve,ec,hev,hargs',Deferred.ofValue]
           rw [r1];simp only [Oper.uponIn];rw [e2,e5];have hmp:(List.map a.eval ca'.toList).toArray=ca'.map a.eval:=by apply Array.ext';simp
           rw [hmp] at hq;exact hq
         cases h
       cases h
     cases h
   cases h
 cases h

theorem z0w{n:Nat}{E:EnD}{Q:Exit->Act->World->Prop}:∀ {c:Code} {l:List IC} {q:Nat×Nat×List Operand} {iy:IC},dsplit P c=some (l,q,iy)->
 ∃ (cs:List Code) (x y:Code),deferAt x=some q∧comp P y=some iy∧(cs.map (comp P)=l.map some)∧∀a w,wpT (Fw none) n P E Q (cs.map .code++ [.code x,.code y]) a w->c.wpIn (Fw none) n P Q a w
 |.seq x y,l,q,iy,h=>by
  have hex:∀ (k:List It),(∀i∈k,∃c,i= .code c)->∀id a w,exitT (Fw none) n P E Q id k a w->Q (.exit id) a w:=by
   intro k;induction k with
   |nil=>intro _ id a w h;exact h
   |cons i k ih=>intro hk id a w h;obtain ⟨c,rfl⟩:=hk i (by simp);simp only [exitT] at h;exact ih (fun j hj=>hk j (by simp [hj])) id a w h
  simp only [dsplit] at h;split at h
  . rename_i q' hd;split at h
    . cases h;refine ⟨[],x,y,hd,by assumption,rfl,fun a w hw=> ?_⟩;simp only [B3,Ax,wpT] at hw;refine wpIn_seq (wpIn_mono hw fun e a w hq=> ?_);cases e with
      |normal=>refine wpIn_mono hq fun e a w hq=> ?_;cases e<;>exact hq
      |exit id=>exact hex [.code y] (by simp) id a w hq
      |_=>exact hq
    cases h
  split at h
  . rename_i ix l' q' iy' h1 h2;cases h;obtain ⟨cs,x',y',g1,g2,g3,g4⟩:=z0w (n:=n) (E:=E) (Q:=Q) h2;refine ⟨x :: cs,x',y',g1,g2,by simp [h1,g3],fun a w hw=> ?_⟩;simp only [AC,AH,wpT] at hw;refine wpIn_seq (wpIn_mono hw fun e a w hq=> ?_);cases e with
    |normal=>exact g4 a w hq
    |exit id=>exact hex (cs.map .code++ [.code x',.code y']) (by simp;rintro i (⟨c,_,rfl⟩ |rfl|rfl) <;>exact ⟨_,rfl⟩) id a w hq
    |_=>exact hq
  cases h
 |.skip,_,_,_,h=>by simp [dsplit] at h
 |.region ..,_,_,_,h=>by simp [dsplit] at h
 |.cond ..,_,_,_,h=>by simp [dsplit] at h
 |.block ..,_,_,_,h=>by simp [dsplit] at h
 |.loop _,_,_,_,h=>by simp [dsplit] at h
 |.exit _,_,_,_,h=>by simp [dsplit] at h
 |.ret,_,_,_,h=>by simp [dsplit] at h
 |.rangeFunc ..,_,_,_,h=>by simp [dsplit] at h
 |.scope _,_,_,_,h=>by simp [dsplit] at h
 |.goto _,_,_,_,h=>by simp [dsplit] at h
 |.refuse _,_,_,_,h=>by simp [dsplit] at h
 |.label _,_,_,_,h=>by simp [dsplit] at h
def q6V{Φ:List SV->List SObj->Prop}:∀ {cs:List Code} {l:List IC},cs.map (comp P)=l.map some->RelT P (l.map .ic++ [.stop Φ]) (cs.map .code++ [.stop Φ])
 | [],[],_=>⟨[],rfl,rfl⟩
 |c :: cs,ic :: l,h=>by simp only [AC,List.cons.injEq] at h;exact ⟨c,_,rfl,h.1,q6V h.2⟩
 | [],_ :: _,h=>by simp at h
 |_ :: _,[],h=>by simp at h

variable {f:FuncId}{K:Out->List SObj->Prop}
theorem j7p{di:DI}(h:dinfo P f=some di)
 (hs:SoundI P (AQ1 P di.results K) ⟨H.length,di.pre.map .ic++ [.stop (DPost P di K)],args++List.replicate (di.ntmps-args.length) .any,H⟩):VC P f args H K:=by
 unfold dinfo at h;split at h
 . rename_i fn hf;split at h
   . rename_i c hb;split at h
     . rename_i l d g ca iy hd;split at h
       . cases h
       rename_i hn;cases h;refine ⟨by simp [enters,hf,hb];simpa using hn,?_⟩;intro C vs hw ht hv;refine (callsIn_wide (n:=0)).1 (callsIn_of_wp_marks hf hb trivial ?_ rfl);have hlen:=q0A hv;have hd0:Den ⟨⟨C,H⟩,[]⟩ C (args++List.replicate (fn.ntmps-args.length) .any) H {tmps:=vs.toArray++Array.replicate (fn.ntmps-vs.toArray.size) undef,defers:=[]}:=by
        refine ⟨hw,Ext.refl _ _,⟨rfl,ht.here,trivial⟩,?_⟩;simp only [CJ,Cv,AR,hlen];refine q0x.2 ⟨vs,_,rfl,hv,?_⟩;generalize fn.ntmps-args.length=m;induction m with
        |zero=>exact q0y.2 rfl
        |succ m ih=>exact q0d.2 ⟨_,_,Cj,by rw [SV.den];trivial,ih⟩
       obtain ⟨cs,x,y,g1,g2,g3,g4⟩:=z0w (n:=0) (E:=⟨⟨C,H⟩,[]⟩) (Q:=bodyPostM Fence.wide 0 P fn fun e w'=>∃o H' C',K o H'∧C'.w=w'∧Wd C' H'∧Ext ⟨C,H⟩ C' H'∧outDen C' o e) hd;refine g4 _ _ ?_;have h1:=q0g hs (q6V g3) ⟨⟨C,H⟩,[]⟩ none 0 C _ ⟨by rw [hw.n];exact Af _,trivial⟩ hd0;refine q5S ?_ ?_ ?_ cs _ _ h1
       . intro e a w hne hq;cases e with
         |normal=>exact absurd rfl hne
         |ret=>obtain ⟨C',t',H',⟨s,hs',hk⟩,rfl,hd'⟩:=hq;have e1:a.defers= []:=hd'.defs.1;show LeavesInM _ _ _ _ _ _ _ _ _;rw [e1];obtain ⟨v,q1,q2⟩:=q9v (P:=P) (fn:=fn) hd'.wd hd'.tmps hs';exact q6r q1 ⟨.ret s,H',C',hk,rfl,hd'.wd,hd'.ext,v,rfl,q2⟩
         |panic ch=>obtain ⟨C',t',H',s,v,hk,rfl,hs',rfl,hw',hx',hdf,_⟩:=hq;have e1:a.defers= []:=hdf.1;show LeavesInM _ _ _ _ _ _ _ _ _;rw [e1];exact ⟨.pan s,H',C',hk,rfl,hw',hx',v,rfl,hs'⟩
         |exit id=>obtain ⟨_,_,_,hq,_⟩:=hq;exact hq.elim
         |goto l=>exact hq.elim
         |outgrown=>exact hq.elim
       . rintro id a w ⟨_,_,_,hq,_⟩;exact hq
       intro a C1 t1 H1 hΦ hd1;simp only [wpT];have hsz:d<a.tmps.size:=by have:=q0A hd1.tmps;rw [Au] at this;rw [this];exact hΦ.1
       refine z0T g1 ?_ hsz;have e1:a.defers= []:=hd1.defs.1;have hcaps:SV.denL C1 (ca.map (evT t1)) (ca.map a.eval):=q1R _ fun x _=>q2g hd1.tmps x;have hden1:Den ⟨⟨C1,H1⟩,[{target:=.fn (.func g) (ca.map a.eval).toArray,args:= #[]}]⟩ C1 (t1.set d (.fn g [] (ca.map (evT t1)))) H1 {tmps:=a.tmps.setIfInBounds d (.func (.func g) #[] (ca.map a.eval).toArray),defers:={target:=.fn (.func g) (ca.map a.eval).toArray,args:= #[]} :: a.defers}:=by refine ⟨hd1.wd,Ext.refl _ _,⟨by rw [e1],hd1.defs.2.1.tab.here,trivial⟩,q9l (a:=a) hd1.tmps (some d) ?_⟩;rw [SV.den];exact ⟨[],_,rfl,q0y.2 rfl,hcaps⟩
       have h2:=q0g hΦ.2 ⟨y,[],rfl,g2,rfl⟩ _ none 0 C1 _ ⟨by rw [hd1.wd.n];exact Af _,trivial⟩ hden1;simp only [wpT] at h2;refine wpIn_mono h2 fun e a2 w2 hq=> ?_;have fin:∀ (C2:Cx) (t2:List SV) (H2:List SObj) (pan:Option SV) (u:FrameMode) (u2:FrameMode),u≠ .run->settle u2= .returning->DCall P g (ca.map (evT t1)) pan H2 (fun H'=>∃s,resV P t2 H' fn.results.toList=some s∧K (.ret s) H')->C2.w=w2->Wd C2 H2->Ext ⟨C1,H1⟩ C2 H2->a2.defers= [{target:=.fn (.func g) (ca.map a.eval).toArray,args:= #[]}]->SV.denL C2 t2 a2.tmps.toList->
        (∀ {R:Ending->FrameMode->World->Prop},(∀e u' w',afterD H2 C2 (fun H'=>∃s,resV P t2 H' fn.results.toList=some s∧K (.ret s) H') u2 e u' w'->R e u' w')->CallsDIn Fence.wide 0 P g (ca.map a.eval).toArray u C2.w R)->
        LeavesInM Fence.wide 0 P fn a2.tmps (fun e w'=>∃o H' C',K o H'∧C'.w=w'∧Wd C' H'∧Ext ⟨C,H⟩ C' H'∧outDen C' o e) a2.defers u w2:=by
        intro C2 t2 H2 pan u u2 hu hset hdc hw2 hwd hx hdef hden hcall;subst hw2;rw [hdef];refine z4L hu hdc.1 (hcall ?_);rintro e u' w' ⟨rfl,rfl,H3,C3,⟨s,hs3,hk⟩,rfl,hw3,hx3⟩;simp only;rw [hset];obtain ⟨v,q1,q2⟩:=q9v (P:=P) (fn:=fn) (a:=a2) hw3 (q0h hx3.evo hden) hs3;exact ⟨v,q1,.ret s,H3,C3,hk,rfl,hw3,hd1.ext.trans (hx.trans hx3),v,rfl,q2⟩
       cases e with
       |normal=>obtain ⟨C2,t2,H2,hdc,hw2,hd2⟩:=hq;exact fin C2 t2 H2 none .returning .returning (by simp) rfl hdc hw2 hd2.wd hd2.ext hd2.defs.1 hd2.tmps fun hR=>(hdc.2 C2 _ hd2.wd (hd1.defs.2.1.tab.next hd2.ext) (q0h hd2.ext.evo hcaps)).mono fun e u' w' h=>hR e u' w' h
       |ret=>obtain ⟨C2,t2,H2,hdc,hw2,hd2⟩:=hq;exact fin C2 t2 H2 none .returning .returning (by simp) rfl hdc hw2 hd2.wd hd2.ext hd2.defs.1 hd2.tmps fun hR=>(hdc.2 C2 _ hd2.wd (hd1.defs.2.1.tab.next hd2.ext) (q0h hd2.ext.evo hcaps)).mono fun e u' w' h=>hR e u' w' h
       |panic ch=>obtain ⟨C2,t2,H2,s,v,⟨hne,hdc⟩,rfl,hs2,hw2,hwd2,hx2,hdf2,ht2⟩:=hq;have ht2':=ht2.resolve_left hne;exact fin C2 t2 H2 (some s) (.panicking [{v,recovered:=false}]) (.panicking [{v,recovered:=true}]) (by simp) rfl hdc hw2 hwd2 hx2 hdf2.1 ht2' fun hR=>(hdc.2 C2 _ hwd2 (hd1.defs.2.1.tab.next hx2) (q0h hx2.evo hcaps) v hs2).mono fun e u' w' h=>hR e u' w' h
       |exit id=>obtain ⟨_,_,_,hq,_⟩:=hq;exact hq.elim
       |goto l=>exact hq.elim
       |outgrown=>exact hq.elim
     cases h
   cases h
 cases h
structure RI where
 ntmps:Nat
 slot:Nat
 ops:List OpI
 code:IC
def isRec(o:Oper):Bool:=match o.op with
 |.call c=>match c.callee with
  |.builtin .recover=>true
  |_=>false
 |_=>false
def rinfo(P:Program)(g:FuncId):Option RI:=
 match P.funcs[g]? with
 |some fn=>match fn.body with
  |some (.seq (.region _ all false) x)=>match all.toList with
   |o0 :: os=>match o0.dst,o0.guard,compL P all os,comp P x with
    |some d,none,some l,some ix=>if isRec o0=true∧os.all (fun o=>calmOp o.op)=true∧fn.results.size=0∧(fn.name== "runtime.NumGoroutine")=false then some ⟨fn.ntmps,d,l,ix⟩ else none
    |_,_,_,_=>none
   | []=>none
  |_=>none
 |none=>none
variable {K:List SObj->Prop}
theorem j3b{ri:RI}(h:rinfo P g=some ri)
 (hs:SoundI P (AQD K) ⟨H.length,[.ops ri.ops,.ic ri.code],(args++List.replicate (ri.ntmps-args.length) SV.any).set ri.slot (recS pan),H⟩):DCall P g args pan H K:=by
 unfold rinfo at h;split at h
 . rename_i fn hf;split at h
   . rename_i id all x hb;split at h
     . rename_i o0 os hall;split at h
       . rename_i d l ix hd hg hl hx;split at h
         . rename_i hc;cases h;obtain ⟨hc1,hc2,hc3,hc4⟩:=hc;have hen:enters P g=true:=by simp [enters,hf,hb];simpa using hc4
           have hm:all.size=os.length+1:=by rw [<-Au,hall];rfl
           have hget:∀j,os[j]?=all[1+j]?:=fun j=>by rw [<-CA,hall,Bs];rfl
           unfold isRec at hc1;split at hc1
           . rename_i c ho;split at hc1
             . rename_i hcal;refine j0n hen hf hb (A0 hc3) hm (o0:=o0) (by rw [<-CA,hall];rfl) ho hcal hg hd (fun i hi o hio=> ?_) (q0g (td':=[It.ops all ((List.range os.length).map (1+ ·)),It.code x]) hs ⟨all,_,_,rfl,q7z 1 hget hl,x,[],rfl,hx,rfl⟩);obtain ⟨j,hj,rfl⟩:=By.1 hi;rw [<-hget] at hio;exact Bb.1 hc2 o (BN hio)
             cases hc1
           cases hc1
         cases h
       cases h
     cases h
   cases h
 cases h
attribute [go_sem] AQD AQ1 AQ2 DPost recS List.map_cons List.map_nil
def recE{ri:RI}{q:Prop}(hm:P.follows .mixedOrders=true)(hf:rinfo P g=some ri)(h:q)
 (e:run P (AQD K) 600 ⟨H.length,[.ops ri.ops,.ic ri.code],(args++List.replicate (ri.ntmps-args.length) SV.any).set ri.slot (recS pan),H⟩=q:=by (simp (maxSteps:=3000000) only [go_sem,↓zA,↓reduceIte,↓reduceDIte];(try simp only [zB]);rfl)):DCall P g args pan H K:=j3b hf (q0r hm 600 _ (Eq.mpr e h))
def defE{di:DI}{K:Out->List SObj->Prop}{q:Prop}(hm:P.follows .mixedOrders=true)(hf:dinfo P f=some di)(h:q)
 (e:run P (AQ1 P di.results K) 600 ⟨H.length,di.pre.map .ic++ [.stop (DPost P di K)],args++List.replicate (di.ntmps-args.length) .any,H⟩=q:=by (simp (maxSteps:=3000000) only [go_sem,↓zA,↓reduceIte,↓reduceDIte];(try simp only [zB]);rfl)):VC P f args H K:=j7p hf (q0r hm 600 _ (Eq.mpr e h))
abbrev zs:Value:=.slice none 0 0
abbrev zi:Value:=.int .i64 0
abbrev ze:Value:=.string ⟨#[]⟩
def kT:Operand:=.const (.bool true)
def kF:Operand:=.const (.bool false)
def kS:Operand:=.const (.slice none 0 0)
def kE:Operand:=.const (.string ⟨#[]⟩)
def fA(d k x:Nat):OpI:=⟨some d,.fa k (.tmp x),none⟩
def lD(d x:Nat):OpI:=⟨some d,.ld none (.tmp x),none⟩
def lG(d n x:Nat):OpI:=⟨some d,.ld (some n) (.tmp x),none⟩
def c0(d f:Nat):OpI:=⟨some d,.call (.func f) [],none⟩
def c1(d f a:Nat):OpI:=⟨some d,.call (.func f) [.tmp a],none⟩
def c2(d f a b:Nat):OpI:=⟨some d,.call (.func f) [.tmp a,.tmp b],none⟩
def c3(d f a b c:Nat):OpI:=⟨some d,.call (.func f) [.tmp a,.tmp b,.tmp c],none⟩
def bN(d:Nat)(o:BinOp)(k x y:Nat):OpI:=⟨some d,.bin o k (.tmp x) (.tmp y),none⟩
def nT(d x:Nat):OpI:=⟨some d,.un .not (.tmp x),none⟩
def lN(d:Nat)(b:Bool)(x:Nat):OpI:=⟨some d,.len b (.tmp x),none⟩
def iA(d s x y:Nat):OpI:=⟨some d,.ia s (.tmp x) (.tmp y),none⟩
def sT(n x y:Nat):OpI:=⟨none,.st n (.tmp x) (.tmp y),none⟩
def tS(d x:Nat):OpI:=⟨some d,.toStr true (.tmp x),none⟩
def mI(d:Nat)(n:Int):OpI:=⟨some d,.mov (.const (.int .i64 n)),none⟩
def aI(d x:Nat):OpI:=⟨some d,.bin .add 0 (.tmp x) (.const (.int .i64 1)),none⟩
def qR(l:List OpI)(b:IC):IC:=.seq (.reg l) b
def cE(x k:Nat):IC:=.cond (.tmp x) .skip (.exit k)
def pT(d x y:Nat):OpI:=⟨some d,.pick (.tmp x) (.const (.bool true)) (.tmp y),none⟩
def pF(d x y:Nat):OpI:=⟨some d,.pick (.tmp x) (.tmp y) (.const (.bool false)),none⟩
def z17:List Value:=[zs,ze,zs,.int .u32 0,zi,zs,ze,zi,zi,zi,zi,zi,zi,zi,zs,zs,zs]
def z5:List Value:=[zi,zs,ze,zi,zi]
def fF(d k x g:Nat):OpI:=⟨some d,.fa k (.tmp x),some (g,false)⟩
def fT(d k x g:Nat):OpI:=⟨some d,.fa k (.tmp x),some (g,true)⟩
def lF(d x g:Nat):OpI:=⟨some d,.ld none (.tmp x),some (g,false)⟩
def lT(d x g:Nat):OpI:=⟨some d,.ld none (.tmp x),some (g,true)⟩
def vF(d x g:Nat):OpI:=⟨some d,.mov (.tmp x),some (g,false)⟩
def vT(d x g:Nat):OpI:=⟨some d,.mov (.tmp x),some (g,true)⟩
def bC(d:Nat)(o:BinOp)(x:Nat)(n:Int):OpI:=⟨some d,.bin o 0 (.tmp x) (ci n),none⟩
def nL(d x:Nat):OpI:=⟨some d,.nil (.tmp x),none⟩
def T(n:Nat):Operand:=.tmp n
def tt(o:OpI):Bool×OpI:=(true,o)
def ft(o:OpI):Bool×OpI:=(false,o)
attribute [go_sem] fF fT lF lT vF vT bC nL T tt ft qR zs zi ze kT kF kS kE fA lD lG c0 c1 c2 c3 bN nT lN iA sT tS mI aI cE pT pF z17 z5
end Go.Sx
namespace Go.Proofs.YthbcodbcndiapaaGreatDoor
open Go Go.Sx Go.Proofs
set_option maxRecDepth 100000
abbrev Fi0(n:Nat)(i:FI):Prop:=finfo Tryz.prog n=some i
@[go_sem] theorem ag4:aggOf Tryz.prog 4=some none:=by kernel_rfl
@[go_sem] theorem ag24:aggOf Tryz.prog 24=some (some 2):=by kernel_rfl
@[go_sem] theorem ag27:aggOf Tryz.prog 27=some (some 3):=by kernel_rfl
@[go_sem] theorem ag28:aggOf Tryz.prog 28=some none:=by kernel_rfl
@[go_sem] theorem ag30:aggOf Tryz.prog 30=some (some 10):=by kernel_rfl
@[go_sem] theorem ag33:aggOf Tryz.prog 33=some none:=by kernel_rfl
@[go_sem] theorem ag44:aggOf Tryz.prog 44=some (some 3):=by kernel_rfl
@[go_sem] theorem ag141:aggOf Tryz.prog 141=some (some 8):=by kernel_rfl
@[go_sem] theorem ag234:aggOf Tryz.prog 234=some (some 32):=by kernel_rfl
@[go_sem] theorem ag256:aggOf Tryz.prog 256=some (some 2):=by kernel_rfl
@[go_sem] theorem ag292:aggOf Tryz.prog 292=some (some 64):=by kernel_rfl
@[go_sem] theorem ag300:aggOf Tryz.prog 300=some (some 73):=by kernel_rfl
def ir5:FI:=⟨49,[.tmp 10],(qR [o1 5 (.box 30 (T 0)),o1 6 (.box 30 (T 1)),o1 7 (.box 24 (T 2)),o1 10 (.mov kF)] (.seq (qR [lG 11 10 5,c1 12 8 11,nT 13 12,mv 14 13,oF 15 (.ld (some 10) (T 6)) 14,oF 16 (.call (.func 8) [(T 15)]) 14,oF 17 (.un .not (T 16)) 14,pT 18 14 17,mv 19 18,oF 20 (.ld (some 2) (T 7)) 19,oF 21 (.call (.func 22) [(T 20)]) 19,oF 22 (.un .not (T 21)) 19,pT 23 19 22] (.cond (T 23) (qR [c0 24 9,mv 10 24] .ret) .skip)) (.seq (.drw [tt (lG 25 10 5),tt (lG 26 2 7),tt (mv 27 3),tt (mv 28 4),tt (lG 31 10 5),tt (lG 32 2 7),tt (mv 33 3),tt (mv 34 4),ft (o1 29 (.call (.func 23) [(T 25),(T 26),(T 27),(T 28)])),ft (c1 30 13 29),ft (o1 35 (.call (.func 24) [(T 31),(T 32),(T 33),(T 34)])),tt (bN 36 .eql 0 30 35),tt (mv 37 36),tt (oT 38 (.ld (some 10) (T 5)) 37),tt (oT 39 (.ld (some 10) (T 6)) 37),tt (oT 41 (.ld (some 10) (T 5)) 37),tt (oT 42 (.ld (some 10) (T 6)) 37),ft (oT 40 (.call (.func 25) [(T 38),(T 39)]) 37),ft (oT 43 (.call (.func 26) [(T 41),(T 42)]) 37),tt (oT 44 (.bin .eql 0 (T 40) (T 43)) 37),tt (pF 45 37 44),tt (mv 46 45),ft (oT 47 (.call (.func 9) []) 46),tt (pF 48 46 47),tt (mv 10 48)]) .ret)))⟩
def fi5:Fi0 5 ir5:=by delta Fi0;kernel_rfl
def ir8:FI:=⟨41,[.tmp 2],(qR [o1 1 (.box 30 (T 0)),o1 2 (.mov kF)] (.seq (qR [mI 3 0] (.blk 0 (.loop (.seq (qR [mv 4 3,fA 5 9 1,lD 6 5,lN 7 false 6,bN 8 .lss 0 4 7] (cE 8 0)) (.seq (.blk 1 (qR [fA 11 9 1,lD 12 11,lN 13 false 12,bC 14 .gtr 13 20,mv 15 14,fF 16 9 1 15,lF 17 16 15,vF 18 3 15,oF 19 (.ia 2 (T 17) (T 18)) 15,fF 20 1 19 15,lF 21 20 15,oF 22 (.len false (T 21)) 15,oF 23 (.bin .gtr 0 (T 22) (ci 300)) 15,pT 24 15 23] (.cond (T 24) (qR [o1 2 (.mov kF)] .ret) .skip))) (.reg [mv 9 3,aI 10 9,mv 3 10])))))) (qR [fA 25 0 1,lG 26 2 25,c1 27 22 26,mv 28 27,fT 29 2 1 28,lT 30 29 28,oT 31 (.len false (T 30)) 28,oT 32 (.bin .leq 0 (T 31) (ci 300)) 28,pF 33 28 32,mv 34 33,fT 35 5 1 34,fT 36 2 35 34,lT 37 36 34,oT 38 (.len false (T 37)) 34,oT 39 (.bin .leq 0 (T 38) (ci 300)) 34,pF 40 34 39,mv 2 40] .ret)))⟩
def fi8:Fi0 8 ir8:=by delta Fi0;kernel_rfl
def ir9:FI:=⟨110,[.tmp 0],(qR [o1 0 (.mov kF)] (qR [o1 14 (.call (.func 29) [(.const (.string ⟨#[97]⟩))]),o1 15 (.bld [zs,ze,zs,zi,zi,zi,zi,zs,zi,zs] (.fields [(0,2),(2,1),(3,1),(4,1),(5,3),(8,1),(9,1)]) [(0,(T 14)),(2,(ci 10)),(3,(ci 7)),(5,(ci 1))]),o1 1 (.new 30 [zs,ze,zs,zi,zi,zi,zi,zs,zi,zs]),sT 10 1 15] (qR [o1 16 (.call (.func 30) [(.const (.int .u8 1)),(ci 16)]),o1 17 (.bld [zi,zi,zs] (.fields [(0,1),(1,1),(2,1)]) [(0,(ci 1)),(2,(T 16))]),o1 2 (.new 27 [zi,zi,zs]),sT 3 2 17] (qR [lG 19 10 1,c1 20 10 19,mv 18 20,ex 21 0 18,ex 22 1 18,mv 3 21,mv 4 22] (.seq (.drw [tt (lG 24 3 2),tt (lG 25 10 1),tt (o1 26 (.call (.func 30) [(.const (.int .u8 3)),(ci 16)])),tt (o1 27 (.call (.func 18) [(T 24),(ci 11),(T 25),(T 26)])),tt (mv 23 27),tt (ex 28 0 23),tt (ex 29 1 23),ft (o1 5 (.new 44 [zi,zi,zs])),ft (sT 3 5 28),tt (mv 6 29)]) (qR [lG 31 3 2,lG 32 3 5,o1 33 (.call (.func 20) [(T 31),(ci 11),(T 32)]),mv 30 33,ex 34 0 30,ex 35 1 30,o1 7 (.new 30 [zs,ze,zs,zi,zi,zi,zi,zs,zi,zs]),sT 10 7 34,mv 8 35] (qR [lG 37 3 2,lG 38 3 5,o1 39 (.call (.func 20) [(T 37),(ci 7),(T 38)]),mv 36 39,ex 40 0 36,ex 41 1 36,o1 9 (.new 30 [zs,ze,zs,zi,zi,zi,zi,zs,zi,zs]),sT 10 9 40,mv 10 41] (qR [o1 43 (.bsl .u8 2 1 [(.int .u8 0),(.int .u8 0)] [(0,(.const (.int .u8 98))),(1,(.const (.int .u8 0)))]),c1 44 15 43,mv 42 44,ex 45 0 42,ex 46 1 42,o1 11 (.new 30 [zs,ze,zs,zi,zi,zi,zi,zs,zi,zs]),sT 10 11 45,mv 12 46] (qR [lG 47 10 1,o1 13 (.new 30 [zs,ze,zs,zi,zi,zi,zi,zs,zi,zs]),sT 10 13 47] (qR [fA 48 4 13,o0 (.st 1 (T 48) (ci 8))] (.seq (qR [mv 49 4,c1 50 13 49,mv 51 6,c1 52 13 51,bN 53 .add 0 50 52,mv 54 8,c1 55 13 54,bN 56 .add 0 53 55,bC 57 .neq 56 0,mv 58 57,vF 59 3 58,oF 60 (.len false (T 59)) 58,oF 61 (.bin .neq 0 (T 60) (ci 45)) 58,pT 62 58 61,mv 63 62,vF 64 3 63,oF 65 (.ia 1 (T 64) (ci 0)) 63,lF 66 65 63,oF 67 (.bin .neq 0 (T 66) (.const (.int .u8 98))) 63,pT 68 63 67,mv 69 68,oF 70 (.ld (some 10) (T 1)) 69,oF 71 (.ld (some 10) (T 7)) 69,oF 72 (.call (.func 17) [(T 70),(T 71)]) 69,oF 73 (.un .not (T 72)) 69,pT 74 69 73,mv 75 74,vF 76 10 75,oF 77 (.call (.func 13) [(T 76)]) 75,oF 78 (.bin .neq 0 (T 77) (ci 10)) 75,pT 79 75 78,mv 80 79,vF 81 12 80,oF 82 (.call (.func 13) [(T 81)]) 80,oF 83 (.bin .neq 0 (T 82) (ci 6)) 80,pT 84 80 83,mv 85 84,oF 86 (.ld (some 10) (T 1)) 85,oF 87 (.ld (some 10) (T 13)) 85,oF 88 (.call (.func 25) [(T 86),(T 87)]) 85,oF 89 (.bin .neq 0 (T 88) (.const (.int .i64 (-1)))) 85,pT 90 85 89] (.cond (T 90) (qR [o1 0 (.mov kF)] .ret) .skip)) (.seq (.drw [tt (lG 91 10 1),ft (o1 92 (.call (.func 29) [(.const (.string ⟨#[97]⟩))])),ft (o1 93 (.call (.func 23) [(T 91),(T 92),(ci 15),(ci 5)])),ft (c1 94 13 93),tt (bC 95 .eql 94 0),tt (mv 96 95),tt (oT 97 (.ld (some 10) (T 1)) 96),ft (oT 98 (.call (.func 29) [(.const (.string ⟨#[97]⟩))]) 96),ft (oT 99 (.call (.func 23) [(T 97),(T 98),(ci 16),(ci 5)]) 96),ft (oT 100 (.call (.func 13) [(T 99)]) 96),tt (oT 101 (.bin .eql 0 (T 100) (ci 181)) 96),tt (pF 102 96 101),tt (mv 103 102),tt (oT 104 (.ld (some 10) (T 1)) 103),ft (oT 105 (.call (.func 29) [(.const (.string ⟨#[98]⟩))]) 103),ft (oT 106 (.call (.func 23) [(T 104),(T 105),(ci 15),(ci 5)]) 103),ft (oT 107 (.call (.func 13) [(T 106)]) 103),tt (oT 108 (.bin .eql 0 (T 107) (ci 180)) 103),tt (pF 109 103 108),tt (mv 0 109)]) .ret))))))))))))⟩
def fi9:Fi0 9 ir9:=by delta Fi0;kernel_rfl
def ir10:FI:=⟨58,[.tmp 2,.tmp 3],(qR [o1 1 (.box 30 (T 0)),o1 2 (.mov kS),mI 3 0] (.seq (qR [lG 8 10 1,c1 9 11 8,nT 10 9] (.cond (T 10) (qR [o1 2 (.mov kS),mI 3 2] .ret) .skip)) (qR [fA 12 0 1,lG 13 2 12,c1 14 31 13,mv 11 14,ex 15 0 11,ex 16 1 11,mv 4 15,mv 5 16] (qR [o1 17 (.mkm (some .i64)),o1 18 (.mkf 32 [] [(T 1)]),o0 (.mup (some .i64) (T 17) (ci 2) (T 18)),o1 19 (.mkf 35 [] [(T 1)]),o0 (.mup (some .i64) (T 17) (ci 5) (T 19)),o1 20 (.mkf 37 [] [(T 1)]),o0 (.mup (some .i64) (T 17) (ci 7) (T 20)),mv 21 17,mv 6 21] (.seq (.drw [tt (mv 22 6),tt (o1 23 (.mlk (some .i64) .nilFunc false (T 22) (ci 2))),tt (mv 26 4),ft (o1 24 (.call (.func 39) [(ci 5)])),ft (o1 25 (.call (.func 33) [(ci 0),(T 24)])),ft (o1 27 (.call (.func 33) [(ci 1),(T 26)])),ft (o1 28 (.bsl (.slice .u8) 2 1 [zs,zs] [(0,(T 25)),(1,(T 27))])),ft (o1 29 (.call (T 23) [(T 28)])),tt (mv 7 29)]) (.seq (.drw [tt (mv 30 7),tt (fA 31 4 1),tt (lD 32 31),tt (fA 35 3 1),tt (lD 36 35),ft (c1 33 39 32),ft (o1 34 (.call (.func 33) [(ci 3),(T 33)])),ft (c1 37 40 36),ft (o1 38 (.call (.func 33) [(ci 4),(T 37)])),ft (o1 39 (.bsl (.slice .u8) 2 1 [zs,zs] [(0,(T 34)),(1,(T 38))])),ft (o1 40 (.app (.slice .u8) 24 (T 30) (T 39))),tt (mv 7 40)]) (.seq (.drw [tt (mv 41 6),tt (o1 42 (.mlk (some .i64) .nilFunc false (T 41) (ci 5))),tt (mv 43 7),tt (fA 45 8 1),tt (lD 46 45),ft (o1 44 (.call (T 42) [(T 43)])),ft (c1 47 39 46),ft (o1 48 (.call (.func 33) [(ci 6),(T 47)])),ft (o1 49 (.bsl (.slice .u8) 1 1 [zs] [(0,(T 48))])),ft (o1 50 (.app (.slice .u8) 24 (T 44) (T 49))),tt (mv 7 50)]) (qR [mv 51 6,o1 52 (.mlk (some .i64) .nilFunc false (T 51) (ci 7)),mv 53 7,o1 54 (.call (T 52) [(T 53)]),mv 7 54] (qR [mv 55 7,c1 56 42 55,o1 57 (.call (.func 41) [(ci 2),(T 56)]),mv 2 57,mI 3 0] .ret)))))))))⟩
def fi10:Fi0 10 ir10:=by delta Fi0;kernel_rfl
def ir11:FI:=⟨58,[.tmp 2],(qR [o1 1 (.box 30 (T 0)),o1 2 (.mov kF)] (qR [fA 3 0 1,lG 4 2 3,c1 5 43 4,mv 6 5,fT 7 2 1 6,lT 8 7 6,oT 9 (.len false (T 8)) 6,oT 10 (.bin .leq 0 (T 9) (ci 64)) 6,pF 11 6 10,mv 12 11,fT 13 3 1 12,lT 14 13 12,oT 15 (.call (.func 44) [(T 14)]) 12,pF 16 12 15,mv 17 16,fT 18 4 1 17,lT 19 18 17,oT 20 (.bin .geq 0 (T 19) (ci 0)) 17,pF 21 17 20,mv 22 21,fT 23 4 1 22,lT 24 23 22,oT 25 (.bin .lss 0 (T 24) (ci 1000000)) 22,pF 26 22 25,mv 27 26,fT 28 5 1 27,oT 29 (.ld (some 3) (T 28)) 27,oT 30 (.call (.func 45) [(T 29)]) 27,vT 31 30 27,fF 32 5 1 31,oF 33 (.ld (some 3) (T 32)) 31,oF 34 (.call (.func 46) [(T 33)]) 31,vF 35 34 31,fT 36 5 1 35,fT 37 1 36 35,lT 38 37 35,oT 39 (.bin .eql 0 (T 38) (ci 0)) 35,oF 40 (.pick (T 35) (T 39) kF) 31,oT 41 (.pick (T 31) kT (T 40)) 27,pF 42 27 41,mv 43 42,fT 44 8 1 43,lT 45 44 43,oT 46 (.bin .geq 0 (T 45) (ci 0)) 43,pF 47 43 46,mv 48 47,fT 49 8 1 48,lT 50 49 48,oT 51 (.bin .lss 0 (T 50) (ci 4294967296)) 48,pF 52 48 51,mv 53 52,fT 54 9 1 53,lT 55 54 53,oT 56 (.call (.func 47) [(T 55)]) 53,pF 57 53 56,mv 2 57] .ret))⟩
def fi11:Fi0 11 ir11:=by delta Fi0;kernel_rfl
def ir12:FI:=⟨31,[.tmp 2],(qR [o1 1 (.box 30 (T 0)),o1 2 (.mov kF)] (qR [fA 3 0 1,lG 4 2 3,c1 5 48 4,mv 6 5,fT 7 2 1 6,lT 8 7 6,oT 9 (.len false (T 8)) 6,oT 10 (.bin .leq 0 (T 9) (ci 64)) 6,pF 11 6 10,mv 12 11,fT 13 3 1 12,lT 14 13 12,fT 15 4 1 12,lT 16 15 12,fT 17 8 1 12,lT 18 17 12,oT 19 (.call (.func 49) [(T 14),(T 16),(T 18)]) 12,pF 20 12 19,mv 21 20,fT 22 5 1 21,oT 23 (.ld (some 3) (T 22)) 21,oT 24 (.call (.func 50) [(T 23)]) 21,pF 25 21 24,mv 26 25,fT 27 9 1 26,lT 28 27 26,oT 29 (.call (.func 51) [(T 28)]) 26,pF 30 26 29,mv 2 30] .ret))⟩
def fi12:Fi0 12 ir12:=by delta Fi0;kernel_rfl
def ir13:FI:=⟨4,[.tmp 2],(qR [mI 2 0] (qR [mv 3 0,mv 2 3] .ret))⟩
def fi13:Fi0 13 ir13:=by delta Fi0;kernel_rfl
def ir15:DI:=⟨102,[.cell 2 30,.cell 3 33],[(.reg [o1 2 (.new 30 [zs,ze,zs,zi,zi,zi,zi,zs,zi,zs]),o1 3 (.new 33 [zi])])],8,62,[(T 2),(T 3)],(qR [mv 9 0,c1 10 63 9,o1 11 (.bld [(.pointer none)] (.fields [(0,1)]) [(0,(T 10))]),o1 4 (.new 85 [(.pointer none)]),sT 1 4 11] (qR [fA 12 0 4,lD 13 12,o1 14 (.call (.func 65) [(T 13),(ci 2)]),ex 15 0 14,ex 16 1 14,c2 17 64 15 16,o1 18 (.bld [(.pointer none)] (.fields [(0,1)]) [(0,(T 17))]),o1 5 (.new 85 [(.pointer none)]),sT 1 5 18] (qR [fA 19 0 5,lD 20 19,c1 21 66 20,ex 22 0 21,ex 23 1 21,c2 24 64 22 23,o1 25 (.bld [(.pointer none)] (.fields [(0,1)]) [(0,(T 24))]),o1 6 (.new 85 [(.pointer none)]),sT 1 6 25] (qR [lG 26 1 5,c1 27 67 26] (qR [lG 28 1 4,c1 29 67 28] (.seq (.drw [tt (lG 30 1 6),tt (lG 31 1 6),ft (o1 32 (.call (.func 69) [(T 31),(ci 0),(.func 70)])),tt (bC 33 .eql 32 5),ft (c2 34 68 30 33)]) (qR [lG 35 1 6,o1 36 (.call (.func 71) [(T 35),(ci 1),(.func 72)]),fA 37 0 2,sT 2 37 36] (qR [o1 7 (.mov kF)] (qR [lG 39 1 6,o1 40 (.call (.func 73) [(T 39),(ci 2),(.func 74)]),mv 38 40,ex 41 0 38,ex 42 1 38,fA 43 2 2,sT 1 43 41,mv 7 42] (qR [lG 44 1 6,mv 45 7,nT 46 45,mv 47 46,fF 48 2 2 47,lF 49 48 47,oF 50 (.len false (T 49)) 47,oF 51 (.bin .gtr 0 (T 50) (ci 0)) 47,pT 52 47 51,c2 53 68 44 52] (qR [lG 54 1 6,o1 55 (.call (.func 69) [(T 54),(ci 3),(.func 70)]),fA 56 4 2,sT 1 56 55] (qR [lG 57 1 6,o1 58 (.call (.func 69) [(T 57),(ci 4),(.func 75)]),fA 59 3 2,sT 1 59 58] (qR [lG 61 1 6,o1 62 (.call (.func 76) [(T 61),(ci 5),(.func 77)]),mv 60 62,ex 63 0 60,ex 64 1 60,fA 65 5 2,sT 3 65 63,mv 7 64] (qR [lG 66 1 6,mv 67 7,nT 68 67,mv 69 68,fF 70 5 2 69,fF 71 0 70 69,lF 72 71 69,oF 73 (.bin .neq 0 (T 72) (ci 0)) 69,pT 74 69 73,c2 75 68 66 74] (qR [lG 76 1 6,o1 77 (.call (.func 69) [(T 76),(ci 6),(.func 70)]),fA 78 8 2,sT 1 78 77] (qR [lG 80 1 6,o1 81 (.call (.func 78) [(T 80),(ci 7),(.func 79)]),mv 79 81,ex 82 0 79,ex 83 1 79,fA 84 9 2,sT 1 84 82,mv 7 83] (qR [lG 85 1 6,mv 86 7,nT 87 86,mv 88 87,fF 89 9 2 88,lF 90 89 88,oF 91 (.len false (T 90)) 88,oF 92 (.bin .gtr 0 (T 91) (ci 0)) 88,pT 93 88 92,c2 94 68 85 93] (qR [lG 95 1 6,c1 96 67 95] (.seq (.drw [tt (lG 97 1 6),tt (lG 98 10 2),ft (c1 99 11 98),ft (c2 100 68 97 99)]) (qR [lG 101 10 2,sT 10 2 101,o0 (.st 1 (T 3) (ci 0))] .ret))))))))))))))))))))⟩
def fi15:dinfo Tryz.prog 15=some ir15:=by kernel_rfl
def ir17:FI:=⟨54,[.tmp 4],(qR [o1 2 (.box 30 (T 0)),o1 3 (.box 30 (T 1)),o1 4 (.mov kF)] (qR [fA 5 0 2,lG 6 2 5,fA 7 0 3,lG 8 2 7,c2 9 87 6 8,mv 10 9,fT 11 2 2 10,lT 12 11 10,oT 13 (.toStr true (T 12)) 10,fT 14 2 3 10,lT 15 14 10,oT 16 (.toStr true (T 15)) 10,oT 17 (.bin .eql 0 (T 13) (T 16)) 10,pF 18 10 17,mv 19 18,fT 20 3 2 19,lT 21 20 19,fT 22 3 3 19,lT 23 22 19,oT 24 (.bin .eql 0 (T 21) (T 23)) 19,pF 25 19 24,mv 26 25,fT 27 4 2 26,lT 28 27 26,fT 29 4 3 26,lT 30 29 26,oT 31 (.bin .eql 0 (T 28) (T 30)) 26,pF 32 26 31,mv 33 32,fT 34 5 2 33,oT 35 (.ld (some 3) (T 34)) 33,fT 36 5 3 33,oT 37 (.ld (some 3) (T 36)) 33,oT 38 (.call (.func 88) [(T 35),(T 37)]) 33,pF 39 33 38,mv 40 39,fT 41 8 2 40,lT 42 41 40,fT 43 8 3 40,lT 44 43 40,oT 45 (.bin .eql 0 (T 42) (T 44)) 40,pF 46 40 45,mv 47 46,fT 48 9 2 47,lT 49 48 47,fT 50 9 3 47,lT 51 50 47,oT 52 (.call (.func 89) [(T 49),(T 51)]) 47,pF 53 47 52,mv 4 53] .ret))⟩
def fi17:Fi0 17 ir17:=by delta Fi0;kernel_rfl
def ir22:FI:=⟨28,[.tmp 2],(qR [o1 1 (.box 24 (T 0)),o1 2 (.mov kF)] (.seq (qR [mI 3 0] (.blk 0 (.loop (.seq (qR [mv 4 3,fA 5 0 1,lD 6 5,lN 7 false 6,bN 8 .lss 0 4 7] (cE 8 0)) (.seq (.blk 1 (qR [fA 11 0 1,lD 12 11,mv 13 3,iA 14 1 12 13,lD 15 14,lN 16 true 15,bC 17 .gtr 16 40] (.cond (T 17) (qR [o1 2 (.mov kF)] .ret) .skip))) (.reg [mv 9 3,aI 10 9,mv 3 10])))))) (qR [fA 18 0 1,lD 19 18,lN 20 false 19,bC 21 .leq 20 6,mv 22 21,fT 23 1 1 22,lT 24 23 22,oT 25 (.len true (T 24)) 22,oT 26 (.bin .leq 0 (T 25) (ci 40)) 22,pF 27 22 26,mv 2 27] .ret)))⟩
def fi22:Fi0 22 ir22:=by delta Fi0;kernel_rfl
def ir23:FI:=⟨44,[.tmp 8],(qR [o1 4 (.box 30 (T 0)),o1 5 (.box 24 (T 1)),mI 8 0] (.seq (.blk 0 (qR [lG 10 10 4,c1 11 11 10,nT 12 11,mv 13 12,oF 14 (.ld (some 2) (T 5)) 13,oF 15 (.call (.func 43) [(T 14)]) 13,oF 16 (.un .not (T 15)) 13,pT 17 13 16,mv 18 17,vF 19 2 18,oF 20 (.call (.func 44) [(T 19)]) 18,oF 21 (.un .not (T 20)) 18,pT 22 18 21,mv 23 22,vF 24 3 23,oF 25 (.bin .lss 0 (T 24) (ci 0)) 23,pT 26 23 25,mv 27 26,vF 28 3 27,oF 29 (.bin .gtr 0 (T 28) (ci 86400)) 27,pT 30 27 29,mv 9 30] (.cond (T 9) (qR [mI 8 2] .ret) (qR [fA 32 0 4,lG 33 2 32,lG 34 2 5,c2 35 94 33 34,nT 36 35,mv 31 36] (.cond (T 31) (qR [mI 8 180] .ret) (qR [fA 38 3 4,lD 39 38,mv 40 2,mv 41 3,c3 42 95 39 40 41,nT 43 42,mv 37 43] (.cond (T 37) (qR [mI 8 181] .ret) .skip))))))) (qR [mI 8 0] .ret)))⟩
def fi23:Fi0 23 ir23:=by delta Fi0;kernel_rfl
def ir24:FI:=⟨46,[.tmp 8],(qR [o1 4 (.box 30 (T 0)),o1 5 (.box 24 (T 1)),mI 8 0] (.seq (qR [lG 9 10 4,c1 10 12 9,nT 11 10,mv 12 11,oF 13 (.ld (some 2) (T 5)) 12,oF 14 (.call (.func 48) [(T 13)]) 12,oF 15 (.un .not (T 14)) 12,pT 16 12 15,mv 17 16,vF 18 2 17,oF 19 (.call (.func 96) [(T 18),(ci 0),(ci 1099511627776)]) 17,oF 20 (.un .not (T 19)) 17,pT 21 17 20,mv 22 21,vF 23 3 22,oF 24 (.call (.func 96) [(T 23),(ci 0),(ci 86400)]) 22,oF 25 (.un .not (T 24)) 22,pT 26 22 25] (.cond (T 26) (qR [mI 8 2] .ret) .skip)) (.seq (qR [fA 27 0 4,lG 28 2 27,lG 29 2 5,c2 30 87 28 29,nT 31 30] (.cond (T 31) (qR [mI 8 180] .ret) .skip)) (.seq (qR [mv 32 2,fA 33 3 4,lD 34 33,bN 35 .sub 0 32 34,mv 36 3,bN 37 .gtr 0 35 36,mv 38 37,fF 39 3 4 38,lF 40 39 38,vF 41 2 38,oF 42 (.bin .sub 0 (T 40) (T 41)) 38,vF 43 3 38,oF 44 (.bin .gtr 0 (T 42) (T 43)) 38,pT 45 38 44] (.cond (T 45) (qR [mI 8 181] .ret) .skip)) (qR [mI 8 0] .ret)))))⟩
def fi24:Fi0 24 ir24:=by delta Fi0;kernel_rfl
def ir25:FI:=⟨9,[.tmp 4],(qR [o1 2 (.box 30 (T 0)),o1 3 (.box 30 (T 1)),mI 4 0] (qR [lG 5 10 2,lG 6 10 3,o1 7 (.bsf 122 2 [.nilFunc,.nilFunc] [(0,(.func 98)),(1,(.func 99))]),c3 8 97 5 6 7,mv 4 8] .ret))⟩
def fi25:Fi0 25 ir25:=by delta Fi0;kernel_rfl
def ir26:FI:=⟨36,[.tmp 4],(qR [o1 2 (.box 30 (T 0)),o1 3 (.box 30 (T 1)),mI 4 0] (.seq (qR [fA 5 3 2,lD 6 5,fA 7 3 3,lD 8 7,bN 9 .lss 0 6 8,mv 10 9,fF 11 3 2 10,lF 12 11 10,fF 13 3 3 10,lF 14 13 10,oF 15 (.bin .eql 0 (T 12) (T 14)) 10,vF 16 15 10,fT 17 4 2 16,lT 18 17 16,fT 19 4 3 16,lT 20 19 16,oT 21 (.bin .lss 0 (T 18) (T 20)) 16,oF 22 (.pick (T 16) (T 21) kF) 10,pT 23 10 22] (.cond (T 23) (qR [o1 4 (.mov (.const (.int .i64 (-1))))] .ret) .skip)) (.seq (qR [fA 24 3 2,lD 25 24,fA 26 3 3,lD 27 26,bN 28 .eql 0 25 27,mv 29 28,fT 30 4 2 29,lT 31 30 29,fT 32 4 3 29,lT 33 32 29,oT 34 (.bin .eql 0 (T 31) (T 33)) 29,pF 35 29 34] (.cond (T 35) (qR [mI 4 0] .ret) .skip)) (qR [mI 4 1] .ret))))⟩
def fi26:Fi0 26 ir26:=by delta Fi0;kernel_rfl
def ir29:FI:=⟨6,[.cell 2 24],(qR [o1 2 (.new 24 [zs,ze])] (qR [mv 3 0,o1 4 (.bsl .str 1 1 [ze] [(0,(T 3))]),o1 5 (.bld [zs,ze] (.fields [(0,1),(1,1)]) [(0,(T 4)),(1,(.const (.string ⟨#[82]⟩)))]),sT 2 2 5] .ret))⟩
def fi29:Fi0 29 ir29:=by delta Fi0;kernel_rfl
def ir30:FI:=⟨17,[.tmp 4],(qR [o1 4 (.mov kS)] (qR [o1 5 (.mov kS)] (.seq (qR [mI 6 0] (.blk 0 (.loop (.seq (qR [mv 7 6,mv 8 1,bN 9 .lss 0 7 8] (cE 9 0)) (.seq (.blk 1 (.reg [mv 12 5,mv 13 0,o1 14 (.bsl .u8 1 1 [(.int .u8 0)] [(0,(T 13))]),o1 15 (.app .u8 1 (T 12) (T 14)),mv 5 15])) (.reg [mv 10 6,aI 11 10,mv 6 11])))))) (qR [mv 16 5,mv 4 16] .ret))))⟩
def fi30:Fi0 30 ir30:=by delta Fi0;kernel_rfl
def ir31:FI:=⟨32,[.tmp 2,.tmp 3],(qR [o1 1 (.box 24 (T 0)),o1 2 (.mov kS),mI 3 0] (.seq (qR [lG 7 2 1,c1 8 43 7,nT 9 8] (.cond (T 9) (qR [o1 2 (.mov kS),mI 3 2] .ret) .skip)) (qR [o1 4 (.mov kS)] (.seq (qR [fA 10 0 1,lD 11 10,lN 12 false 11,mI 13 0] (.blk 0 (.loop (qR [bN 14 .lss 0 13 12] (.seq (cE 14 0) (.seq (.blk 1 (qR [iA 15 1 11 13,lD 16 15,mv 6 16] (.reg [mv 17 4,mv 18 6,c1 19 108 18,o1 20 (.bsl (.slice .u8) 1 1 [zs] [(0,(T 19))]),o1 21 (.app (.slice .u8) 24 (T 17) (T 20)),mv 4 21]))) (.reg [aI 22 13,mv 13 22]))))))) (.seq (.drw [tt (mv 23 4),tt (fA 26 1 1),tt (lD 27 26),ft (c1 24 42 23),ft (o1 25 (.call (.func 33) [(ci 0),(T 24)])),ft (c1 28 108 27),ft (o1 29 (.call (.func 33) [(ci 1),(T 28)])),ft (o1 30 (.bsl (.slice .u8) 2 1 [zs,zs] [(0,(T 25)),(1,(T 29))])),ft (c1 31 42 30),tt (mv 2 31),tt (mI 3 0)]) .ret)))))⟩
def fi31:Fi0 31 ir31:=by delta Fi0;kernel_rfl
def ir32:FI:=⟨16,[.tmp 3],(qR [o1 3 (.mov kS)] (.seq (qR [fA 4 2 1,lD 5 4,lN 6 false 5,bC 7 .eql 6 0] (.cond (T 7) (qR [mv 8 0,mv 3 8] .ret) .skip)) (qR [mv 9 0,fA 10 2 1,lD 11 10,c1 12 34 11,o1 13 (.call (.func 33) [(ci 2),(T 12)]),o1 14 (.bsl (.slice .u8) 1 1 [zs] [(0,(T 13))]),o1 15 (.app (.slice .u8) 24 (T 9) (T 14)),mv 3 15] .ret)))⟩
def fi32:Fi0 32 ir32:=by delta Fi0;kernel_rfl
def ir33:FI:=⟨8,[.tmp 4],(qR [o1 4 (.mov kS)] (qR [mv 5 0,mv 6 1,o1 7 (.call (.func 109) [(ci 160),(T 5),(T 6)]),mv 4 7] .ret))⟩
def fi33:Fi0 33 ir33:=by delta Fi0;kernel_rfl
def ir34:FI:=⟨6,[.tmp 2],(qR [o1 2 (.mov kS)] (qR [mv 3 0,o1 4 (.bsl (.slice .u8) 1 1 [zs] [(0,(T 3))]),o1 5 (.call (.func 110) [(.const (.int .u8 4)),(T 4)]),mv 2 5] .ret))⟩
def fi34:Fi0 34 ir34:=by delta Fi0;kernel_rfl
def ir35:FI:=⟨16,[.tmp 3],(qR [o1 3 (.mov kS)] (.seq (qR [fA 4 5 1,fA 5 0 4,lD 6 5,bC 7 .eql 6 0] (.cond (T 7) (qR [mv 8 0,mv 3 8] .ret) .skip)) (qR [mv 9 0,fA 10 5 1,lG 11 3 10,c1 12 36 11,o1 13 (.call (.func 33) [(ci 5),(T 12)]),o1 14 (.bsl (.slice .u8) 1 1 [zs] [(0,(T 13))]),o1 15 (.app (.slice .u8) 24 (T 9) (T 14)),mv 3 15] .ret)))⟩
def fi35:Fi0 35 ir35:=by delta Fi0;kernel_rfl
def ir36:FI:=⟨10,[.tmp 2],(qR [o1 1 (.box 27 (T 0)),o1 2 (.mov kS)] (qR [fA 3 0 1,lD 4 3,fA 5 1 1,lD 6 5,fA 7 2 1,lD 8 7,c3 9 111 4 6 8,mv 2 9] .ret))⟩
def fi36:Fi0 36 ir36:=by delta Fi0;kernel_rfl
def ir37:FI:=⟨16,[.tmp 3],(qR [o1 3 (.mov kS)] (.seq (qR [fA 4 9 1,lD 5 4,lN 6 false 5,bC 7 .eql 6 0] (.cond (T 7) (qR [mv 8 0,mv 3 8] .ret) .skip)) (qR [mv 9 0,fA 10 9 1,lD 11 10,c1 12 38 11,o1 13 (.call (.func 33) [(ci 7),(T 12)]),o1 14 (.bsl (.slice .u8) 1 1 [zs] [(0,(T 13))]),o1 15 (.app (.slice .u8) 24 (T 9) (T 14)),mv 3 15] .ret)))⟩
def fi37:Fi0 37 ir37:=by delta Fi0;kernel_rfl
def ir38:FI:=⟨29,[.tmp 2],(qR [o1 2 (.mov kS)] (.seq (qR [mv 6 0,lN 7 false 6,bC 8 .gtr 7 16] (.cond (T 8) (qR [o1 2 (.mov kS)] .ret) .skip)) (qR [o1 3 (.mov kS)] (.seq (qR [mv 9 0,lN 10 false 9,mI 11 0] (.blk 0 (.loop (qR [bN 12 .lss 0 11 10] (.seq (cE 12 0) (.seq (.blk 1 (qR [iA 13 2 9 11,lG 14 2 13,o1 5 (.new 61 [zi,zs]),sT 2 5 14] (.drw [tt (mv 15 3),tt (fA 16 0 5),tt (lD 17 16),tt (fA 19 1 5),tt (lD 20 19),ft (c1 18 39 17),ft (c1 21 34 20),ft (o1 22 (.bsl (.slice .u8) 2 1 [zs,zs] [(0,(T 18)),(1,(T 21))])),ft (c1 23 112 22),ft (o1 24 (.bsl (.slice .u8) 1 1 [zs] [(0,(T 23))])),ft (o1 25 (.app (.slice .u8) 24 (T 15) (T 24))),tt (mv 3 25)]))) (.reg [aI 26 11,mv 11 26]))))))) (qR [mv 27 3,c1 28 113 27,mv 2 28] .ret)))))⟩
def fi38:Fi0 38 ir38:=by delta Fi0;kernel_rfl
def ir39:FI:=⟨27,[.tmp 2],(qR [o1 2 (.mov kS)] (.seq (qR [mv 5 0,o1 6 (.bin .lss 0 (T 5) (.const (.int .i64 (-4611686018427387904)))),mv 7 6,vF 8 0 7,oF 9 (.bin .gtr 0 (T 8) (ci 4611686018427387904)) 7,pT 10 7 9] (.cond (T 10) (qR [o1 2 (.mov kS)] .ret) .skip)) (qR [mI 3 1] (.seq (qR [mv 11 0,mv 4 11] (.blk 0 (.loop (.seq (qR [mv 12 4,o1 13 (.bin .lss 0 (T 12) (.const (.int .i64 (-128)))),mv 14 13,vF 15 4 14,oF 16 (.bin .gtr 0 (T 15) (ci 127)) 14,pT 17 14 16] (cE 17 0)) (.seq (.blk 1 (.reg [mv 20 3,aI 21 20,mv 3 21])) (.reg [mv 18 4,o1 19 (.bin .shr 0 (T 18) (.const (.int .u64 8))),mv 4 19])))))) (qR [mv 22 0,mv 23 3,c2 24 114 22 23,o1 25 (.bsl (.slice .u8) 1 1 [zs] [(0,(T 24))]),o1 26 (.call (.func 110) [(.const (.int .u8 2)),(T 25)]),mv 2 26] .ret)))))⟩
def fi39:Fi0 39 ir39:=by delta Fi0;kernel_rfl
def ir40:FI:=⟨13,[.tmp 2],(qR [o1 2 (.mov kS)] (.seq (qR [mv 3 0,bC 4 .lss 3 0,mv 5 4,vF 6 0 5,oF 7 (.bin .gtr 0 (T 6) (ci 1099511627776)) 5,pT 8 5 7] (.cond (T 8) (qR [o1 2 (.mov kS)] .ret) .skip)) (qR [mv 9 0,o1 10 (.call (.func 114) [(T 9),(ci 6)]),o1 11 (.bsl (.slice .u8) 1 1 [zs] [(0,(T 10))]),o1 12 (.call (.func 110) [(.const (.int .u8 24)),(T 11)]),mv 2 12] .ret)))⟩
def fi40:Fi0 40 ir40:=by delta Fi0;kernel_rfl
def ir41:FI:=⟨8,[.tmp 4],(qR [o1 4 (.mov kS)] (qR [mv 5 0,mv 6 1,o1 7 (.call (.func 109) [(ci 96),(T 5),(T 6)]),mv 4 7] .ret))⟩
def fi41:Fi0 41 ir41:=by delta Fi0;kernel_rfl
def ir42:FI:=⟨5,[.tmp 2],(qR [o1 2 (.mov kS)] (qR [mv 3 0,o1 4 (.call (.func 110) [(.const (.int .u8 48)),(T 3)]),mv 2 4] .ret))⟩
def fi42:Fi0 42 ir42:=by delta Fi0;kernel_rfl
def ir43:FI:=⟨30,[.tmp 2],(qR [o1 1 (.box 24 (T 0)),o1 2 (.mov kF)] (.seq (.seq (.drw [tt (fA 5 0 1),tt (lD 6 5),tt (lN 7 false 6),tt (bC 8 .geq 7 1),tt (fA 9 0 1),tt (lD 10 9),tt (lN 11 false 10),tt (bC 12 .leq 11 4),tt (fA 13 1 1),tt (lD 14 13),ft (c1 15 116 14),ft (o1 16 (.bsl .bool 3 1 [(.bool false),(.bool false),(.bool false)] [(0,(T 8)),(1,(T 12)),(2,(T 15))])),ft (c1 17 115 16),tt (nT 18 17)]) (.cond (T 18) (qR [o1 2 (.mov kF)] .ret) .skip)) (.seq (qR [fA 19 0 1,lD 20 19,lN 21 false 20,mI 22 0] (.blk 0 (.loop (qR [bN 23 .lss 0 22 21] (.seq (cE 23 0) (.seq (.blk 1 (qR [iA 24 1 20 22,lD 25 24,mv 4 25] (qR [mv 26 4,c1 27 117 26,nT 28 27] (.cond (T 28) (qR [o1 2 (.mov kF)] .ret) .skip)))) (.reg [aI 29 22,mv 22 29]))))))) (qR [o1 2 (.mov kT)] .ret))))⟩
def fi43:Fi0 43 ir43:=by delta Fi0;kernel_rfl
def ir44:FI:=⟨9,[.tmp 2],(qR [o1 2 (.mov kF)] (qR [mv 3 0,bC 4 .geq 3 0,mv 5 4,vT 6 0 5,oT 7 (.bin .leq 0 (T 6) (ci 1099511627776)) 5,pF 8 5 7,mv 2 8] .ret))⟩
def fi44:Fi0 44 ir44:=by delta Fi0;kernel_rfl
def ir45:FI:=⟨6,[.tmp 2],(qR [o1 1 (.box 27 (T 0)),o1 2 (.mov kF)] (qR [lG 3 3 1,o1 4 (.bld [zi,zi,zs] (.fields [(0,1),(1,1),(2,1)]) []),c2 5 102 3 4,mv 2 5] .ret))⟩
def fi45:Fi0 45 ir45:=by delta Fi0;kernel_rfl
def ir46:FI:=⟨11,[.tmp 2],(qR [o1 1 (.box 27 (T 0)),o1 2 (.mov kF)] (qR [lG 6 3 1,c1 7 118 6,mv 5 7,ex 8 0 5,ex 9 1 5,o1 3 (.new 141 [ze,zi,zi,zi,zi,.nilFunc,.nilFunc,.nilFunc]),sT 8 3 8,mv 4 9] (qR [mv 10 4,mv 2 10] .ret)))⟩
def fi46:Fi0 46 ir46:=by delta Fi0;kernel_rfl
def ir47:FI:=⟨29,[.tmp 2],(qR [o1 2 (.mov kF)] (.seq (qR [mv 5 0,lN 6 false 5,mI 7 0] (.blk 0 (.loop (qR [bN 8 .lss 0 7 6] (.seq (cE 8 0) (.seq (.blk 1 (qR [iA 9 2 5 7,lG 10 2 9,o1 4 (.new 61 [zi,zs]),sT 2 4 10] (qR [fA 11 0 4,lD 12 11,bC 13 .lss 12 0,mv 14 13,fF 15 0 4 14,lF 16 15 14,oF 17 (.bin .gtr 0 (T 16) (ci 2147483647)) 14,pT 18 14 17,mv 19 18,fF 20 1 4 19,lF 21 20 19,oF 22 (.len false (T 21)) 19,oF 23 (.bin .gtr 0 (T 22) (ci 4096)) 19,pT 24 19 23] (.cond (T 24) (qR [o1 2 (.mov kF)] .ret) .skip)))) (.reg [aI 25 7,mv 7 25]))))))) (qR [mv 26 0,lN 27 false 26,bC 28 .leq 27 16,mv 2 28] .ret)))⟩
def fi47:Fi0 47 ir47:=by delta Fi0;kernel_rfl
def ir48:FI:=⟨51,[.tmp 2],(qR [o1 1 (.box 24 (T 0)),o1 2 (.mov kF)] (.seq (qR [mI 3 0] (.blk 0 (.loop (.seq (qR [mv 4 3,fA 5 0 1,lD 6 5,lN 7 false 6,bN 8 .lss 0 4 7] (cE 8 0)) (.seq (.blk 1 (qR [fA 11 0 1,lD 12 11,mv 13 3,iA 14 1 12 13,lD 15 14,lN 16 true 15,bC 17 .lss 16 1,mv 18 17,fF 19 0 1 18,lF 20 19 18,vF 21 3 18,oF 22 (.ia 1 (T 20) (T 21)) 18,lF 23 22 18,oF 24 (.len true (T 23)) 18,oF 25 (.bin .gtr 0 (T 24) (ci 32)) 18,pT 26 18 25,mv 27 26,fF 28 0 1 27,lF 29 28 27,vF 30 3 27,oF 31 (.ia 1 (T 29) (T 30)) 27,lF 32 31 27,oF 33 (.call (.func 119) [(T 32)]) 27,oF 34 (.un .not (T 33)) 27,pT 35 27 34] (.cond (T 35) (qR [o1 2 (.mov kF)] .ret) .skip))) (.reg [mv 9 3,aI 10 9,mv 3 10])))))) (qR [fA 36 0 1,lD 37 36,lN 38 false 37,bC 39 .geq 38 1,mv 40 39,fT 41 0 1 40,lT 42 41 40,oT 43 (.len false (T 42)) 40,oT 44 (.bin .leq 0 (T 43) (ci 4)) 40,pF 45 40 44,mv 46 45,fT 47 1 1 46,lT 48 47 46,oT 49 (.call (.func 120) [(T 48)]) 46,pF 50 46 49,mv 2 50] .ret)))⟩
def fi48:Fi0 48 ir48:=by delta Fi0;kernel_rfl
def ir49:FI:=⟨17,[.tmp 6],(qR [o1 6 (.mov kF)] (qR [mv 7 0,o1 8 (.call (.func 96) [(T 7),(ci 0),(ci 1099511627776)]),mv 9 8,vT 10 1 9,oT 11 (.call (.func 96) [(T 10),(ci 0),(ci 999999)]) 9,pF 12 9 11,mv 13 12,vT 14 2 13,oT 15 (.call (.func 96) [(T 14),(ci 0),(ci 4294967295)]) 13,pF 16 13 15,mv 6 16] .ret))⟩
def fi49:Fi0 49 ir49:=by delta Fi0;kernel_rfl
def ir50:FI:=⟨21,[.tmp 2],(qR [o1 1 (.box 27 (T 0)),o1 2 (.mov kF)] (qR [fA 3 0 1,lD 4 3,bC 5 .eql 4 0,mv 6 5,fT 7 1 1 6,lT 8 7 6,oT 9 (.bin .eql 0 (T 8) (ci 0)) 6,pF 10 6 9,mv 11 10,fT 12 2 1 11,lT 13 12 11,oT 14 (.len false (T 13)) 11,oT 15 (.bin .eql 0 (T 14) (ci 0)) 11,pF 16 11 15,mv 17 16,oF 18 (.ld (some 3) (T 1)) 17,oF 19 (.call (.func 121) [(T 18)]) 17,pT 20 17 19,mv 2 20] .ret))⟩
def fi50:Fi0 50 ir50:=by delta Fi0;kernel_rfl
def ir51:FI:=⟨29,[.tmp 2],(qR [o1 2 (.mov kF)] (.seq (qR [mI 3 0] (.blk 0 (.loop (.seq (qR [mv 4 3,mv 5 0,lN 6 false 5,bN 7 .lss 0 4 6] (cE 7 0)) (.seq (.blk 1 (qR [mv 10 0,mv 11 3,iA 12 2 10 11,fA 13 0 12,lD 14 13,o1 15 (.call (.func 96) [(T 14),(ci 0),(ci 2147483647)]),nT 16 15,mv 17 16,vF 18 0 17,vF 19 3 17,oF 20 (.ia 2 (T 18) (T 19)) 17,fF 21 1 20 17,lF 22 21 17,oF 23 (.len false (T 22)) 17,oF 24 (.bin .gtr 0 (T 23) (ci 4096)) 17,pT 25 17 24] (.cond (T 25) (qR [o1 2 (.mov kF)] .ret) .skip))) (.reg [mv 8 3,aI 9 8,mv 3 9])))))) (qR [mv 26 0,lN 27 false 26,bC 28 .leq 27 16,mv 2 28] .ret)))⟩
def fi51:Fi0 51 ir51:=by delta Fi0;kernel_rfl
def ir62:RI:=⟨11,5,[o1 6 (.ta 33 zi (T 5)),mv 4 6,ex 7 0 4,ex 8 1 4,mv 2 7,mv 3 8],(qR [mv 9 3] (.cond (T 9) (.reg [o1 10 (.bld [zs,ze,zs,zi,zi,zi,zi,zs,zi,zs] (.fields [(0,2),(2,1),(3,1),(4,1),(5,3),(8,1),(9,1)]) []),sT 10 0 10,o0 (.st 1 (T 1) (ci 6))]) .skip))⟩
def fi62:rinfo Tryz.prog 62=some ir62:=by kernel_rfl
def ir63:FI:=⟨6,[.tmp 2],(qR [o1 2 (.mov (.const (.pointer none)))] (qR [mv 3 0,c1 4 105 3,c1 5 125 4,mv 2 5] .ret))⟩
def fi63:Fi0 63 ir63:=by delta Fi0;kernel_rfl
def ir64:FI:=⟨10,[.tmp 4],(qR [o1 4 (.mov (.const (.pointer none)))] (.seq (qR [mv 5 1,bC 6 .neq 5 0] (.cond (T 6) (.reg [mv 7 1,o1 8 (.mki 33 (T 7)),o0 (.pan (T 8))]) .skip)) (qR [mv 9 0,mv 4 9] .ret)))⟩
def fi64:Fi0 64 ir64:=by delta Fi0;kernel_rfl
attribute [go_sem] ir5 ir8 ir9 ir10 ir11 ir12 ir13 ir15 ir17 ir22 ir23 ir24 ir25 ir26 ir29 ir30 ir31 ir32 ir33 ir34 ir35 ir36 ir37 ir38 ir39 ir40 ir41 ir42 ir43 ir44 ir45 ir46 ir47 ir48 ir49 ir50 ir51 ir62 ir63 ir64
end Go.Proofs.YthbcodbcndiapaaGreatDoor