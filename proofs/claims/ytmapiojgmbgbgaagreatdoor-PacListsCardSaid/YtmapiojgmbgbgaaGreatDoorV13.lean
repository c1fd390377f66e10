/- A part of the proof: a symbolic executor over abstract values, and its soundness. -/
import Derived.Test.YtmapiojgmbgbgaaGreatDoorV12
import Derived.RecoverIn
set_option linter.all false
namespace Go.Sx
open Go
variable [Ghost] {P:Program} {AQ:Ex→List SV→List SObj→Prop} {k0:Nat} {k:List IT} {t:List SV} {H:List SObj}

mutual
def SV.sealB(n:Nat)(H:List SObj):SV→Option (SV×Prop)
 |.any=>some (.any,True)
 |.raw v=>some (.raw v,True)
 |.isl t xs=>some (.isl t xs,True)
 |.fsl t xs=>some (.isl t xs,True)
 |.iptr t x k=>some (.iptr t x k,True)
 |.dat t x=>some (.dat t x,True)
 |.imap kk ks vs=>some (.imap kk ks vs,True)
 |.ptr h off=>if h<n then some (.ptr h off,True) else none
 |.rptr h t i k=>if h<n then some (.rptr h t i k,True) else none
 |.csl h t k i m=>if h<n then some (.csl h t k i m,True) else none
 |.bld h t m=>if h<n then some (.bld h t m,True) else match H[h]? with
  |some (.row t' xs)=>if t=t' then some (.isl t' (xs.take m),m≤xs.length∧xs.length≤1125899906842624) else none
  |_=>none
 |.osl h t off m=>if h<n then some (.osl h t off m,True) else match H[h]? with
  |some (.row t' xs)=>if t=t' then some (.isl t' ((xs.drop off).take m),off+m≤xs.length∧xs.length≤1125899906842624) else none
  |_=>none
 |.mp h=>if h<n then some (.mp h,True) else match H[h]? with
  |some (.map kk ks vs)=>(unrawL vs).map fun us=>(.imap kk ks us,True)
  |_=>none
 |.agg l=>match SV.sealBL n H l with
  |some (l',p)=>some (.agg l',p)
  |none=>none
 |.tup l=>match SV.sealBL n H l with
  |some (l',p)=>some (.tup l',p)
  |none=>none
 |.iface T x=>match SV.sealB n H x with
  |some (x',p)=>some (.iface T x',p)
  |none=>none
 |.fn f a b=>match SV.sealBL n H a,SV.sealBL n H b with
  |some (a',p),some (b',q)=>some (.fn f a' b',p∧q)
  |_,_=>none
def SV.sealBL(n:Nat)(H:List SObj):List SV→Option (List SV×Prop)
 | []=>some ([],True)
 |s :: l=>match SV.sealB n H s,SV.sealBL n H l with
  |some (s',p),some (l',q)=>some (s' :: l',p∧q)
  |_,_=>none
end

def OwnGe(C:Cx)(H:List SObj)(n:Nat)(b:Nat):Prop:=∃h o,n≤h∧H[h]?=some o∧o.live=true∧C.ρ h=some b
def Cx.shutB(C:Cx)(H:List SObj)(n:Nat):Cx:={C with n:=n,I:=fun b=>C.I b∨OwnGe C H n b}
theorem q1F(C:Cx)(H:List SObj)(n:Nat):Keeps C.I (C.shutB H n).I C.w (C.shutB H n).w:=fun _ hb=>⟨.inl hb,rfl⟩
theorem q7P{C:Cx}{H:List SObj}{n hd:Nat}{o:SObj}(hn:n≤hd)(hH:H[hd]?=some o)(hl:o.live=true):Keeps (C.frz hd).I (C.shutB H n).I (C.frz hd).w (C.shutB H n).w:=
 fun _ hb=>⟨hb.elim .inl (fun e=>.inr ⟨hd,o,hn,hH,hl,e⟩),rfl⟩
mutual
theorem q4X{C:Cx}{H:List SObj}{n:Nat}(hw:Wd C H):∀ {s s':SV} {p:Prop} {v:Value},s.sealB n H=some (s',p)→p→s.den C v→s'.den (C.shutB H n) v
 |.any,_,_,_,h,_,_=>by simp [SV.sealB] at h;rw [←h.1,SV.den];trivial
 |.raw _,_,_,_,h,_,d=>by simp [SV.sealB] at h;rw [←h.1];rw [SV.den] at d⊢;exact d
 |.isl _ _,_,_,_,h,_,d=>by simp [SV.sealB] at h;rw [←h.1];exact q0D (q1F C H n) rfl d
 |.fsl _ _,_,_,_,h,_,d=>by simp [SV.sealB] at h;rw [←h.1];rw [SV.den] at d;exact q0D (q1F C H n) rfl (by rw [SV.den];exact d.1)
 |.dat ..,_,_,_,h,_,d=>by simp [SV.sealB] at h;rw [←h.1];exact q0D (q1F C H n) rfl d
 |.iptr ..,_,_,_,h,_,d=>by simp [SV.sealB] at h;rw [←h.1];exact q0D (q1F C H n) rfl d
 |.imap ..,_,_,_,h,_,d=>by simp [SV.sealB] at h;rw [←h.1];exact q0D (q1F C H n) rfl d
 |.ptr hd off,_,_,_,h,_,d=>by
  simp only [SV.sealB] at h;split at h
  · cases h;rw [SV.den] at d⊢;exact ⟨by assumption,d.2⟩
  cases h
 |.rptr ..,_,_,_,h,_,d=>by
  simp only [SV.sealB] at h;split at h
  · cases h;rw [SV.den] at d⊢;exact ⟨by assumption,d.2⟩
  cases h
 |.csl ..,_,_,_,h,_,d=>by
  simp only [SV.sealB] at h;split at h
  · cases h;rw [SV.den] at d⊢;exact ⟨by assumption,d.2⟩
  cases h
 |.bld hd t m,s',p,v,h,hp,d=>by
  simp only [SV.sealB] at h;split at h
  · cases h;rw [SV.den] at d⊢;exact ⟨by assumption,d.2⟩
  rename_i hge;split at h
  · rename_i t' xs hH;split at h
    · rename_i e;subst e;cases h;have h1:=q3E hw hH hp.2 (s:=.bld hd t m) (by rw [SV.frzOb,if_pos ⟨rfl,rfl⟩];exact hp.1) d
      rw [SV.frz,if_pos ⟨rfl,rfl⟩] at h1;exact q0D (q7P (AG.1 hge) hH rfl) rfl h1
    cases h
  cases h
 |.osl hd t off m,s',p,v,h,hp,d=>by
  simp only [SV.sealB] at h;split at h
  · cases h;rw [SV.den] at d⊢;exact ⟨by assumption,d.2⟩
  rename_i hge;split at h
  · rename_i t' xs hH;split at h
    · rename_i e;subst e;cases h;have h1:=q3E hw hH hp.2 (s:=.osl hd t off m) (by rw [SV.frzOb,if_pos ⟨rfl,rfl⟩];exact hp.1) d
      rw [SV.frz,if_pos ⟨rfl,rfl⟩] at h1;exact q0D (q7P (AG.1 hge) hH rfl) rfl h1
    cases h
  cases h
 |.mp hd,s',p,v,h,hp,d=>by
  simp only [SV.sealB] at h;split at h
  · cases h;rw [SV.den] at d⊢;exact ⟨by assumption,d.2⟩
  rename_i hge;split at h
  · rename_i kk ks vs hH;obtain ⟨us,hu,h⟩:=Ap.1 h;cases h;obtain rfl:=q4D hu;simp only [SV.den] at d⊢;obtain ⟨_,b,hb,rfl⟩:=d;obtain ⟨b',us',hb',hm,hl⟩:=hw.obj hd _ hH;rw [q1t hl] at hm;rw [hb] at hb';cases hb';exact ⟨b,rfl,.inr ⟨hd,_,AG.1 hge,hH,rfl,hb⟩,hm⟩
  cases h
 |.agg l,s',p,v,h,hp,d=>by
  unfold SV.sealB at h;split at h
  · cases h;rw [SV.den] at d⊢;obtain ⟨vs,hv,hl⟩:=d;exact ⟨vs,hv,q2s hw (by assumption) hp hl⟩
  cases h
 |.tup l,s',p,v,h,hp,d=>by
  unfold SV.sealB at h;split at h
  · cases h;rw [SV.den] at d⊢;obtain ⟨vs,hv,hl⟩:=d;exact ⟨vs,hv,q2s hw (by assumption) hp hl⟩
  cases h
 |.iface T x,s',p,v,h,hp,d=>by
  unfold SV.sealB at h;split at h
  · cases h;rw [SV.den] at d⊢;obtain ⟨u,hv,hl⟩:=d;exact ⟨u,hv,q4X hw (by assumption) hp hl⟩
  cases h
 |.fn f a b,s',p,v,h,hp,d=>by
  unfold SV.sealB at h;split at h
  · cases h;rw [SV.den] at d⊢;obtain ⟨v1,v2,hv,h1,h2⟩:=d;exact ⟨v1,v2,hv,q2s hw (by assumption) hp.1 h1,q2s hw (by assumption) hp.2 h2⟩
  cases h
theorem q2s{C:Cx}{H:List SObj}{n:Nat}(hw:Wd C H):∀ {l l':List SV} {p:Prop} {vs:List Value},SV.sealBL n H l=some (l',p)→p→SV.denL C l vs→SV.denL (C.shutB H n) l' vs
 | [],_,_,_,h,_,d=>by simp [SV.sealBL] at h;rw [h.1];rw [q0p] at d⊢;exact d
 |s :: l,l',p,vs,h,hp,d=>by
  unfold SV.sealBL at h;split at h
  · cases h;obtain ⟨v,us,rfl,h1,h2⟩:=q0c.1 d;exact q0c.2 ⟨v,us,rfl,q4X hw (by assumption) hp.1 h1,q2s hw (by assumption) hp.2 h2⟩
  cases h
end

/- A value that says less: nil and the empty slice are one, .any says nothing. -/
mutual
def SV.leA:SV→SV→Prop
 |_,.any=>True
 |s,.isl t xs=>s= .isl t xs∨(s= .raw (.slice none 0 0)∧xs= [])
 |s,.agg l=>match s with
  |.agg l'=>SV.leAL l' l
  |_=>False
 |s,.tup l=>match s with
  |.tup l'=>SV.leAL l' l
  |_=>False
 |s,s'=>s=s'
def SV.leAL:List SV→List SV→Prop
 | [],l=>l= []
 |s :: l,r=>match r with
  | []=>False
  |s' :: l'=>SV.leA s s'∧SV.leAL l l'
end
theorem z6G{s:SV}:SV.leA s .any=True:=by cases s<;>simp [SV.leA]
theorem q8Q{v u:Value}:SV.leA (.raw v) (.raw u)=(v=u):=by simp [SV.leA]
theorem z3r{t:Ty}{x y:t.den}{k j:Nat}:SV.leA (.iptr t x k) (.iptr t y j)=(x=y∧k=j):=by simp [SV.leA]
theorem q8C{t:Ty}{xs ys:List t.den}:SV.leA (.isl t xs) (.isl t ys)=(xs=ys):=by simp [SV.leA]
theorem z1R{t:Ty}{ys:List t.den}:SV.leA (.raw (.slice none 0 0)) (.isl t ys)=(ys= []):=by simp [SV.leA]
theorem z7D{l l':List SV}:SV.leA (.agg l) (.agg l')=SV.leAL l l':=by rw [SV.leA]
theorem z6T{l l':List SV}:SV.leA (.tup l) (.tup l')=SV.leAL l l':=by rw [SV.leA]
theorem j1U{h o h' o':Nat}:SV.leA (.ptr h o) (.ptr h' o')=(h=h'∧o=o'):=by simp [SV.leA]
theorem z5A{T T':TypeId}{x x':SV}:SV.leA (.iface T x) (.iface T' x')=(T=T'∧x=x'):=by simp [SV.leA]
theorem z5x{f f':Nat}{a a' b b':List SV}:SV.leA (.fn f a b) (.fn f' a' b')=(f=f'∧a=a'∧b=b'):=by simp [SV.leA]
theorem j2F{h h' n n':Nat}{t t':Ty}:SV.leA (.bld h t n) (.bld h' t' n')=(h=h'∧t=t'∧n=n'):=by simp [SV.leA]
theorem q1z{s s':SV}{l l':List SV}:SV.leAL (s :: l) (s' :: l')=(SV.leA s s'∧SV.leAL l l'):=by rw [SV.leAL]
theorem q6u:SV.leAL [] []=True:=by simp [SV.leAL]
mutual
theorem z1z{C:Cx}:∀ {s s':SV} {v:Value},SV.leA s s'→s.den C v→s'.den C v
 |s,.any,v,_,_=>by rw [SV.den];trivial
 |s,.isl t xs,v,h,d=>by
  rw [SV.leA] at h;rcases h with rfl| ⟨rfl,rfl⟩
  · exact d
  rw [SV.den] at d;subst d;rw [SV.den];exact ⟨_,_,_,rfl,rfl,Ae _,by simp,.inl rfl⟩
 |.agg l',.agg l,v,h,d=>by
  rw [z7D] at h;rw [SV.den] at d⊢;obtain ⟨vs,hv,hl⟩:=d;exact ⟨vs,hv,q6s h hl⟩
 |.tup l',.tup l,v,h,d=>by
  rw [z6T] at h;rw [SV.den] at d⊢;obtain ⟨vs,hv,hl⟩:=d;exact ⟨vs,hv,q6s h hl⟩
 |.any,.agg _,_,h,_=>by simp [SV.leA] at h
 |.raw _,.agg _,_,h,_=>by simp [SV.leA] at h
 |.isl _ _,.agg _,_,h,_=>by simp [SV.leA] at h
 |.fsl _ _,.agg _,_,h,_=>by simp [SV.leA] at h
 |.iptr ..,.agg _,_,h,_=>by simp [SV.leA] at h
 |.ptr ..,.agg _,_,h,_=>by simp [SV.leA] at h
 |.rptr ..,.agg _,_,h,_=>by simp [SV.leA] at h
 |.bld ..,.agg _,_,h,_=>by simp [SV.leA] at h
 |.osl ..,.agg _,_,h,_=>by simp [SV.leA] at h
 |.csl ..,.agg _,_,h,_=>by simp [SV.leA] at h
 |.dat ..,.agg _,_,h,_=>by simp [SV.leA] at h
 |.mp _,.agg _,_,h,_=>by simp [SV.leA] at h
 |.imap ..,.agg _,_,h,_=>by simp [SV.leA] at h
 |.fn ..,.agg _,_,h,_=>by simp [SV.leA] at h
 |.iface ..,.agg _,_,h,_=>by simp [SV.leA] at h
 |.tup _,.agg _,_,h,_=>by simp [SV.leA] at h
 |.any,.tup _,_,h,_=>by simp [SV.leA] at h
 |.raw _,.tup _,_,h,_=>by simp [SV.leA] at h
 |.isl _ _,.tup _,_,h,_=>by simp [SV.leA] at h
 |.fsl _ _,.tup _,_,h,_=>by simp [SV.leA] at h
 |.iptr ..,.tup _,_,h,_=>by simp [SV.leA] at h
 |.ptr ..,.tup _,_,h,_=>by simp [SV.leA] at h
 |.rptr ..,.tup _,_,h,_=>by simp [SV.leA] at h
 |.bld ..,.tup _,_,h,_=>by simp [SV.leA] at h
 |.osl ..,.tup _,_,h,_=>by simp [SV.leA] at h
 |.csl ..,.tup _,_,h,_=>by simp [SV.leA] at h
 |.dat ..,.tup _,_,h,_=>by simp [SV.leA] at h
 |.mp _,.tup _,_,h,_=>by simp [SV.leA] at h
 |.imap ..,.tup _,_,h,_=>by simp [SV.leA] at h
 |.fn ..,.tup _,_,h,_=>by simp [SV.leA] at h
 |.iface ..,.tup _,_,h,_=>by simp [SV.leA] at h
 |.agg _,.tup _,_,h,_=>by simp [SV.leA] at h
 |s,.raw _,v,h,d=>by simp [SV.leA] at h;subst h;exact d
 |s,.fsl _ _,v,h,d=>by simp [SV.leA] at h;subst h;exact d
 |s,.iptr ..,v,h,d=>by simp [SV.leA] at h;subst h;exact d
 |s,.ptr ..,v,h,d=>by simp [SV.leA] at h;subst h;exact d
 |s,.rptr ..,v,h,d=>by simp [SV.leA] at h;subst h;exact d
 |s,.bld ..,v,h,d=>by simp [SV.leA] at h;subst h;exact d
 |s,.osl ..,v,h,d=>by simp [SV.leA] at h;subst h;exact d
 |s,.csl ..,v,h,d=>by simp [SV.leA] at h;subst h;exact d
 |s,.dat ..,v,h,d=>by simp [SV.leA] at h;subst h;exact d
 |s,.mp _,v,h,d=>by simp [SV.leA] at h;subst h;exact d
 |s,.imap ..,v,h,d=>by simp [SV.leA] at h;subst h;exact d
 |s,.fn ..,v,h,d=>by simp [SV.leA] at h;subst h;exact d
 |s,.iface ..,v,h,d=>by simp [SV.leA] at h;subst h;exact d
theorem q6s{C:Cx}:∀ {l l':List SV} {vs:List Value},SV.leAL l l'→SV.denL C l vs→SV.denL C l' vs
 | [],l',vs,h,d=>by simp only [SV.leAL] at h;subst h;exact d
 |s :: l,[],vs,h,d=>by simp [SV.leAL] at h
 |s :: l,s' :: l',vs,h,d=>by
  rw [q1z] at h;obtain ⟨v,us,rfl,h1,h2⟩:=q0c.1 d;exact q0c.2 ⟨v,us,rfl,z1z h.1 h1,q6s h.2 h2⟩
end

def SObj.unmarked:SObj→Prop
 |.mark _=>False
 |.dead=>True
 |.cells _ _=>True
 |.row _ _=>True
 |.map _ _ _=>True
def sealHL(n:Nat)(H:List SObj):List SObj→List SObj→Prop
 |_,[]=>True
 |o :: l,.dead :: l'=>o.unmarked∧sealHL n H l l'
 |.cells T cs :: l,.cells T' cs' :: l'=>(match SV.sealBL n H cs with
  |some (cs1,p)=>p∧T=T'∧SV.leAL cs1 cs'
  |none=>False)∧sealHL n H l l'
 |.row t xs :: l,.row t' xs' :: l'=>SObj.row t xs=SObj.row t' xs'∧sealHL n H l l'
 |.map a b c :: l,.map a' b' c' :: l'=>(a=a'∧b=b'∧c=c'∧(unrawL c).isSome=true)∧sealHL n H l l'
 |.mark a :: l,.mark a' :: l'=>a=a'∧sealHL n H l l'
 |_,_=>False
theorem q1l{n:Nat}{H:List SObj}:∀ {L L':List SObj} {h:Nat} {o':SObj},sealHL n H L L'→L'[h]?=some o'→o'.live=true→
 ∃o,L[h]?=some o∧o.live=true∧((∃T cs cs' cs1 p,o= .cells T cs∧o'= .cells T cs'∧SV.sealBL n H cs=some (cs1,p)∧p∧SV.leAL cs1 cs')∨(o=o'∧(∀T cs,o≠ .cells T cs)∧∀kk ks vs,o= .map kk ks vs→(unrawL vs).isSome=true))
 |L,[],h,o',_,hi,_=>by simp at hi
 | [],.dead :: l',_,_,hl,_,_=>by simp [sealHL] at hl
 | [],.cells _ _ :: l',_,_,hl,_,_=>by simp [sealHL] at hl
 | [],.row _ _ :: l',_,_,hl,_,_=>by simp [sealHL] at hl
 | [],.map _ _ _ :: l',_,_,hl,_,_=>by simp [sealHL] at hl
 | [],.mark _ :: l',_,_,hl,_,_=>by simp [sealHL] at hl
 |o :: l,.dead :: l',0,o',hl,hi,hv=>by simp at hi;subst hi;simp [SObj.live] at hv
 |o :: l,.dead :: l',h+1,o',hl,hi,hv=>by
  simp only [sealHL] at hl;simpa using q1l hl.2 (by simpa using hi) hv
 |.cells T cs :: l,.cells T' cs' :: l',0,o',hl,hi,hv=>by
  simp at hi;subst hi;simp only [sealHL] at hl;obtain ⟨h1,_⟩:=hl;split at h1
  · rename_i cs1 p he;obtain ⟨hp,rfl,hle⟩:=h1;exact ⟨_,rfl,rfl,.inl ⟨T,cs,cs',cs1,p,rfl,rfl,he,hp,hle⟩⟩
  exact h1.elim
 |.cells T cs :: l,.cells T' cs' :: l',h+1,o',hl,hi,hv=>by
  simp only [sealHL] at hl;simpa using q1l hl.2 (by simpa using hi) hv
 |.row t xs :: l,.row t' xs' :: l',0,o',hl,hi,hv=>by
  simp at hi;subst hi;simp only [sealHL] at hl;exact ⟨_,rfl,rfl,.inr ⟨hl.1,(fun _ _ h=>by cases h),fun _ _ _ h=>by cases h⟩⟩
 |.row t xs :: l,.row t' xs' :: l',h+1,o',hl,hi,hv=>by
  simp only [sealHL] at hl;simpa using q1l hl.2 (by simpa using hi) hv
 |.map a b c :: l,.map a' b' c' :: l',0,o',hl,hi,hv=>by
  simp at hi;subst hi;simp only [sealHL] at hl;obtain ⟨⟨rfl,rfl,rfl,hr⟩,_⟩:=hl;exact ⟨_,rfl,rfl,.inr ⟨rfl,(fun _ _ h=>by cases h),fun _ _ _ h=>by cases h;exact hr⟩⟩
 |.map a b c :: l,.map a' b' c' :: l',h+1,o',hl,hi,hv=>by
  simp only [sealHL] at hl;simpa using q1l hl.2 (by simpa using hi) hv
 |.dead :: l,.cells _ _ :: l',_,_,hl,_,_=>by simp [sealHL] at hl
 |.dead :: l,.row _ _ :: l',_,_,hl,_,_=>by simp [sealHL] at hl
 |.dead :: l,.map _ _ _ :: l',_,_,hl,_,_=>by simp [sealHL] at hl
 |.cells _ _ :: l,.row _ _ :: l',_,_,hl,_,_=>by simp [sealHL] at hl
 |.cells _ _ :: l,.map _ _ _ :: l',_,_,hl,_,_=>by simp [sealHL] at hl
 |.row _ _ :: l,.cells _ _ :: l',_,_,hl,_,_=>by simp [sealHL] at hl
 |.row _ _ :: l,.map _ _ _ :: l',_,_,hl,_,_=>by simp [sealHL] at hl
 |.map _ _ _ :: l,.cells _ _ :: l',_,_,hl,_,_=>by simp [sealHL] at hl
 |.map _ _ _ :: l,.row _ _ :: l',_,_,hl,_,_=>by simp [sealHL] at hl
 |.mark a :: l,.mark a' :: l',0,o',hl,hi,hv=>by simp at hi;subst hi;simp [SObj.live] at hv
 |.mark a :: l,.mark a' :: l',h+1,o',hl,hi,hv=>by
  simp only [sealHL] at hl;simpa using q1l hl.2 (by simpa using hi) hv
 |.dead :: l,.mark _ :: l',_,_,hl,_,_=>by simp [sealHL] at hl
 |.cells _ _ :: l,.mark _ :: l',_,_,hl,_,_=>by simp [sealHL] at hl
 |.mark _ :: l,.cells _ _ :: l',_,_,hl,_,_=>by simp [sealHL] at hl
 |.row _ _ :: l,.mark _ :: l',_,_,hl,_,_=>by simp [sealHL] at hl
 |.mark _ :: l,.row _ _ :: l',_,_,hl,_,_=>by simp [sealHL] at hl
 |.map _ _ _ :: l,.mark _ :: l',_,_,hl,_,_=>by simp [sealHL] at hl
 |.mark _ :: l,.map _ _ _ :: l',_,_,hl,_,_=>by simp [sealHL] at hl

theorem z1L{n:Nat}{H L L':List SObj}{m:Nat}(hl:sealHL n H L L')(hn:0<L'.length)(h:L[0]?=some (.mark m)):L'[0]?=some (.mark m):=by
 cases L with
 |nil=>simp at h
 |cons a L=>
  simp at h;subst h;cases L' with
  |nil=>simp at hn
  |cons a' L'=>cases a'<;>simp [sealHL,SObj.unmarked] at hl⊢;exact hl.1.symm

theorem z8A{C:Cx}{H' H1:List SObj}(hw:Wd C H')(hlen:H1.length≤H'.length)(hl:sealHL H1.length H' H' H1):Wd (C.shutB H' H1.length) H1:=by
 have hown:∀b,OwnB (C.shutB H' H1.length) H1 b→OwnB C H' b∧¬OwnGe C H' H1.length b:=by
  rintro b ⟨h,o',ho,hv,hb⟩;obtain ⟨o,h1,h2,_⟩:=q1l hl ho hv;refine ⟨⟨h,o,h1,h2,hb⟩,?_⟩;rintro ⟨h',o2,hge,h3,h4,hb'⟩;have e:=hw.inj h h' o o2 b h1 h3 h2 h4 hb hb';have:=(Aa.1 ho).1;omega
 refine ⟨rfl,fun h o' ho=> ?_,fun b hb=> ?_,fun h h' o o' b ho ho' hv hv' hb hb'=> ?_,?_⟩
 · by_cases hv:o'.live=true
   · obtain ⟨o,h1,_,h3⟩:=q1l hl ho hv;have hd:=hw.obj h o h1;rcases h3 with ⟨T,cs,cs',cs1,p,rfl,rfl,he,hp,hle⟩ | ⟨rfl,hc,hcm⟩
     · obtain ⟨b,vs,g1,g2,g3⟩:=hd;exact ⟨b,vs,g1,g2,q6s hle (q2s hw he hp g3)⟩
     cases o with
     |dead=>trivial
     |cells T cs=>exact absurd rfl (hc T cs)
     |row t xs=>
      rcases hd with hd| ⟨b,arr,T,fz,g1,g2,g3,g4,g5⟩
      · exact .inl hd
      refine .inr ⟨b,arr,T,fz,g1,g2,g3,g4,fun i x hx=> ?_⟩;obtain ⟨us,hu,hc'⟩:=g5 i x hx;exact ⟨us,Ty.rel_keep (q1F C H' _) _ _ _ hu,hc'⟩
     |map kk ks vs=>
      obtain ⟨b,us,g1,g2,g3⟩:=hd;obtain ⟨us',hu⟩:=Ci.1 (hcm _ _ _ rfl);obtain rfl:=q4D hu;obtain rfl:=q1t g3;exact ⟨b,_,g1,g2,q1e _⟩
     |mark n=>trivial
   cases o'<;>first|trivial|simp [SObj.live] at hv
 · obtain ⟨h1,h2⟩:=hown b hb;exact ⟨fun hi=>hi.elim (hw.own b h1).1 h2,(hw.own b h1).2⟩
 · obtain ⟨o1,h1,h2,_⟩:=q1l hl ho hv;obtain ⟨o2,h3,h4,_⟩:=q1l hl ho' hv';exact hw.inj h h' o1 o2 b h1 h3 h2 h4 hb hb'
 rintro b (hb| ⟨h,o,_,h1,h2,h3⟩)
 · exact hw.imm b hb
 exact (hw.own b ⟨h,o,h1,h2,h3⟩).2
theorem z5H{C C':Cx}{H' H1:List SObj}(hw':Wd C' H')(hn:C.n≤H1.length)(hx:Ext ⟨C,H⟩ C' H')(hl:sealHL H1.length H' H' H1):Ext ⟨C,H⟩ (C'.shutB H' H1.length) H1:=by
 refine ⟨⟨hn,fun h hh=>hx.evo.ρ h hh,hx.evo.I.trans (q1F C' H' _),hx.evo.sz⟩,hx.size,hx.os,hx.tape,hx.output,hx.frame,?_,?_,fun m hm h=>z1L hl (Am hm hn) (hx.keep0 m hm h)⟩
 · rintro b (hb| ⟨h,o,_,h1,h2,h3⟩)
   · exact hx.immNew b hb
   exact .inr ⟨hx.ownNew b ⟨h,o,h1,h2,h3⟩,(q4v hw' ⟨h,o,h1,h2,h3⟩:Unf C'.w b)⟩
 rintro b ⟨h,o',ho,hv,hb⟩;obtain ⟨o,h1,h2,_⟩:=q1l hl ho hv;exact hx.ownNew b ⟨h,o,h1,h2,hb⟩

def SealO(o:Out)(H1:List SObj)(o':Out)(H':List SObj):Prop:=
 o'=o.withV o'.val∧H1.length≤H'.length∧(match o'.val.sealB H1.length H' with
  |some (s1,p)=>p∧SV.leA s1 o.val
  |none=>False)∧sealHL H1.length H' H' H1
theorem VCall.sealO{f:FuncId}{args:List SV}{o:Out}{H1:List SObj}(hn:H.length≤H1.length)(h:VCall P f args H (SealO o H1)):VCall P f args H fun o' H'=>o'=o∧H'=H1:=by
 intro C vs hw ht hv;refine (h C vs hw ht hv).mono ?_;rintro e w' ⟨o',H',C',⟨ho,hlen,hs,hl⟩,rfl,hw',hx,hd⟩;split at hs
 · rename_i s1 p he;refine ⟨o,H1,C'.shutB H' H1.length,⟨rfl,rfl⟩,rfl,z8A hw' hlen hl,z5H hw' (by rw [hw.n];exact hn) hx hl,?_⟩
   rw [ho] at hd;cases o with
   |ret s=>obtain ⟨v,rfl,hd⟩:=hd;exact ⟨v,rfl,z1z hs.2 (q4X hw' he hs.1 hd)⟩
   |pan s=>obtain ⟨v,rfl,hd⟩:=hd;exact ⟨v,rfl,z1z hs.2 (q4X hw' he hs.1 hd)⟩
 exact hs.elim
theorem q0b{f:FuncId}{args:List SV}{H0 H1:List SObj}{o:Out}(hn:H0.length≤H1.length)(h:VC P f args H0 (SealO o H1)):PE P f args H0 o H1:=⟨h.1,VCall.sealO hn h.2⟩
theorem PC.pe{f:FuncId}{args:List SV}{s:SV}(h:PC P f args s):PE P f args [] (.ret s) []:=⟨h.1,h.2 _ _ ⟨rfl,rfl⟩⟩
theorem z7J{s s':SV}{H1 H':List SObj}:SealO (.ret s) H1 (.ret s') H'=(H1.length≤H'.length∧(match s'.sealB H1.length H' with
 |some (s1,p)=>p∧SV.leA s1 s
 |none=>False)∧sealHL H1.length H' H' H1):=by simp [SealO,Out.withV,Out.val]
theorem z7v{s s':SV}{H1 H':List SObj}:SealO (.pan s) H1 (.pan s') H'=(H1.length≤H'.length∧(match s'.sealB H1.length H' with
 |some (s1,p)=>p∧SV.leA s1 s
 |none=>False)∧sealHL H1.length H' H' H1):=by simp [SealO,Out.withV,Out.val]
attribute [go_sem] z7J z7v SV.sealB SV.sealBL z6G q8Q z3r q8C z1R z7D z6T j1U z5A z5x j2F q1z q6u sealHL SObj.unmarked
end Go.Sx
namespace Go.Sx
open Go
variable {P:Program} {AQ:Ex→List SV→List SObj→Prop} {k0:Nat} {k:List IT} {t:List SV} {H:List SObj}

def afterD(H:List SObj)(C:Cx)(K:List SObj→Prop)(m:FrameMode):Ending→FrameMode→World→Prop:=
 fun e u w=>e= .returned (.tuple #[])∧u=m∧∃H' C',K H'∧C'.w=w∧Wd C' H'∧Ext ⟨C,H⟩ C' H'
def DCall(P:Program)(g:FuncId)(args:List SV)(pan:Option SV)(H:List SObj)(K:List SObj→Prop):Prop:=
 enters P g=true∧∀ (C:Cx) (vs:List Value),Wd C H→TabT C H→SV.denL C args vs→match pan with
  |none=>CallsDIn Fence.wide 0 P g vs.toArray .returning C.w (afterD H C K .returning)
  |some s=>∀v,s.den C v→CallsDIn Fence.wide 0 P g vs.toArray (.panicking [{v,recovered:=false}]) C.w (afterD H C K (.panicking [{v,recovered:=true}]))

def calmOp:Op→Bool
 |.typeAssert .. |.move _|.assign _|.extract .. |.alloc _|.store .. |.load .. =>true
 |_=>false
theorem z7p{s:Sem Value}{w w':World}{x:Next}(h:(do pure (.value (←s)):Sem Next).run P w= .ok x w'):(∃v,x= .value v)∨x= .skip:=by
 simp only [Sem.run_bind] at h;cases hs:s.run P w with
 |ok v w1=>rw [hs] at h;simp [Result.andThen] at h;exact .inl ⟨v,h.1.symm⟩
 |halt a b=>rw [hs] at h;simp [Result.andThen] at h
theorem z6g{s:Sem Unit}{w w':World}{x:Next}(h:(do s;pure .skip:Sem Next).run P w= .ok x w'):(∃v,x= .value v)∨x= .skip:=by
 simp only [Sem.run_bind] at h;cases hs:s.run P w with
 |ok v w1=>rw [hs] at h;simp [Result.andThen] at h;exact .inr h.1.symm
 |halt a b=>rw [hs] at h;simp [Result.andThen] at h
theorem z9x{ρ:Operand→Value}{o:Oper}{w w':World}{x:Next}(hc:calmOp o.op=true)(h:(execOp ρ o).run P w= .ok x w'):(∃v,x= .value v)∨x= .skip:=by
 unfold execOp at h;generalize o.op=op at*;cases op<;>first| (simp [calmOp] at hc;done) |exact z7p h|exact z6g h| (simp at h;exact .inl ⟨_,h.1.symm⟩)

theorem q7A{all:Array Oper}{Q1:Exit→Act→World→Prop}{Q:Exit→Act→List Frame→World→Prop}{cs:List Frame}{n:Nat}(hq:∀e a w,Q1 e a w→Q e a cs w):
 ∀ (l:List Nat),(∀i∈l,∀o,all[i]?=some o→calmOp o.op=true)→∀ (a:Act) (w:World),wpOpsIn (Fw none) n P all Q1 l a w→wpOpsSIn Fence.wide n P all Q l a cs w
 | [],_,a,w,h=>hq _ _ _ h
 |i :: rest,hc,a,w,h=>by
  have ih:=fun a w=>q7A (n:=n) hq rest (fun j hj=>hc j (AW _ hj)) a w;simp only [wpOpsIn] at h;simp only [wpOpsSIn];cases ho:all[i]? with
  |none=>rw [ho] at h;exact ih _ _ h
  |some o=>
   rw [ho] at h;simp only at h⊢;refine ⟨fun f _=>trivial,?_⟩;by_cases hw:Region.wanted o (yielded all a.tmps)=true
   · rw [if_pos hw] at h⊢;obtain ⟨_,hup⟩:=h;have hup':o.uponIn (Fw none) n P a (wpOpsIn (Fw none) n P all Q1 rest) Q1 ((execOp a.eval o).run P w):=hup;cases hr:(execOp a.eval o).run P w with
     |ok x w'=>
      rw [hr] at hup';rcases z9x (hc i (by simp) o ho) hr with ⟨v,rfl⟩ |rfl
      · exact ih _ _ hup'
      exact ih _ _ hup'
     |halt x w'=>
      rw [hr] at hup';cases x<;>first|exact hq _ _ _ hup'|exact hup'.elim
   rw [if_neg hw] at h⊢;exact ih _ _ h.2

def recS:Option SV→SV
 |none=>.raw .nilIface
 |some s=>s
def AQD(K:List SObj→Prop):Ex→List SV→List SObj→Prop
 |.normal,_,H=>K H
 |.ret,_,H=>K H
 |_,_,_=>False

theorem z8S{g:FuncId}{fn:Func}{id:Nat}{all:Array Oper}{x:Code}{args:List SV}{pan:Option SV}{K:List SObj→Prop}{o0:Oper}{c:Call}{d:Nat}{m:Nat}(hg:enters P g=true)(hf:P.funcs[g]?=some fn)(hb:fn.body=some (.seq (.region id all false) x))
 (hr:fn.results= #[])(hm:all.size=m+1)(h0:all[0]?=some o0)(ho:o0.op= .call c)(hcal:c.callee= .builtin .recover)(hgd:o0.guard=none)(hd0:o0.dst=some d)(hcalm:∀i∈(List.range m).map (1+ ·),∀o,all[i]?=some o→calmOp o.op=true)
 (hs:Sound P (AQD K) ⟨H.length,[.ops all ((List.range m).map (1+ ·)),.code x],(args++List.replicate (fn.ntmps-args.length) SV.any).set d (recS pan),H⟩):DCall P g args pan H K:=by
 refine ⟨hg,?_⟩;intro C vs hw ht hv;have hlen:=q0B hv;have key:∀ (c₀:Frame) (cs:List Frame) (u:FrameMode) (v:Value),(recS pan).den C v→((recoverD (c₀ :: cs)=none∧v= .nilIface∧{c₀ with mode:=u}=c₀)∨recoverD (c₀ :: cs)=some (v,{c₀ with mode:=u} :: cs))→
  (Code.seq (.region id all false) x).wpSIn Fence.wide 0 P (bodyPostS P fn c₀ cs (afterD H C K u)) {tmps:=vs.toArray++Array.replicate (fn.ntmps-vs.toArray.size) undef,defers:=[]} (c₀ :: cs) C.w:=by
  intro c₀ cs u v hdv hrec;apply wpSIn_seq;apply wpSIn_region;have hra:List.range all.size=0 :: (List.range m).map (1+ ·):=by
   rw [hm,BT];congr 1;exact CC fun a _=>by simp [Bm]
  rw [hra];simp only [wpOpsSIn,h0];refine ⟨fun f _=>trivial,?_⟩;have hwant:∀y,Region.wanted o0 y=true:=fun y=>by unfold Region.wanted;rw [hgd]
  rw [if_pos (hwant _)];have hrun:∀ρ:Operand→Value,(execOp ρ o0).run P C.w= .ok .recover C.w:=fun ρ=>by simp [execOp,ho,resolve,hcal,invoke,builtin]
  rw [hrun];simp only;have hden:Den ⟨⟨C,H⟩,[]⟩ C ((args++List.replicate (fn.ntmps-args.length) SV.any).set d (recS pan)) H (({tmps:=vs.toArray++Array.replicate (fn.ntmps-vs.toArray.size) undef,defers:=[]}:Act).put (some d) v):=by
   refine ⟨hw,Ext.refl _ _,⟨rfl,ht.here,trivial⟩,q6m (a:={tmps:=vs.toArray++Array.replicate (fn.ntmps-vs.toArray.size) undef,defers:=[]}) ?_ (some d) hdv⟩;simp only [CB,Cr,AO,hlen];refine q0x.2 ⟨vs,_,rfl,hv,?_⟩;generalize fn.ntmps-args.length=m;induction m with
   |zero=>exact q0p.2 rfl
   |succ m ih=>exact q0c.2 ⟨_,_,Ca,by rw [SV.den];trivial,ih⟩
  have h1:=hs ⟨⟨C,H⟩,[]⟩ none 0 C _ ⟨by rw [hw.n];exact Ae _,trivial⟩ hden
  simp only [wpT] at h1;have fin:∀ (e:Exit) (a:Act) (w:World),conc ⟨⟨C,H⟩,[]⟩ (AQD K) e a w→bodyPostS P fn c₀ cs (afterD H C K u) e a ({c₀ with mode:=u} :: cs) w:=by
   intro e a w hq;have hres:∀w,(results fn a.tmps).run P w= .ok (.tuple #[]) w:=fun w=>by unfold results;rw [hr];simp [Result.andThen]
   cases e with
   |normal=>
    obtain ⟨C',t',H',hk,rfl,hd'⟩:=hq;exact ⟨hd'.defs.1,u,rfl,.tuple #[],hres _,rfl,rfl,H',C',hk,rfl,hd'.wd,hd'.ext⟩
   |ret=>
    obtain ⟨C',t',H',hk,rfl,hd'⟩:=hq;exact ⟨hd'.defs.1,u,rfl,.tuple #[],hres _,rfl,rfl,H',C',hk,rfl,hd'.wd,hd'.ext⟩
   |exit id=>obtain ⟨_,_,_,hk,_⟩:=hq;exact hk.elim
   |panic ch=>obtain ⟨_,_,_,_,_,hk,_⟩:=hq;exact hk.elim
   |goto l=>exact hq.elim
   |outgrown=>exact hq.elim
  have main:wpOpsSIn Fence.wide 0 P all (Exit.thenS (x.wpSIn Fence.wide 0 P (bodyPostS P fn c₀ cs (afterD H C K u))) (bodyPostS P fn c₀ cs (afterD H C K u))) ((List.range m).map (1+ ·)) (({tmps:=vs.toArray++Array.replicate (fn.ntmps-vs.toArray.size) undef,defers:=[]}:Act).put (some d) v) ({c₀ with mode:=u} :: cs) C.w:=by
   refine q7A ?_ _ hcalm _ _ h1;intro e a w hq;cases e with
   |normal=>
    refine wpSIn_of_wpIn rfl (wpIn_mono hq fun e a w hq=> ?_);cases e with
    |normal=>exact fin _ _ _ hq
    |exit id=>exact fin _ _ _ hq
    |ret=>exact fin _ _ _ hq
    |panic ch=>exact fin _ _ _ hq
    |goto l=>exact hq.elim
    |outgrown=>exact hq.elim
   |exit id=>exact fin _ _ _ (by simpa only [exitT] using hq)
   |ret=>exact fin _ _ _ hq
   |panic ch=>exact fin _ _ _ hq
   |goto l=>exact hq.elim
   |outgrown=>exact hq.elim
  rcases hrec with ⟨hrec,rfl,hc⟩ |hrec
  · rw [hrec,hd0];rw [hc] at main;exact main
  rw [hrec,hd0];exact main
 cases pan with
 |none=>
  refine callsDIn_of_wpSIn hf hb trivial fun c₀ cs hu=> ?_;refine key c₀ cs .returning .nilIface (by simp [recS,SV.den]) (.inl ⟨by simp [recoverD,hu],rfl,?_⟩)
  cases c₀;simp at hu;subst hu;rfl
 |some s=>
  intro v hdv;refine callsDIn_of_wpSIn hf hb trivial fun c₀ cs hu=> ?_;exact key c₀ cs _ v hdv (.inr (by simp [recoverD,hu]))

theorem z4i{fn:Func}{tmps:Array Value}{R:Ending→World→Prop}{g:FuncId}{caps:Array Value}{u:FrameMode}{w:World}(hu:u≠ .run)(hg:enters P g=true)
 (h:CallsDIn Fence.wide 0 P g caps u w fun
  |.returned _,u',w'=>LeavesIn Fence.wide 0 P fn tmps R [] (settle u') w'
  |.panicked chain,u',w'=>LeavesIn Fence.wide 0 P fn tmps R [] (raised u' chain) w'
  |.outgrown,_,w'=>R .outgrown w'):
 LeavesInM Fence.wide 0 P fn tmps R [{target:=.fn (.func g) caps,args:= #[]}] u w:=by
 refine ⟨hu,.inr ⟨(fun hd=>by cases hd),.func g,caps,g,caps,rfl,?_,fun _ _=>trivial,?_⟩⟩
 · simp [invoke,q2U hg]
 exact h

structure DI where
 ntmps:Nat
 results:List ResultVar
 pre:List IC
 slot:Nat
 g:Nat
 ca:List Operand
 post:IC

def deferAt:Code→Option (Nat×Nat×List Operand)
 |.region _ ops false=>match ops.toList with
  | [o0,o1]=>match o0.op,o0.dst,o0.guard,o1.op,o1.dst,o1.guard with
   |.makeFunc (.func g) fi ca,some d,none,.defer c,none,none=>match c.callee with
    |.value (.tmp d')=>if d=d'∧c.args.size=0∧fi.size=0 then some (d,g,ca.toList) else none
    |_=>none
   |_,_,_,_,_,_=>none
  |_=>none
 |_=>none
def dsplit(P:Program):Code→Option (List IC×(Nat×Nat×List Operand)×IC)
 |.seq x y=>match deferAt x with
  |some q=>match comp P y with
   |some iy=>some ([],q,iy)
   |none=>none
  |none=>match comp P x,dsplit P y with
   |some ix,some (l,q,iy)=>some (ix :: l,q,iy)
   |_,_=>none
 |_=>none
def dinfo(P:Program)(f:FuncId):Option DI:=
 match P.funcs[f]? with
 |some fn=>match fn.body with
  |some c=>match dsplit P c with
   |some (l,(d,g,ca),iy)=>if fn.name== "runtime.NumGoroutine" then none else some ⟨fn.ntmps,fn.results.toList,l,d,g,ca,iy⟩
   |none=>none
  |none=>none
 |none=>none

def AQ2(P:Program)(rs:List ResultVar)(g:FuncId)(caps:List SV)(K:Out→List SObj→Prop):Ex→List SV→List SObj→Prop
 |.normal,t,H=>DCall P g caps none H fun H'=>∃s,resV P t H' rs=some s∧K (.ret s) H'
 |.ret,t,H=>DCall P g caps none H fun H'=>∃s,resV P t H' rs=some s∧K (.ret s) H'
 |.pan s,t,H=>t≠ []∧DCall P g caps (some s) H fun H'=>∃s,resV P t H' rs=some s∧K (.ret s) H'
 |.exit _,_,_=>False
def AQ1(P:Program)(rs:List ResultVar)(K:Out→List SObj→Prop):Ex→List SV→List SObj→Prop
 |.ret,t,H=>∃s,resV P t H rs=some s∧K (.ret s) H
 |.pan s,_,H=>K (.pan s) H
 |_,_,_=>False
def DPost(P:Program)(di:DI)(K:Out→List SObj→Prop):List SV→List SObj→Prop:=
 fun t H=>di.slot<t.length∧SoundI P (AQ2 P di.results di.g (di.ca.map (evT t)) K) ⟨H.length,[.ic di.post],t.set di.slot (.fn di.g [] (di.ca.map (evT t))),H⟩

theorem q8j{F:Fence}{n:Nat}{E:EnD}{Q1 Q:Exit→Act→World→Prop}{Φ:List SV→List SObj→Prop}{k2:List It}(hQ:∀e a w,e≠ .normal→Q1 e a w→Q e a w)(hx:∀id a w,¬Q1 (.exit id) a w)(hΦ:∀a C t H,Φ t H→Den E C t H a→wpT F n P E Q k2 a C.w):
 ∀ (l:List Code) (a:Act) (w:World),wpT F n P E Q1 (l.map .code++ [.stop Φ]) a w→wpT F n P E Q (l.map .code++k2) a w
 | [],a,w,h=>by
  obtain ⟨C,t,H,h1,rfl,h2⟩:=h;exact hΦ a C t H h1 h2
 |c :: l,a,w,h=>by
  simp only [AT,Ay,wpT] at h⊢;refine wpIn_mono h fun e a w hq=> ?_;cases e with
  |normal=>exact q8j hQ hx hΦ l a w hq
  |exit id=>
   exfalso;have:∀ (l:List Code) (a:Act) (w:World),¬exitT F n P E Q1 id (l.map .code++ [.stop Φ]) a w:=by
    intro l;induction l with
    |nil=>intro a w hq;simp only [CE,As,exitT] at hq;exact hx _ _ _ hq
    |cons c l ih=>intro a w hq;simp only [AT,Ay,exitT] at hq;exact ih a w hq
   exact this l a w hq
  |ret=>exact hQ _ _ _ (by simp) hq
  |panic ch=>exact hQ _ _ _ (by simp) hq
  |goto l=>exact hQ _ _ _ (by simp) hq
  |outgrown=>exact hQ _ _ _ (by simp) hq

theorem z0C{x:Code}{d g:Nat}{ca:List Operand}{n:Nat}{Q:Exit→Act→World→Prop}{a:Act}{w:World}(h:deferAt x=some (d,g,ca))
 (hq:Q .normal {tmps:=a.tmps.setIfInBounds d (.func (.func g) #[] (ca.map a.eval).toArray),defers:={target:=.fn (.func g) (ca.map a.eval).toArray,args:= #[]} :: a.defers} w)(hsz:d<a.tmps.size):x.wpIn (Fw none) n P Q a w:=by
 unfold deferAt at h;split at h
 · rename_i id ops;split at h
   · rename_i o0 o1 hops;split at h
     · rename_i g' fi ca' d' c e1 e2 e3 e4 e5 e6;split at h
       · rename_i d'' ec;split at h
         · rename_i hcond;obtain ⟨rfl,hargs,hfi⟩:=hcond;cases h;have hops':ops= #[o0,o1]:=by rw [←hops]
           subst hops';have hfi':fi= #[]:=A3 hfi;have hargs':c.args= #[]:=A3 hargs;apply wpIn_region;have hr:List.range (#[o0,o1]:Array Oper).size= [0,1]:=rfl;rw [hr];have hw0:∀y,Region.wanted o0 y=true:=fun y=>by unfold Region.wanted;rw [e3]
           have hw1:∀y,Region.wanted o1 y=true:=fun y=>by unfold Region.wanted;rw [e6]
           simp only [wpOpsIn,List.getElem?_toArray,Cn,List.getElem?_cons_succ];rw [if_pos (hw0 _)];refine ⟨fun f _=>q4r none f,?_⟩;have r0:(o0.semAt (Fw none).round a.eval).run P w= .ok (.value (.func (.func g) #[] (ca'.map a.eval))) w:=by
            rw [Oper.semAt_eq _ _ _ (by rw [e1];intro c hc;cases hc)]
            simp [execOp,e1,hfi',Instr.makeFunc]
           rw [r0];simp only [Oper.uponIn];rw [if_pos (hw1 _)];refine ⟨fun f _=>q4r none f,?_⟩;have hev:(a.put o0.dst (.func (.func g) #[] (ca'.map a.eval))).eval (.tmp d)= .func (.func g) #[] (ca'.map a.eval):=by
            simp [e2,Act.put,Act.eval,Bs,hsz]
           have r1:(o1.semAt (Fw none).round (a.put o0.dst (.func (.func g) #[] (ca'.map a.eval))).eval).run P w= .ok (.defer {target:=.fn (.func g) (ca'.map a.eval),args:= #[]}) w:=by
            show (o1.semAt none _).run P w=_;rw [Oper.semAt_none];simp [execOp,e4,resolve,ec,hev,hargs',Deferred.ofValue]
           rw [r1];simp only [Oper.uponIn];rw [e2,e5];have hmp:(List.map a.eval ca'.toList).toArray=ca'.map a.eval:=by apply Array.ext';simp
           rw [hmp] at hq;exact hq
         cases h
       cases h
     cases h
   cases h
 cases h

theorem z0d{n:Nat}{E:EnD}{Q:Exit→Act→World→Prop}:∀ {c:Code} {l:List IC} {q:Nat×Nat×List Operand} {iy:IC},dsplit P c=some (l,q,iy)→
 ∃ (cs:List Code) (x y:Code),deferAt x=some q∧comp P y=some iy∧(cs.map (comp P)=l.map some)∧∀a w,wpT (Fw none) n P E Q (cs.map .code++ [.code x,.code y]) a w→c.wpIn (Fw none) n P Q a w
 |.seq x y,l,q,iy,h=>by
  have hex:∀ (k:List It),(∀i∈k,∃c,i= .code c)→∀id a w,exitT (Fw none) n P E Q id k a w→Q (.exit id) a w:=by
   intro k;induction k with
   |nil=>intro _ id a w h;exact h
   |cons i k ih=>
    intro hk id a w h;obtain ⟨c,rfl⟩:=hk i (by simp)
    simp only [exitT] at h;exact ih (fun j hj=>hk j (by simp [hj])) id a w h
  simp only [dsplit] at h;split at h
  · rename_i q' hd;split at h
    · cases h;refine ⟨[],x,y,hd,by assumption,rfl,fun a w hw=> ?_⟩
      simp only [CE,As,wpT] at hw;refine wpIn_seq (wpIn_mono hw fun e a w hq=> ?_);cases e with
      |normal=>
       refine wpIn_mono hq fun e a w hq=> ?_;cases e<;>exact hq
      |exit id=>exact hex [.code y] (by simp) id a w hq
      |_=>exact hq
    cases h
  split at h
  · rename_i ix l' q' iy' h1 h2;cases h;obtain ⟨cs,x',y',g1,g2,g3,g4⟩:=z0d (n:=n) (E:=E) (Q:=Q) h2;refine ⟨x :: cs,x',y',g1,g2,by simp [h1,g3],fun a w hw=> ?_⟩
    simp only [AT,Ay,wpT] at hw;refine wpIn_seq (wpIn_mono hw fun e a w hq=> ?_);cases e with
    |normal=>exact g4 a w hq
    |exit id=>exact hex (cs.map .code++ [.code x',.code y']) (by simp;rintro i (⟨c,_,rfl⟩ |rfl|rfl) <;>exact ⟨_,rfl⟩) id a w hq
    |_=>exact hq
  cases h
 |.skip,_,_,_,h=>by simp [dsplit] at h
 |.region ..,_,_,_,h=>by simp [dsplit] at h
 |.cond ..,_,_,_,h=>by simp [dsplit] at h
 |.block ..,_,_,_,h=>by simp [dsplit] at h
 |.loop _,_,_,_,h=>by simp [dsplit] at h
 |.exit _,_,_,_,h=>by simp [dsplit] at h
 |.ret,_,_,_,h=>by simp [dsplit] at h
 |.rangeFunc ..,_,_,_,h=>by simp [dsplit] at h
 |.scope _,_,_,_,h=>by simp [dsplit] at h
 |.goto _,_,_,_,h=>by simp [dsplit] at h
 |.refuse _,_,_,_,h=>by simp [dsplit] at h
 |.label _,_,_,_,h=>by simp [dsplit] at h
theorem z0a{Φ:List SV→List SObj→Prop}:∀ {cs:List Code} {l:List IC},cs.map (comp P)=l.map some→RelT P (l.map .ic++ [.stop Φ]) (cs.map .code++ [.stop Φ])
 | [],[],_=>⟨[],rfl,rfl⟩
 |c :: cs,ic :: l,h=>by
  simp only [AT,List.cons.injEq] at h;exact ⟨c,_,rfl,h.1,z0a h.2⟩
 | [],_ :: _,h=>by simp at h
 |_ :: _,[],h=>by simp at h

theorem j4x{f:FuncId}{di:DI}{args:List SV}{K:Out→List SObj→Prop}(h:dinfo P f=some di)
 (hs:SoundI P (AQ1 P di.results K) ⟨H.length,di.pre.map .ic++ [.stop (DPost P di K)],args++List.replicate (di.ntmps-args.length) .any,H⟩):VC P f args H K:=by
 unfold dinfo at h;split at h
 · rename_i fn hf;split at h
   · rename_i c hb;split at h
     · rename_i l d g ca iy hd;split at h
       · cases h
       rename_i hn;cases h;refine ⟨by simp [enters,hf,hb];simpa using hn,?_⟩
       intro C vs hw ht hv;refine (callsIn_wide (n:=0)).1 (callsIn_of_wp_marks hf hb trivial ?_ rfl);have hlen:=q0B hv;have hd0:Den ⟨⟨C,H⟩,[]⟩ C (args++List.replicate (fn.ntmps-args.length) .any) H {tmps:=vs.toArray++Array.replicate (fn.ntmps-vs.toArray.size) undef,defers:=[]}:=by
        refine ⟨hw,Ext.refl _ _,⟨rfl,ht.here,trivial⟩,?_⟩;simp only [CB,Cr,AO,hlen];refine q0x.2 ⟨vs,_,rfl,hv,?_⟩;generalize fn.ntmps-args.length=m;induction m with
        |zero=>exact q0p.2 rfl
        |succ m ih=>exact q0c.2 ⟨_,_,Ca,by rw [SV.den];trivial,ih⟩
       obtain ⟨cs,x,y,g1,g2,g3,g4⟩:=z0d (n:=0) (E:=⟨⟨C,H⟩,[]⟩) (Q:=bodyPostM Fence.wide 0 P fn fun e w'=>∃o H' C',K o H'∧C'.w=w'∧Wd C' H'∧Ext ⟨C,H⟩ C' H'∧outDen C' o e) hd;refine g4 _ _ ?_;have h1:=q0e hs (z0a g3) ⟨⟨C,H⟩,[]⟩ none 0 C _ ⟨by rw [hw.n];exact Ae _,trivial⟩ hd0
       refine q8j ?_ ?_ ?_ cs _ _ h1
       · intro e a w hne hq;cases e with
         |normal=>exact absurd rfl hne
         |ret=>
          obtain ⟨C',t',H',⟨s,hs',hk⟩,rfl,hd'⟩:=hq;have e1:a.defers= []:=hd'.defs.1;show LeavesInM _ _ _ _ _ _ _ _ _;rw [e1];obtain ⟨v,q1,q2⟩:=q8Z (P:=P) (fn:=fn) hd'.wd hd'.tmps hs';exact q6a q1 ⟨.ret s,H',C',hk,rfl,hd'.wd,hd'.ext,v,rfl,q2⟩
         |panic ch=>
          obtain ⟨C',t',H',s,v,hk,rfl,hs',rfl,hw',hx',hdf,_⟩:=hq;have e1:a.defers= []:=hdf.1;show LeavesInM _ _ _ _ _ _ _ _ _;rw [e1];exact ⟨.pan s,H',C',hk,rfl,hw',hx',v,rfl,hs'⟩
         |exit id=>obtain ⟨_,_,_,hq,_⟩:=hq;exact hq.elim
         |goto l=>exact hq.elim
         |outgrown=>exact hq.elim
       · rintro id a w ⟨_,_,_,hq,_⟩;exact hq
       intro a C1 t1 H1 hΦ hd1;simp only [wpT];have hsz:d<a.tmps.size:=by
        have:=q0B hd1.tmps;rw [Av] at this;rw [this];exact hΦ.1
       refine z0C g1 ?_ hsz;have e1:a.defers= []:=hd1.defs.1;have hcaps:SV.denL C1 (ca.map (evT t1)) (ca.map a.eval):=q2f _ fun x _=>q2E hd1.tmps x;have hden1:Den ⟨⟨C1,H1⟩,[{target:=.fn (.func g) (ca.map a.eval).toArray,args:= #[]}]⟩ C1 (t1.set d (.fn g [] (ca.map (evT t1)))) H1 {tmps:=a.tmps.setIfInBounds d (.func (.func g) #[] (ca.map a.eval).toArray),defers:={target:=.fn (.func g) (ca.map a.eval).toArray,args:= #[]} :: a.defers}:=by
        refine ⟨hd1.wd,Ext.refl _ _,⟨by rw [e1],hd1.defs.2.1.tab.here,trivial⟩,q6m (a:=a) hd1.tmps (some d) ?_⟩
        rw [SV.den];exact ⟨[],_,rfl,q0p.2 rfl,hcaps⟩
       have h2:=q0e hΦ.2 ⟨y,[],rfl,g2,rfl⟩ _ none 0 C1 _ ⟨by rw [hd1.wd.n];exact Ae _,trivial⟩ hden1
       simp only [wpT] at h2;refine wpIn_mono h2 fun e a2 w2 hq=> ?_;have fin:∀ (C2:Cx) (t2:List SV) (H2:List SObj) (pan:Option SV) (u:FrameMode) (u2:FrameMode),u≠ .run→settle u2= .returning→DCall P g (ca.map (evT t1)) pan H2 (fun H'=>∃s,resV P t2 H' fn.results.toList=some s∧K (.ret s) H')→C2.w=w2→Wd C2 H2→Ext ⟨C1,H1⟩ C2 H2→a2.defers= [{target:=.fn (.func g) (ca.map a.eval).toArray,args:= #[]}]→SV.denL C2 t2 a2.tmps.toList→
        (∀ {R:Ending→FrameMode→World→Prop},(∀e u' w',afterD H2 C2 (fun H'=>∃s,resV P t2 H' fn.results.toList=some s∧K (.ret s) H') u2 e u' w'→R e u' w')→CallsDIn Fence.wide 0 P g (ca.map a.eval).toArray u C2.w R)→
        LeavesInM Fence.wide 0 P fn a2.tmps (fun e w'=>∃o H' C',K o H'∧C'.w=w'∧Wd C' H'∧Ext ⟨C,H⟩ C' H'∧outDen C' o e) a2.defers u w2:=by
        intro C2 t2 H2 pan u u2 hu hset hdc hw2 hwd hx hdef hden hcall;subst hw2;rw [hdef];refine z4i hu hdc.1 (hcall ?_);rintro e u' w' ⟨rfl,rfl,H3,C3,⟨s,hs3,hk⟩,rfl,hw3,hx3⟩;simp only;rw [hset];obtain ⟨v,q1,q2⟩:=q8Z (P:=P) (fn:=fn) (a:=a2) hw3 (q0f hx3.evo hden) hs3;exact ⟨v,q1,.ret s,H3,C3,hk,rfl,hw3,hd1.ext.trans (hx.trans hx3),v,rfl,q2⟩
       cases e with
       |normal=>
        obtain ⟨C2,t2,H2,hdc,hw2,hd2⟩:=hq;exact fin C2 t2 H2 none .returning .returning (by simp) rfl hdc hw2 hd2.wd hd2.ext hd2.defs.1 hd2.tmps fun hR=>(hdc.2 C2 _ hd2.wd (hd1.defs.2.1.tab.next hd2.ext) (q0f hd2.ext.evo hcaps)).mono fun e u' w' h=>hR e u' w' h
       |ret=>
        obtain ⟨C2,t2,H2,hdc,hw2,hd2⟩:=hq;exact fin C2 t2 H2 none .returning .returning (by simp) rfl hdc hw2 hd2.wd hd2.ext hd2.defs.1 hd2.tmps fun hR=>(hdc.2 C2 _ hd2.wd (hd1.defs.2.1.tab.next hd2.ext) (q0f hd2.ext.evo hcaps)).mono fun e u' w' h=>hR e u' w' h
       |panic ch=>
        obtain ⟨C2,t2,H2,s,v,⟨hne,hdc⟩,rfl,hs2,hw2,hwd2,hx2,hdf2,ht2⟩:=hq;have ht2':=ht2.resolve_left hne;exact fin C2 t2 H2 (some s) (.panicking [{v,recovered:=false}]) (.panicking [{v,recovered:=true}]) (by simp) rfl hdc hw2 hwd2 hx2 hdf2.1 ht2' fun hR=>(hdc.2 C2 _ hwd2 (hd1.defs.2.1.tab.next hx2) (q0f hx2.evo hcaps) v hs2).mono fun e u' w' h=>hR e u' w' h
       |exit id=>obtain ⟨_,_,_,hq,_⟩:=hq;exact hq.elim
       |goto l=>exact hq.elim
       |outgrown=>exact hq.elim
     cases h
   cases h
 cases h
structure RI where
 ntmps:Nat
 slot:Nat
 ops:List OpI
 code:IC
def isRec(o:Oper):Bool:=match o.op with
 |.call c=>match c.callee with
  |.builtin .recover=>true
  |_=>false
 |_=>false
def rinfo(P:Program)(g:FuncId):Option RI:=
 match P.funcs[g]? with
 |some fn=>match fn.body with
  |some (.seq (.region _ all false) x)=>match all.toList with
   |o0 :: os=>match o0.dst,o0.guard,compL P all os,comp P x with
    |some d,none,some l,some ix=>if isRec o0=true∧os.all (fun o=>calmOp o.op)=true∧fn.results.size=0∧(fn.name== "runtime.NumGoroutine")=false then some ⟨fn.ntmps,d,l,ix⟩ else none
    |_,_,_,_=>none
   | []=>none
  |_=>none
 |none=>none
theorem j1j{g:FuncId}{ri:RI}{args:List SV}{pan:Option SV}{K:List SObj→Prop}(h:rinfo P g=some ri)
 (hs:SoundI P (AQD K) ⟨H.length,[.ops ri.ops,.ic ri.code],(args++List.replicate (ri.ntmps-args.length) SV.any).set ri.slot (recS pan),H⟩):DCall P g args pan H K:=by
 unfold rinfo at h;split at h
 · rename_i fn hf;split at h
   · rename_i id all x hb;split at h
     · rename_i o0 os hall;split at h
       · rename_i d l ix hd hg hl hx;split at h
         · rename_i hc;cases h;obtain ⟨hc1,hc2,hc3,hc4⟩:=hc;have hen:enters P g=true:=by simp [enters,hf,hb];simpa using hc4
           have hm:all.size=os.length+1:=by rw [←Av,hall];rfl
           have hget:∀j,os[j]?=all[1+j]?:=fun j=>by rw [←Cv,hall,Bm];rfl
           unfold isRec at hc1;split at hc1
           · rename_i c ho;split at hc1
             · rename_i hcal;refine z8S hen hf hb (A3 hc3) hm (o0:=o0) (by rw [←Cv,hall];rfl) ho hcal hg hd (fun i hi o hio=> ?_) (q0e (td':=[It.ops all ((List.range os.length).map (1+ ·)),It.code x]) hs ⟨all,_,_,rfl,q7b 1 hget hl,x,[],rfl,hx,rfl⟩)
               obtain ⟨j,hj,rfl⟩:=BU.1 hi;rw [←hget] at hio;exact Ba.1 hc2 o (BC hio)
             cases hc1
           cases hc1
         cases h
       cases h
     cases h
   cases h
 cases h
attribute [go_sem] AQD AQ1 AQ2 DPost recS List.map_cons List.map_nil
theorem recE{g:FuncId}{ri:RI}{args:List SV}{pan:Option SV}{K:List SObj→Prop}{q:Prop}(hm:P.follows .mixedOrders=true)(hf:rinfo P g=some ri)(h:q)
 (e:run P (AQD K) 600 ⟨H.length,[.ops ri.ops,.ic ri.code],(args++List.replicate (ri.ntmps-args.length) SV.any).set ri.slot (recS pan),H⟩=q:=by (simp (maxSteps:=3000000) only [go_sem,↓zA,↓reduceIte,↓reduceDIte];(try simp only [zB]);rfl)):DCall P g args pan H K:=j1j hf (q0r hm 600 _ (Eq.mpr e h))
theorem defE{f:FuncId}{di:DI}{args:List SV}{K:Out→List SObj→Prop}{q:Prop}(hm:P.follows .mixedOrders=true)(hf:dinfo P f=some di)(h:q)
 (e:run P (AQ1 P di.results K) 600 ⟨H.length,di.pre.map .ic++ [.stop (DPost P di K)],args++List.replicate (di.ntmps-args.length) .any,H⟩=q:=by (simp (maxSteps:=3000000) only [go_sem,↓zA,↓reduceIte,↓reduceDIte];(try simp only [zB]);rfl)):VC P f args H K:=j4x hf (q0r hm 600 _ (Eq.mpr e h))
abbrev zs:Value:=.slice none 0 0
abbrev zi:Value:=.int .i64 0
abbrev ze:Value:=.string ⟨#[]⟩
def kT:Operand:=.const (.bool true)
def kF:Operand:=.const (.bool false)
def kS:Operand:=.const (.slice none 0 0)
def kE:Operand:=.const (.string ⟨#[]⟩)
def fA(d k x:Nat):OpI:=⟨some d,.fa k (.tmp x),none⟩
def lD(d x:Nat):OpI:=⟨some d,.ld none (.tmp x),none⟩
def lG(d n x:Nat):OpI:=⟨some d,.ld (some n) (.tmp x),none⟩
def c0(d f:Nat):OpI:=⟨some d,.call (.func f) [],none⟩
def c1(d f a:Nat):OpI:=⟨some d,.call (.func f) [.tmp a],none⟩
def c2(d f a b:Nat):OpI:=⟨some d,.call (.func f) [.tmp a,.tmp b],none⟩
def c3(d f a b c:Nat):OpI:=⟨some d,.call (.func f) [.tmp a,.tmp b,.tmp c],none⟩
def bN(d:Nat)(o:BinOp)(k x y:Nat):OpI:=⟨some d,.bin o k (.tmp x) (.tmp y),none⟩
def nT(d x:Nat):OpI:=⟨some d,.un .not (.tmp x),none⟩
def lN(d:Nat)(b:Bool)(x:Nat):OpI:=⟨some d,.len b (.tmp x),none⟩
def iA(d s x y:Nat):OpI:=⟨some d,.ia s (.tmp x) (.tmp y),none⟩
def sT(n x y:Nat):OpI:=⟨none,.st n (.tmp x) (.tmp y),none⟩
def tS(d x:Nat):OpI:=⟨some d,.toStr true (.tmp x),none⟩
def mI(d:Nat)(n:Int):OpI:=⟨some d,.mov (.const (.int .i64 n)),none⟩
def aI(d x:Nat):OpI:=⟨some d,.bin .add 0 (.tmp x) (.const (.int .i64 1)),none⟩
def qR(l:List OpI)(b:IC):IC:=.seq (.reg l) b
def cE(x k:Nat):IC:=.cond (.tmp x) .skip (.exit k)
def pT(d x y:Nat):OpI:=⟨some d,.pick (.tmp x) (.const (.bool true)) (.tmp y),none⟩
def pF(d x y:Nat):OpI:=⟨some d,.pick (.tmp x) (.tmp y) (.const (.bool false)),none⟩
def z17:List Value:=[zs,ze,zs,.int .u32 0,zi,zs,ze,zi,zi,zi,zi,zi,zi,zi,zs,zs,zs]
def z5:List Value:=[zi,zs,ze,zi,zi]
def fF(d k x g:Nat):OpI:=⟨some d,.fa k (.tmp x),some (g,false)⟩
def fT(d k x g:Nat):OpI:=⟨some d,.fa k (.tmp x),some (g,true)⟩
def lF(d x g:Nat):OpI:=⟨some d,.ld none (.tmp x),some (g,false)⟩
def lT(d x g:Nat):OpI:=⟨some d,.ld none (.tmp x),some (g,true)⟩
def vF(d x g:Nat):OpI:=⟨some d,.mov (.tmp x),some (g,false)⟩
def vT(d x g:Nat):OpI:=⟨some d,.mov (.tmp x),some (g,true)⟩
def bC(d:Nat)(o:BinOp)(x:Nat)(n:Int):OpI:=⟨some d,.bin o 0 (.tmp x) (ci n),none⟩
def nL(d x:Nat):OpI:=⟨some d,.nil (.tmp x),none⟩
def T(n:Nat):Operand:=.tmp n
def tt(o:OpI):Bool×OpI:=(true,o)
def ft(o:OpI):Bool×OpI:=(false,o)
attribute [go_sem] fF fT lF lT vF vT bC nL T tt ft qR zs zi ze kT kF kS kE fA lD lG c0 c1 c2 c3 bN nT lN iA sT tS mI aI cE pT pF z17 z5
end Go.Sx
