/- A part of the proof: a symbolic executor over abstract values, and its soundness. -/
import Derived.Test.YtmapiojgmbgbgaaGreatDoorV11
set_option linter.all false
namespace Go.Sx
open Go
mutual
def SV.sealed(H:List SObj):SV→Option (SV×Prop)
 |.any=>some (.any,True)
 |.raw v=>some (.raw v,True)
 |.isl t xs=>some (.isl t xs,True)
 |.fsl t xs=>some (.isl t xs,True)
 |.iptr t x k=>some (.iptr t x k,True)
 |.dat t x=>some (.dat t x,True)
 |.imap kk ks vs=>some (.imap kk ks vs,True)
 |.bld h t n=>match H[h]? with
  |some (.row t' xs)=>if t=t' then some (.isl t' (xs.take n),n≤xs.length∧xs.length≤1125899906842624) else none
  |_=>none
 |.osl h t off n=>match H[h]? with
  |some (.row t' xs)=>if t=t' then some (.isl t' ((xs.drop off).take n),off+n≤xs.length∧xs.length≤1125899906842624) else none
  |_=>none
 |.mp h=>match H[h]? with
  |some (.map kk ks vs)=>(unrawL vs).map fun us=>(.imap kk ks us,True)
  |_=>none
 |.agg l=>match SV.sealedL H l with
  |some (l',p)=>some (.agg l',p)
  |none=>none
 |.tup l=>match SV.sealedL H l with
  |some (l',p)=>some (.tup l',p)
  |none=>none
 |_=>none
def SV.sealedL(H:List SObj):List SV→Option (List SV×Prop)
 | []=>some ([],True)
 |s :: l=>match SV.sealed H s,SV.sealedL H l with
  |some (s',p),some (l',q)=>some (s' :: l',p∧q)
  |_,_=>none
end
mutual
def SV.leV:SV→SV→Prop
 |s,.isl t xs=>s= .isl t xs∨(s= .raw (.slice none 0 0)∧xs= [])
 |s,.agg l=>match s with
  |.agg l'=>SV.leVL l' l
  |_=>False
 |s,.tup l=>match s with
  |.tup l'=>SV.leVL l' l
  |_=>False
 |s,s'=>s=s'
def SV.leVL:List SV→List SV→Prop
 | [],l=>l= []
 |s :: l,r=>match r with
  | []=>False
  |s' :: l'=>SV.leV s s'∧SV.leVL l l'
end
theorem j0N{v u:Value}:SV.leV (.raw v) (.raw u)=(v=u):=by simp [SV.leV]
theorem j2x{t:Ty}{xs ys:List t.den}:SV.leV (.isl t xs) (.isl t ys)=(xs=ys):=by simp [SV.leV]
theorem z5y{t:Ty}{ys:List t.den}:SV.leV (.raw (.slice none 0 0)) (.isl t ys)=(ys= []):=by simp [SV.leV]
theorem z2p{l l':List SV}:SV.leV (.agg l) (.agg l')=SV.leVL l l':=by rw [SV.leV]
theorem z1Z{l l':List SV}:SV.leV (.tup l) (.tup l')=SV.leVL l l':=by rw [SV.leV]
theorem z9q{kk kk':Option IntKind}{ks vs ks' vs':List Value}:SV.leV (.imap kk ks vs) (.imap kk' ks' vs')=(kk=kk'∧ks=ks'∧vs=vs'):=by simp [SV.leV]
theorem q7D{s s':SV}{l l':List SV}:SV.leVL (s :: l) (s' :: l')=(SV.leV s s'∧SV.leVL l l'):=by rw [SV.leVL]
theorem z3B:SV.leVL [] []=True:=by simp [SV.leVL]
mutual
theorem z8P:∀ (s:SV),SV.leV s s
 |.any=>by simp [SV.leV]
 |.raw _=>by simp [SV.leV]
 |.isl _ _=>by simp [SV.leV]
 |.fsl _ _=>by simp [SV.leV]
 |.iptr .. =>by simp [SV.leV]
 |.ptr .. =>by simp [SV.leV]
 |.rptr .. =>by simp [SV.leV]
 |.bld .. =>by simp [SV.leV]
 |.osl .. =>by simp [SV.leV]
 |.csl .. =>by simp [SV.leV]
 |.dat .. =>by simp [SV.leV]
 |.mp _=>by simp [SV.leV]
 |.imap .. =>by simp [SV.leV]
 |.fn .. =>by simp [SV.leV]
 |.iface .. =>by simp [SV.leV]
 |.agg l=>by rw [z2p];exact q6Z l
 |.tup l=>by rw [z1Z];exact q6Z l
theorem q6Z:∀ (l:List SV),SV.leVL l l
 | []=>by rw [z3B];trivial
 |s :: l=>by rw [q7D];exact ⟨z8P s,q6Z l⟩
end
mutual
theorem z1J{C:Cx}:∀ {s s':SV} {v:Value},SV.leV s s'→s.den C v→s'.den C v
 |s,.isl t xs,v,h,d=>by
  rw [SV.leV] at h;rcases h with rfl| ⟨rfl,rfl⟩
  · exact d
  rw [SV.den] at d;subst d;rw [SV.den];exact ⟨_,_,_,rfl,rfl,Ae _,by simp,.inl rfl⟩
 |.agg l',.agg l,v,h,d=>by
  rw [z2p] at h;rw [SV.den] at d⊢;obtain ⟨vs,hv,hl⟩:=d;exact ⟨vs,hv,q4K h hl⟩
 |.tup l',.tup l,v,h,d=>by
  rw [z1Z] at h;rw [SV.den] at d⊢;obtain ⟨vs,hv,hl⟩:=d;exact ⟨vs,hv,q4K h hl⟩
 |.any,.agg _,_,h,_=>by simp [SV.leV] at h
 |.raw _,.agg _,_,h,_=>by simp [SV.leV] at h
 |.isl _ _,.agg _,_,h,_=>by simp [SV.leV] at h
 |.fsl _ _,.agg _,_,h,_=>by simp [SV.leV] at h
 |.iptr ..,.agg _,_,h,_=>by simp [SV.leV] at h
 |.ptr ..,.agg _,_,h,_=>by simp [SV.leV] at h
 |.rptr ..,.agg _,_,h,_=>by simp [SV.leV] at h
 |.bld ..,.agg _,_,h,_=>by simp [SV.leV] at h
 |.osl ..,.agg _,_,h,_=>by simp [SV.leV] at h
 |.csl ..,.agg _,_,h,_=>by simp [SV.leV] at h
 |.dat ..,.agg _,_,h,_=>by simp [SV.leV] at h
 |.mp _,.agg _,_,h,_=>by simp [SV.leV] at h
 |.imap ..,.agg _,_,h,_=>by simp [SV.leV] at h
 |.fn ..,.agg _,_,h,_=>by simp [SV.leV] at h
 |.iface ..,.agg _,_,h,_=>by simp [SV.leV] at h
 |.tup _,.agg _,_,h,_=>by simp [SV.leV] at h
 |.any,.tup _,_,h,_=>by simp [SV.leV] at h
 |.raw _,.tup _,_,h,_=>by simp [SV.leV] at h
 |.isl _ _,.tup _,_,h,_=>by simp [SV.leV] at h
 |.fsl _ _,.tup _,_,h,_=>by simp [SV.leV] at h
 |.iptr ..,.tup _,_,h,_=>by simp [SV.leV] at h
 |.ptr ..,.tup _,_,h,_=>by simp [SV.leV] at h
 |.rptr ..,.tup _,_,h,_=>by simp [SV.leV] at h
 |.bld ..,.tup _,_,h,_=>by simp [SV.leV] at h
 |.osl ..,.tup _,_,h,_=>by simp [SV.leV] at h
 |.csl ..,.tup _,_,h,_=>by simp [SV.leV] at h
 |.dat ..,.tup _,_,h,_=>by simp [SV.leV] at h
 |.mp _,.tup _,_,h,_=>by simp [SV.leV] at h
 |.imap ..,.tup _,_,h,_=>by simp [SV.leV] at h
 |.fn ..,.tup _,_,h,_=>by simp [SV.leV] at h
 |.iface ..,.tup _,_,h,_=>by simp [SV.leV] at h
 |.agg _,.tup _,_,h,_=>by simp [SV.leV] at h
 |s,.any,v,h,d=>by simp [SV.leV] at h;subst h;exact d
 |s,.raw _,v,h,d=>by simp [SV.leV] at h;subst h;exact d
 |s,.fsl _ _,v,h,d=>by simp [SV.leV] at h;subst h;exact d
 |s,.iptr ..,v,h,d=>by simp [SV.leV] at h;subst h;exact d
 |s,.ptr ..,v,h,d=>by simp [SV.leV] at h;subst h;exact d
 |s,.rptr ..,v,h,d=>by simp [SV.leV] at h;subst h;exact d
 |s,.bld ..,v,h,d=>by simp [SV.leV] at h;subst h;exact d
 |s,.osl ..,v,h,d=>by simp [SV.leV] at h;subst h;exact d
 |s,.csl ..,v,h,d=>by simp [SV.leV] at h;subst h;exact d
 |s,.dat ..,v,h,d=>by simp [SV.leV] at h;subst h;exact d
 |s,.mp _,v,h,d=>by simp [SV.leV] at h;subst h;exact d
 |s,.imap ..,v,h,d=>by simp [SV.leV] at h;subst h;exact d
 |s,.fn ..,v,h,d=>by simp [SV.leV] at h;subst h;exact d
 |s,.iface ..,v,h,d=>by simp [SV.leV] at h;subst h;exact d
theorem q4K{C:Cx}:∀ {l l':List SV} {vs:List Value},SV.leVL l l'→SV.denL C l vs→SV.denL C l' vs
 | [],l',vs,h,d=>by simp only [SV.leVL] at h;subst h;exact d
 |s :: l,[],vs,h,d=>by simp [SV.leVL] at h
 |s :: l,s' :: l',vs,h,d=>by
  rw [q7D] at h;obtain ⟨v,us,rfl,h1,h2⟩:=q0c.1 d;exact q0c.2 ⟨v,us,rfl,z1J h.1 h1,q4K h.2 h2⟩
end

def Cx.shut(C:Cx)(H:List SObj):Cx:={C with n:=0,I:=fun b=>C.I b∨OwnB C H b}
mutual
theorem q8o{C:Cx}{H:List SObj}(hw:Wd C H):∀ {s s':SV} {p:Prop} {v:Value},s.sealed H=some (s',p)→p→s.den C v→s'.den (C.shut H) v
 |.any,_,_,_,h,_,_=>by simp [SV.sealed] at h;rw [←h.1,SV.den];trivial
 |.raw _,_,_,_,h,_,d=>by simp [SV.sealed] at h;rw [←h.1];rw [SV.den] at d⊢;exact d
 |.isl _ _,_,_,_,h,_,d=>by simp [SV.sealed] at h;rw [←h.1];exact q0D (C:=C) (C':=C.shut H) (fun b hb=>⟨.inl hb,rfl⟩) rfl d
 |.fsl _ _,_,_,_,h,_,d=>by simp [SV.sealed] at h;rw [←h.1];rw [SV.den] at d;exact q0D (C:=C) (C':=C.shut H) (fun b hb=>⟨.inl hb,rfl⟩) rfl (by rw [SV.den];exact d.1)
 |.dat ..,_,_,_,h,_,d=>by simp [SV.sealed] at h;rw [←h.1];exact q0D (C:=C) (C':=C.shut H) (fun b hb=>⟨.inl hb,rfl⟩) rfl d
 |.iptr ..,_,_,_,h,_,d=>by simp [SV.sealed] at h;rw [←h.1];exact q0D (C:=C) (C':=C.shut H) (fun b hb=>⟨.inl hb,rfl⟩) rfl d
 |.imap ..,_,_,_,h,_,d=>by simp [SV.sealed] at h;rw [←h.1];exact q0D (C:=C) (C':=C.shut H) (fun b hb=>⟨.inl hb,rfl⟩) rfl d
 |.bld hd t n,s',p,v,h,hp,d=>by
  unfold SV.sealed at h;split at h
  · rename_i t' xs hH;split at h
    · rename_i e;subst e;cases h;have h1:=q3E hw hH hp.2 (s:=.bld hd t n) (by rw [SV.frzOb,if_pos ⟨rfl,rfl⟩];exact hp.1) d
      rw [SV.frz,if_pos ⟨rfl,rfl⟩] at h1;exact q0D (C:=C.frz hd) (C':=C.shut H) (fun b hb=>⟨hb.elim .inl (fun e=>.inr ⟨hd,_,hH,rfl,e⟩),rfl⟩) rfl h1
    cases h
  cases h
 |.osl hd t off n,s',p,v,h,hp,d=>by
  unfold SV.sealed at h;split at h
  · rename_i t' xs hH;split at h
    · rename_i e;subst e;cases h;have h1:=q3E hw hH hp.2 (s:=.osl hd t off n) (by rw [SV.frzOb,if_pos ⟨rfl,rfl⟩];exact hp.1) d
      rw [SV.frz,if_pos ⟨rfl,rfl⟩] at h1;exact q0D (C:=C.frz hd) (C':=C.shut H) (fun b hb=>⟨hb.elim .inl (fun e=>.inr ⟨hd,_,hH,rfl,e⟩),rfl⟩) rfl h1
    cases h
  cases h
 |.mp hd,s',p,v,h,hp,d=>by
  unfold SV.sealed at h;split at h
  · rename_i kk ks vs hH;obtain ⟨us,hu,h⟩:=Ap.1 h;cases h;obtain rfl:=q4D hu;simp only [SV.den] at d⊢;obtain ⟨_,b,hb,rfl⟩:=d;obtain ⟨b',us',hb',hm,hl⟩:=hw.obj hd _ hH;rw [q1t hl] at hm;rw [hb] at hb';cases hb';exact ⟨b,rfl,.inr ⟨hd,_,hH,rfl,hb⟩,hm⟩
  cases h
 |.agg l,s',p,v,h,hp,d=>by
  unfold SV.sealed at h;split at h
  · cases h;rw [SV.den] at d⊢;obtain ⟨vs,hv,hl⟩:=d;exact ⟨vs,hv,q4n hw (by assumption) hp hl⟩
  cases h
 |.tup l,s',p,v,h,hp,d=>by
  unfold SV.sealed at h;split at h
  · cases h;rw [SV.den] at d⊢;obtain ⟨vs,hv,hl⟩:=d;exact ⟨vs,hv,q4n hw (by assumption) hp hl⟩
  cases h
 |.ptr ..,_,_,_,h,_,_=>by simp [SV.sealed] at h
 |.rptr ..,_,_,_,h,_,_=>by simp [SV.sealed] at h
 |.csl ..,_,_,_,h,_,_=>by simp [SV.sealed] at h
 |.fn ..,_,_,_,h,_,_=>by simp [SV.sealed] at h
 |.iface ..,_,_,_,h,_,_=>by simp [SV.sealed] at h
theorem q4n{C:Cx}{H:List SObj}(hw:Wd C H):∀ {l l':List SV} {p:Prop} {vs:List Value},SV.sealedL H l=some (l',p)→p→SV.denL C l vs→SV.denL (C.shut H) l' vs
 | [],_,_,_,h,_,d=>by simp [SV.sealedL] at h;rw [h.1];rw [q0p] at d⊢;exact d
 |s :: l,l',p,vs,h,hp,d=>by
  unfold SV.sealedL at h;split at h
  · cases h;obtain ⟨v,us,rfl,h1,h2⟩:=q0c.1 d;exact q0c.2 ⟨v,us,rfl,q8o hw (by assumption) hp.1 h1,q4n hw (by assumption) hp.2 h2⟩
  cases h
end
def SealK(s:SV):Out→List SObj→Prop
 |.ret s0,H'=>match s0.sealed H' with
  |some (s1,p)=>p∧SV.leV s1 s
  |none=>False
 |.pan _,_=>False
theorem q8h{P:Program}{f:FuncId}{us:Array Value}{s:SV}{C:Cx}(hw:Wd C [])(h:Calls P f us C.w fun e w'=>∃o H' C',SealK s o H'∧C'.w=w'∧Wd C' H'∧Ext ⟨C,[]⟩ C' H'∧outDen C' o e):
 Calls P f us C.w fun e w'=>∃o H' C',PK s o H'∧C'.w=w'∧Wd C' H'∧Ext ⟨C,[]⟩ C' H'∧outDen C' o e:=by
 refine h.mono ?_;rintro e w' ⟨o,H',C',hk,rfl,hw',hx,hd⟩;cases o with
 |pan s0=>exact hk.elim
 |ret s0=>
  simp only [SealK] at hk;split at hk
  · rename_i s1 p hs;obtain ⟨v,rfl,hd⟩:=hd;have hn:C.n=0:=hw.n;refine ⟨.ret s,[],C'.shut H',rfl,rfl,⟨rfl,fun h o ho=>by simp at ho,fun b ⟨h,o,ho,_⟩=>by simp at ho,fun h h' o o' b ho=>by simp at ho,?_⟩,⟨⟨by rw [hn];exact Ae _,fun h hh=>by rw [hn] at hh;exact absurd hh (BG h),fun b hb=>⟨.inl (hx.evo.I b hb).1,(hx.evo.I b hb).2⟩,hx.evo.sz⟩,hx.size,hx.os,hx.tape,hx.output,hx.frame,?_,fun b ⟨h,o,ho,_⟩=>by simp at ho,fun _ _ h=>by simp at h⟩,v,rfl,z1J hk.2 (q8o hw' hs hk.1 hd)⟩
    · rintro b (hb|hb)
      · exact hw'.imm b hb
      exact (hw'.own b hb).2
    rintro b (hb|hb)
    · exact hx.immNew b hb
    exact .inr ⟨hx.ownNew b hb,(q4v hw' hb:Unf C'.w b)⟩
  exact hk.elim
theorem VCall.shut{P:Program}{f:FuncId}{args:List SV}{s:SV}(h:VCall P f args [] (SealK s)):VCall P f args [] (PK s):=
 fun C vs hw ht hv=>q8h hw (h C vs hw ht hv)
theorem q0u{P:Program}{f:FuncId}{args:List SV}{s:SV}(ha:SV.cleanL args=true)(hs:s.clean=true)(h:VC P f args [] (SealK s)):PC P f args s:=
 q0w ha hs ⟨h.1,VCall.shut h.2⟩
attribute [go_sem] SealK SV.sealed SV.sealedL j0N j2x z5y z2p z1Z z9q q7D z3B
end Go.Sx
namespace Go.Sx
open Go
variable [Ghost] {P:Program} {AQ:Ex→List SV→List SObj→Prop} {k0:Nat} {k:List IT} {t:List SV} {H:List SObj}
theorem q3o{c:IC}(slot:Nat)(ty:Ty)(xs:Nat→List ty.den)(upd:Nat→List (Nat×SV))(n:Nat)(q:Nat→Prop)(hi:t[slot]?=some (.raw (.slice none 0 0)))(hk:k0≤H.length)(hx0:xs 0= [])(hbh:belH H.length H=true)(hu:∀i,((upd i).all fun x=>x.2.bel (H.length+1))=true)
 (hs:leM (t.set slot (.bld H.length ty 0)) (setMany (maskT c.wr (t.set slot (.bld H.length ty 0))) ((slot,.bld H.length ty 0) :: upd 0)))
 (round:∀i,i≤n→(∀j,j<i→q j)→SoundI P AQ ⟨k0,.ic c :: .stop (RoundA H ty (fun i=>setMany (maskT c.wr (t.set slot (.bld H.length ty 0))) ((slot,.bld H.length ty (xs i).length) :: upd i)) xs n (fun i=>∀j,j<i→q j) i) :: k,setMany (maskT c.wr (t.set slot (.bld H.length ty 0))) ((slot,.bld H.length ty (xs i).length) :: upd i),H++ [.row ty (xs i)]⟩):
 SoundI P AQ ⟨k0,.ic (.loop c) :: k,t,H⟩:=
 z6R slot ty rfl hi (j0S slot ty xs upd n q hk hx0 hbh hu hs round)
theorem q2a{ty:Ty}{S:Nat→List SV}{xs:Nat→List ty.den}{n i:Nat}{p:Nat→Prop}{t':List SV}{H':List SObj}(G G':List SObj)(hlt:i<n)(hp:p (i+1))(hH:H'=H++G++ [.row ty (xs (i+1))]++G')(hl:leT (shift H.length (H.length+G.length)) t' (S (i+1))):RoundA H ty S xs n p i t' H':=
 ⟨hlt,hp,G,G',hH,hl⟩
theorem z1Q{P:Program}{k:List It}(c:Code)(ty:Ty)(S:Nat→List SV)(xs:Nat→List ty.den)(n:Nat)(p:Nat→Prop)(h₀:p 0)(hs:leM t (S 0))(hk:k0≤H.length)(hbh:belH H.length H=true)(hb:SV.belL (H.length+1) t=true→∀i,SV.belL (H.length+1) (S i)=true)
 (round:∀i,i≤n→p i→Sound P AQ ⟨k0,.code c :: .stop (RoundA H ty S xs n p i) :: k,S i,H++ [.row ty (xs i)]⟩):Sound P AQ ⟨k0,.code (.loop c) :: k,t,H++ [.row ty (xs 0)]⟩:=fun E r m C a h0 hd=>by
 have hbt:∀i,SV.belL (H.length+1) (S i)=true:=hb (by have:=q1A hd.tmps;rw [hd.wd.n] at this;simpa using this)
 have hbh':∀ys:List ty.den,belH (H.length+1) (H++ [.row ty ys])=true:=fun ys=>q5H fun h o ho=>by
  rcases q0t ho with ⟨_,ho⟩ | ⟨_,rfl⟩
  · have:=q5r (hd.wd.obj h o (by rw [Ag (Aa.1 ho).1];exact ho));rw [hd.wd.n] at this;simpa using this
  rfl
 simp only [wpT];refine q1a (fun m a w=>∃i,i≤n∧p i∧n-i=m∧∃C,C.w=w∧Den E C (S i) (H++ [.row ty (xs i)]) a) n ⟨0,Al _,h₀,rfl,C,rfl,hd.wd,hd.ext,hd.defs,q2K (q3b hs) hd.tmps⟩ ?_;rintro m' a w ⟨i,hi,hp,rfl,C,rfl,hd⟩;have h1:=round i hi hp E r m C a h0 hd;simp only [wpT] at h1;refine wpIn_mono h1 fun e a w hq=> ?_;cases e with
 |normal=>
  obtain ⟨C',t',H',⟨hlt,hp',G,G',rfl,hS⟩,rfl,hd'⟩:=hq;refine ⟨n- (i+1),by omega,i+1,hlt,hp',rfl,C'.ren (shift H.length (H.length+G.length)) (H++ [SObj.row ty (xs (i+1))]).length,rfl,?_⟩
  have hsh:∀h,h<H.length→shift H.length (H.length+G.length) h=h:=fun h hh=>by unfold shift;rw [if_neg (by omega)]
  have hshn:shift H.length (H.length+G.length) H.length=H.length+G.length:=by unfold shift;rw [if_pos rfl]
  refine q8c h0.1 hd' hS (by simpa using hbt (i+1)) (fun h o ho hl=> ?_) (by simpa using hbh' (xs (i+1))) (fun h h' o o' ho ho' _ _ e=> ?_) (fun h hh=>hsh h (Am hh hk)) (by simp;exact Nat.le_succ_of_le hk) (fun _ hp hn=>z3D (Am hp (An h0.1 hk)) (by simpa only [List.append_assoc] using hn))
  · rcases q0t ho with ⟨hh,ho⟩ | ⟨hh,rfl⟩
    · rw [hsh h hh];have hr:o.ren (shift H.length (H.length+G.length))=o:=by
       have hbo:=q3f hbh ho;cases o with
       |cells T cs=>simp only [SObj.ren];rw [q9q.2 (by simpa [SObj.bel] using hbo)]
       |map kk ks vs=>simp only [SObj.ren];rw [q9q.2 (by simpa [SObj.bel] using hbo)]
       |_=>rfl
      rw [hr,List.append_assoc,List.append_assoc,Ag hh];exact ho
    subst hh;rw [hshn];simp [SObj.ren]
  have hlen:∀ {h:Nat} {o:SObj},(H++ [SObj.row ty (xs (i+1))])[h]?=some o→h≤H.length:=fun ho=>by have:=(Aa.1 ho).1;simp at this;omega
  have g1:=hlen ho;have g2:=hlen ho';unfold shift at e;split at e<;>split at e<;>omega
 |exit id=>simpa only [Exit.then,exitT] using hq
 |_=>exact hq
theorem j1w{c:IC}(slot:Nat)(ty:Ty)(xs:Nat→List ty.den)(upd:Nat→List (Nat×SV))(n:Nat)(q:Nat→Prop){r0:List ty.den}(hr:r0=xs 0)(hk:k0≤H.length)(hbh:belH H.length H=true)(hu:∀i,((upd i).all fun x=>x.2.bel (H.length+1))=true)
 (hs:leM t (setMany (maskT c.wr t) ((slot,.bld H.length ty (xs 0).length) :: upd 0)))
 (round:∀i,i≤n→(∀j,j<i→q j)→SoundI P AQ ⟨k0,.ic c :: .stop (RoundA H ty (fun i=>setMany (maskT c.wr t) ((slot,.bld H.length ty (xs i).length) :: upd i)) xs n (fun i=>∀j,j<i→q j) i) :: k,setMany (maskT c.wr t) ((slot,.bld H.length ty (xs i).length) :: upd i),H++ [.row ty (xs i)]⟩):
 SoundI P AQ ⟨k0,.ic (.loop c) :: k,t,H++ [.row ty r0]⟩:=by
 subst hr
 exact q0d (fun td' hr=>by
 obtain ⟨c',r,rfl,hc,hr⟩:=hr;obtain ⟨x,rfl,hx⟩:=q0N hc;refine z1Q x ty _ xs n _ (fun j hj=>absurd hj (BG j)) hs hk hbh (fun hb i=>q2N _ ?_ (q2O _ hb)) (fun i hi hp=>q0e (round i hi hp) ⟨x,_,rfl,hx,r,rfl,hr⟩);rw [Bt,Aj]
 exact ⟨by rw [SV.bel];simp,hu i⟩) rfl
theorem PC.arg{f:FuncId}{args args':List SV}{s:SV}(h:PC P f args s)(hl:SV.leVL args' args):PC P f args' s:=
 ⟨h.1,fun H K hk C vs hw ht hv=>h.2 H K hk C vs hw ht (q4K hl hv)⟩
end Go.Sx
namespace Go.Sx
open Go

variable [Ghost] {P:Program} {AQ:Ex→List SV→List SObj→Prop} {k0:Nat} {k:List IT} {t:List SV} {H:List SObj}

def sig:List Nat→Nat→Nat→Nat
 | [],N,h=>N+h
 |x :: _,_,0=>x
 |_ :: l,N,h+1=>sig l N h
def mgA(σ:Nat→Nat):List Nat→List SObj→List SObj→List SObj
 | [],l,H=>H++l.map (SObj.ren σ)
 |x :: r,o :: l,H=>mgA σ r l (H.set x (o.ren σ))
 |_ :: _,[],H=>H
def Out.ren(σ:Nat→Nat):Out→Out
 |.ret s=>.ret (s.ren σ)
 |.pan s=>.pan (s.ren σ)
def atH(σ:Nat→Nat)(H:List SObj):List Nat→List SObj→Prop
 | [],[]=>True
 |x :: r,o :: l=>H[x]?=some (o.ren σ)∧o.live=true∧atH σ H r l
 |_,_=>False

theorem z5n{σ:Nat→Nat}:∀ {r:List Nat} {l:List SObj},atH σ H r l→r.length=l.length
 | [],[],_=>rfl
 |_ :: r,_ :: l,h=>by simp [z5n h.2.2]
 | [],_ :: _,h=>h.elim
 |_ :: _,[],h=>h.elim
theorem z5C{σ:Nat→Nat}{N:Nat}:∀ {r:List Nat} {l:List SObj} {h:Nat} {o:SObj},atH σ H r l→l[h]?=some o→H[sig r N h]?=some (o.ren σ)∧o.live=true∧sig r N h∈r
 | [],[],_,_,_,hi=>by simp at hi
 |x :: r,o' :: l,0,o,ha,hi=>by simp at hi;subst hi;exact ⟨ha.1,ha.2.1,by simp [sig]⟩
 |x :: r,o' :: l,h+1,o,ha,hi=>by
  simp at hi;obtain ⟨g1,g2,g3⟩:=z5C (N:=N) ha.2.2 hi;exact ⟨g1,g2,by simp only [sig];exact AW _ g3⟩
 | [],_ :: _,_,_,h,_=>h.elim
 |_ :: _,[],_,_,h,_=>h.elim
theorem z6U:∀ {r:List Nat} {N x:Nat},x∈r→∃h,h<r.length∧sig r N h=x
 |y :: r,N,x,hx=>by
  rcases Bz.1 hx with e|e
  · exact ⟨0,by simp,by simp [sig,e]⟩
  obtain ⟨h,h1,h2⟩:=z6U (N:=N) e;exact ⟨h+1,by simp;exact h1,by simp only [sig];exact h2⟩
 | [],_,_,hx=>by simp at hx
theorem z7U:∀ {r:List Nat} {N h h':Nat},r.Nodup→h<r.length→h'<r.length→sig r N h=sig r N h'→h=h'
 |x :: r,N,0,0,_,_,_,_=>rfl
 |x :: r,N,0,h'+1,hn,_,hl,he=>by
  simp only [sig] at he;have:sig r N h'∈r:=sig_in (by simpa using hl)
  rw [←he] at this;exact absurd this (Bw.1 hn).1
 |x :: r,N,h+1,0,hn,hl,_,he=>by
  simp only [sig] at he;have:sig r N h∈r:=sig_in (by simpa using hl)
  rw [he] at this;exact absurd this (Bw.1 hn).1
 |x :: r,N,h+1,h'+1,hn,hl,hl',he=>by
  simp only [sig] at he;rw [z7U (Bw.1 hn).2 (by simpa using hl) (by simpa using hl') he]
 | [],_,_,_,_,hl,_,_=>by simp at hl
where sig_in:∀ {r:List Nat} {N h:Nat},h<r.length→sig r N h∈r
 |x :: r,N,0,_=>by simp [sig]
 |x :: r,N,h+1,hl=>by simp only [sig];exact AW _ (sig_in (by simpa using hl))
 | [],_,_,hl=>by simp at hl
theorem z5s:∀ {r:List Nat} {N h:Nat},r.length≤h→sig r N h=N+ (h-r.length)
 | [],N,h,_=>by simp [sig]
 |x :: r,N,h+1,hl=>by simp only [sig];rw [z5s (by simpa using hl)];simp
 |x :: r,N,0,hl=>by simp at hl

theorem z6D{σ:Nat→Nat}:∀ {r:List Nat} {l H:List SObj},r.length≤l.length→(mgA σ r l H).length=H.length+ (l.length-r.length)
 | [],l,H,_=>by simp [mgA]
 |x :: r,o :: l,H,h=>by rw [mgA,z6D (by simpa using h)];simp
 |_ :: _,[],_,h=>by simp at h
theorem z7s{σ:Nat→Nat}:∀ {r:List Nat} {l H:List SObj} {i:Nat} {o:SObj},r.length≤l.length→(mgA σ r l H)[i]?=some o→
 (∃k oo,l[k]?=some oo∧o=oo.ren σ∧i=sig r H.length k)∨(i ∉ r∧H[i]?=some o)
 | [],l,H,i,o,_,h=>by
  rw [mgA] at h;rcases AC i H.length with hl|hl
  · rw [Ag hl] at h;exact .inr ⟨by simp,h⟩
  rw [Ao hl,AN] at h;cases hk:l[i-H.length]? with
  |none=>rw [hk] at h;cases h
  |some oo=>rw [hk] at h;cases h;exact .inl ⟨_,oo,hk,rfl,by simp only [sig];omega⟩
 |x :: r,o' :: l,H,i,o,hl,h=>by
  rw [mgA] at h;rcases z7s (by simpa using hl) h with ⟨k,oo,h1,h2,h3⟩ | ⟨h1,h2⟩
  · exact .inl ⟨k+1,oo,by simpa using h1,h2,by simp only [sig];rw [h3];simp⟩
  by_cases e:i=x
  · subst e;rcases AC i H.length with hi|hi
    · rw [Ar hi] at h2;cases h2;exact .inl ⟨0,o',rfl,rfl,rfl⟩
    rw [AJ (by simpa using hi)] at h2;cases h2
  rw [Aq (Ne.symm e)] at h2;exact .inr ⟨by simp [e,h1],h2⟩
 |_ :: _,[],_,_,_,hl,_=>by simp at hl

/- Values that are carried to another context. -/
mutual
theorem z2S{C D:Cx}{σ:Nat→Nat}(hρ:∀h,h<C.n→D.ρ (σ h)=C.ρ h∧σ h<D.n)(hI:D.I=C.I)(hW:D.w=C.w):∀ {s:SV} {v:Value},s.den C v→(s.ren σ).den D v
 |.any,_,_=>by rw [SV.ren,SV.den];trivial
 |.raw _,_,d=>by rw [SV.den] at d;rw [SV.ren,SV.den];exact d
 |.isl _ _,_,d=>by rw [SV.den] at d;rw [SV.ren,SV.den,hI,hW];exact d
 |.fsl _ _,_,d=>by rw [SV.den] at d;rw [SV.ren,SV.den,hI,hW];exact d
 |.iptr _ _ _,_,d=>by rw [SV.den] at d;rw [SV.ren,SV.den,hI,hW];exact d
 |.dat _ _,_,d=>by rw [SV.den] at d;rw [SV.ren,SV.den,hI,hW];exact d
 |.ptr h off,_,d=>by rw [SV.den] at d;rw [SV.ren,SV.den,(hρ h d.1).1];exact ⟨(hρ h d.1).2,d.2⟩
 |.rptr h t i k,_,d=>by rw [SV.den] at d;rw [SV.ren,SV.den,(hρ h d.1).1];exact ⟨(hρ h d.1).2,d.2⟩
 |.bld h t m,_,d=>by rw [SV.den] at d;rw [SV.ren,SV.den,(hρ h d.1).1,hW];exact ⟨(hρ h d.1).2,d.2⟩
 |.osl h t off m,_,d=>by rw [SV.den] at d;rw [SV.ren,SV.den,(hρ h d.1).1];exact ⟨(hρ h d.1).2,d.2⟩
 |.csl h t k i m,_,d=>by rw [SV.den] at d;rw [SV.ren,SV.den,(hρ h d.1).1];exact ⟨(hρ h d.1).2,d.2⟩
 |.mp h,_,d=>by rw [SV.den] at d;rw [SV.ren,SV.den,(hρ h d.1).1];exact ⟨(hρ h d.1).2,d.2⟩
 |.imap ..,_,d=>by rw [SV.den] at d;rw [SV.ren,SV.den,hI,hW];exact d
 |.agg l,_,d=>by
  rw [SV.den] at d;rw [SV.ren,SV.den];obtain ⟨vs,hv,hl⟩:=d;exact ⟨vs,hv,q4x hρ hI hW hl⟩
 |.tup l,_,d=>by
  rw [SV.den] at d;rw [SV.ren,SV.den];obtain ⟨vs,hv,hl⟩:=d;exact ⟨vs,hv,q4x hρ hI hW hl⟩
 |.fn f a b,_,d=>by
  rw [SV.den] at d;rw [SV.ren,SV.den];obtain ⟨v1,v2,hv,h1,h2⟩:=d;exact ⟨v1,v2,hv,q4x hρ hI hW h1,q4x hρ hI hW h2⟩
 |.iface T x,_,d=>by
  rw [SV.den] at d;rw [SV.ren,SV.den];obtain ⟨u,hv,h1⟩:=d;exact ⟨u,hv,z2S hρ hI hW h1⟩
theorem q4x{C D:Cx}{σ:Nat→Nat}(hρ:∀h,h<C.n→D.ρ (σ h)=C.ρ h∧σ h<D.n)(hI:D.I=C.I)(hW:D.w=C.w):∀ {l:List SV} {vs:List Value},SV.denL C l vs→SV.denL D (SV.renL σ l) vs
 | [],_,d=>by rw [SV.denL] at d;rw [SV.renL,SV.denL];exact d
 |s :: l,_,d=>by
  rw [SV.denL] at d;rw [SV.renL,SV.denL];obtain ⟨v,us,rfl,h1,h2⟩:=d;exact ⟨v,us,rfl,z2S hρ hI hW h1,q4x hρ hI hW h2⟩
end
theorem objUp{C D:Cx}{σ:Nat→Nat}{h:Nat}(hρ:∀h,h<C.n→D.ρ (σ h)=C.ρ h∧σ h<D.n)(hI:D.I=C.I)(hW:D.w=C.w)(hh:h<C.n):∀ {o:SObj},objDen C h o→objDen D (σ h) (o.ren σ)
 |.dead,_=>trivial
 |.cells T cs,⟨b,vs,h1,h2,h3⟩=>⟨b,vs,(hρ h hh).1.trans h1,by rw [hW];exact h2,q4x hρ hI hW h3⟩
 |.row t xs,d=>by simp only [SObj.ren,objDen] at d⊢;rw [(hρ h hh).1,hI,hW];exact d
 |.map kk ks vs,⟨b,us,h1,h2,h3⟩=>⟨b,us,(hρ h hh).1.trans h1,by rw [hW];exact h2,q4x hρ hI hW h3⟩
 |.mark _,_=>trivial

theorem z3C{σ:Nat→Nat}{x:Nat}{o:SObj}:∀ {hs:List Nat} {l H:List SObj},x ∉ hs→H[x]?=some o→(mgA σ hs l H)[x]?=some o
 | [],l,H,_,h=>by rw [mgA,Ag (Aa.1 h).1];exact h
 |y :: r,o' :: l,H,hx,h=>by
  rw [mgA];refine z3C (fun h1=>hx (AW _ h1)) ?_;rw [Aq (fun e=>hx (by rw [e];exact Cm))];exact h
 |_ :: _,[],H,_,h=>h
theorem VCall.fr{f:FuncId}{args:List SV}{H0:List SObj}{K0 K:Out→List SObj→Prop}(hs:List Nat)(hnd:hs.Nodup)(ha:atH (sig hs H.length) H hs H0)(hb:SV.belL H0.length args=true)(hbh:belH H0.length H0=true)
 (hc:VCall P f args H0 K0)(hk:∀o H',H0.length≤H'.length→K0 o H'→K (o.ren (sig hs H.length)) (mgA (sig hs H.length) hs H' H)):
 VCall P f (SV.renL (sig hs H.length) args) H K:=by
 intro C vs hw ht hv;have hlen:=z5n ha;generalize hσ:sig hs H.length=σ at*;have hget:∀ {h o},H0[h]?=some o→H[σ h]?=some (o.ren σ)∧o.live=true∧σ h∈hs:=fun hh=>by
  have:=z5C (N:=H.length) ha hh;rw [hσ] at this;exact this
 let C0:Cx:=C.ren σ H0.length
 have hown0:∀b,OwnB C0 H0 b→∃h,h<H0.length∧C.ρ (σ h)=some b∧OwnB C H b:=by
  rintro b ⟨i,o,ho,hl,hbb⟩;exact ⟨i,(Aa.1 ho).1,hbb,σ i,_,(hget ho).1,by rw [q1d];exact hl,hbb⟩
 have hw0:Wd C0 H0:=by
  refine ⟨rfl,fun i o ho=>objRen (q3f hbh ho) (hw.obj _ _ (hget ho).1),fun b hb'=> ?_,fun i j o o' b ho ho' hl hl' hb1 hb2=> ?_,hw.imm⟩
  · obtain ⟨_,_,_,h1⟩:=hown0 b hb';exact hw.own b h1
  have e:=hw.inj (σ i) (σ j) _ _ b (hget ho).1 (hget ho').1 (by rw [q1d];exact hl) (by rw [q1d];exact hl') hb1 hb2
  rw [←hσ] at e;exact z7U hnd (by rw [hlen];exact (Aa.1 ho).1) (by rw [hlen];exact (Aa.1 ho').1) e
 refine (hc C0 vs hw0 (ht.sub rfl (fun _ h=>h) fun b hb=>(hown0 b hb).elim fun _ h=>h.2.2) (q2J hb hv)).mono ?_;rintro e w' ⟨o,H',C',hK,rfl,hw',hx,hd⟩;have hn:H0.length≤H'.length:=by have:=hx.evo.n;rw [hw'.n] at this;exact this
 have hsl:hs.length≤H'.length:=by omega
 let D:Cx:={ρ:=fun i=>if i<H.length then C.ρ i else C'.ρ (H0.length+ (i-H.length)),n:=H.length+ (H'.length-H0.length),I:=C'.I,w:=C'.w}
 have hlt:∀h,h<H0.length→σ h<H.length:=fun h hh=>(Aa.1 (hget (Ab hh)).1).1;have hout:∀h,H0.length≤h→σ h=H.length+ (h-H0.length):=fun h hh=>by rw [←hσ,z5s (by omega),hlen]
 have hρ:∀h,h<C'.n→D.ρ (σ h)=C'.ρ h∧σ h<D.n:=by
  intro h hh;rw [hw'.n] at hh;rcases AC h H0.length with h1|h1
  · have:=hlt h h1;refine ⟨?_,by show σ h<H.length+ (H'.length-H0.length);omega⟩
    show (if σ h<H.length then C.ρ (σ h) else _)=_;rw [if_pos this];exact (hx.evo.ρ h h1).symm
  have:=hout h h1;refine ⟨?_,by show σ h<H.length+ (H'.length-H0.length);omega⟩
  show (if σ h<H.length then C.ρ (σ h) else C'.ρ (H0.length+ (σ h-H.length)))=_;rw [if_neg (by omega)];congr 1;omega
 have hevo:Evo C D:=⟨by rw [hw.n];exact CR _ _,fun x hxl=>by
  show (if x<H.length then C.ρ x else _)=_
  rw [if_pos (by rw [hw.n] at hxl;exact hxl)],hx.evo.I,hx.evo.sz⟩
 have hgetM:∀ {i oo},(mgA σ hs H' H)[i]?=some oo→(∃h o',H'[h]?=some o'∧oo=o'.ren σ∧i=σ h)∨(i ∉ hs∧H[i]?=some oo):=fun hh=>by
  rcases z7s hsl hh with ⟨k,o',g1,g2,g3⟩ |g
  · rw [hσ] at g3;exact .inl ⟨k,o',g1,g2,g3⟩
  exact .inr g
 have hfar:∀i oo b,i ∉ hs→H[i]?=some oo→oo.live=true→C.ρ i=some b→¬OwnB C0 H0 b:=by
  rintro i oo b hi ho hl hb' ⟨h,o',ho',hl',hb2⟩;have e:=hw.inj i (σ h) _ _ b ho (hget ho').1 hl (by rw [q1d];exact hl') hb' hb2
  exact hi (e▸ (hget ho').2.2)
 have hDρ:∀i oo,H[i]?=some oo→D.ρ i=C.ρ i:=fun i oo ho=>by
  show (if i<H.length then C.ρ i else _)=_;rw [if_pos (Aa.1 ho).1]
 have hownD:∀b,OwnB D (mgA σ hs H' H) b→OwnB C' H' b∨(OwnB C H b∧¬OwnB C0 H0 b):=by
  rintro b ⟨i,oo,ho,hl,hb'⟩;rcases hgetM ho with ⟨h,o',g1,rfl,rfl⟩ | ⟨g1,g2⟩
  · rw [(hρ h (by rw [hw'.n];exact (Aa.1 g1).1)).1] at hb'
    exact .inl ⟨h,o',g1,by rw [q1d] at hl;exact hl,hb'⟩
  rw [hDρ i oo g2] at hb';exact .inr ⟨⟨i,oo,g2,hl,hb'⟩,hfar i oo b g1 g2 hl hb'⟩
 refine ⟨o.ren σ,mgA σ hs H' H,D,hk o H' hn hK,rfl,⟨?_,?_,?_,?_,hw'.imm⟩,⟨hevo,hx.size,hx.os,hx.tape,hx.output,?_,?_,?_,fun n _ hn=>z3C (fun h0=>by
  obtain ⟨h,hh,he⟩:=z6U (N:=H.length) h0;rw [hσ] at he;have hg:=hget (Ab (show h<H0.length by omega))
  have h1:H[0]?=some (H0[h].ren σ):=by rw [←he];exact hg.1
  rw [hn] at h1;have h2:=hg.2.1;rw [←q1d σ,←Option.some.inj h1] at h2
  simp [SObj.live] at h2) hn⟩,?_⟩
 · rw [z6D hsl,hlen]
 · intro i oo ho;rcases hgetM ho with ⟨h,o',g1,rfl,rfl⟩ | ⟨g1,g2⟩
   · exact objUp hρ rfl rfl (by rw [hw'.n];exact (Aa.1 g1).1) (hw'.obj h o' g1)
   by_cases hl:oo.live=true
   · exact q0C (C':=D) hevo.I i (hDρ i oo g2) (fun b hb'=>hx.frame b (hw.own b ⟨i,oo,g2,hl,hb'⟩).2 (hfar i oo b g1 g2 hl hb')) (q0f hevo) (hw.obj i oo g2)
   cases oo<;>first|trivial|simp [SObj.live] at hl
 · intro b hb';rcases hownD b hb' with h1| ⟨h1,h2⟩
   · exact hw'.own b h1
   obtain ⟨g1,g2⟩:=hw.own b h1;refine ⟨fun hi=> ?_,Am g2 hx.size⟩;rcases hx.immNew b hi with q| ⟨q|q,_⟩
   · exact g1 q
   · exact absurd g2 (AG.2 q)
   exact h2 q
 · intro i j oo oo' b ho ho' hl hl' hb1 hb2;rcases hgetM ho with ⟨h,o',g1,rfl,rfl⟩ | ⟨g1,g2⟩ <;>rcases hgetM ho' with ⟨h',o'',g1',rfl,rfl⟩ | ⟨g1',g2'⟩
   · rw [(hρ h (by rw [hw'.n];exact (Aa.1 g1).1)).1] at hb1
     rw [(hρ h' (by rw [hw'.n];exact (Aa.1 g1').1)).1] at hb2
     rw [q1d] at hl hl';rw [hw'.inj h h' _ _ b g1 g1' hl hl' hb1 hb2]
   · rw [(hρ h (by rw [hw'.n];exact (Aa.1 g1).1)).1] at hb1
     rw [hDρ j oo' g2'] at hb2;rw [q1d] at hl;rcases hx.ownNew b ⟨h,o',g1,hl,hb1⟩ with q|q
     · exact absurd (hw.own b ⟨j,oo',g2',hl',hb2⟩).2 (AG.2 q)
     exact absurd q (hfar j oo' b g1' g2' hl' hb2)
   · rw [(hρ h' (by rw [hw'.n];exact (Aa.1 g1').1)).1] at hb2
     rw [hDρ i oo g2] at hb1;rw [q1d] at hl';rcases hx.ownNew b ⟨h',o'',g1',hl',hb2⟩ with q|q
     · exact absurd (hw.own b ⟨i,oo,g2,hl,hb1⟩).2 (AG.2 q)
     exact absurd q (hfar i oo b g1 g2 hl hb1)
   rw [hDρ i oo g2] at hb1;rw [hDρ j oo' g2'] at hb2;exact hw.inj i j oo oo' b g2 g2' hl hl' hb1 hb2
 · intro b hb' ho;refine hx.frame b hb' fun hq=> ?_;obtain ⟨_,_,_,h1⟩:=hown0 b hq;exact ho h1
 · intro b hb';rcases hx.immNew b hb' with q| ⟨q|q,u⟩
   · exact .inl q
   · exact .inr ⟨.inl q,u⟩
   obtain ⟨_,_,_,h1⟩:=hown0 b q;exact .inr ⟨.inr h1,u⟩
 · intro b hb';rcases hownD b hb' with h1| ⟨h1,_⟩
   · rcases hx.ownNew b h1 with q|q
     · exact .inl q
     obtain ⟨_,_,_,h2⟩:=hown0 b q;exact .inr h2
   exact .inr h1
 cases o with
 |ret s=>obtain ⟨v,rfl,hd⟩:=hd;exact ⟨v,rfl,z2S hρ rfl rfl hd⟩
 |pan s=>obtain ⟨v,rfl,hd⟩:=hd;exact ⟨v,rfl,z2S hρ rfl rfl hd⟩

def Out.val:Out→SV
 |.ret s=>s
 |.pan s=>s
def Out.withV:Out→SV→Out
 |.ret _,s=>.ret s
 |.pan _,s=>.pan s
def SV.leW1(s s':SV):Prop:=s=s'∨s'= .any∨∃t xs,s'= .isl t xs∧(s= .fsl t xs∨(s= .raw (.slice none 0 0)∧xs= []))
def SV.leWL:List SV→List SV→Prop
 | [],[]=>True
 |s :: l,s' :: l'=>SV.leW1 s s'∧SV.leWL l l'
 |_,_=>False
def SV.leW(s s':SV):Prop:=SV.leW1 s s'∨∃l l',s= .tup l∧s'= .tup l'∧SV.leWL l l'
theorem z2F{C:Cx}{s s':SV}{v:Value}(h:SV.leW1 s s')(d:s.den C v):s'.den C v:=by
 rcases h with rfl|rfl| ⟨t,xs,rfl,rfl| ⟨rfl,rfl⟩⟩
 · exact d
 · rw [SV.den];trivial
 · rw [SV.den] at d;rw [SV.den];exact d.1
 exact z1J (by rw [z5y]) d
theorem z2X{C:Cx}:∀ {l l':List SV} {vs:List Value},SV.leWL l l'→SV.denL C l vs→SV.denL C l' vs
 | [],[],_,_,d=>d
 |s :: l,s' :: l',_,h,d=>by
  obtain ⟨v,us,rfl,h1,h2⟩:=q0c.1 d;exact q0c.2 ⟨v,us,rfl,z2F h.1 h1,z2X h.2 h2⟩
 | [],_ :: _,_,h,_=>h.elim
 |_ :: _,[],_,h,_=>h.elim
theorem j1e{C:Cx}{s s':SV}{v:Value}(h:SV.leW s s')(d:s.den C v):s'.den C v:=by
 rcases h with h| ⟨l,l',rfl,rfl,h⟩
 · exact z2F h d
 rw [SV.den] at d⊢;obtain ⟨vs,hv,hl⟩:=d;exact ⟨vs,hv,z2X h hl⟩
def Weak(k0:Nat)(K:Out→List SObj→Prop):Out→List SObj→Prop:=fun o H'=>∃σ s2 s3 H2,Le σ k0 [o.val] H' [s2] H2∧SV.leW s2 s3∧K (o.withV s3) H2
theorem VCall.weak{f:FuncId}{args:List SV}{K:Out→List SObj→Prop}(h:VCall P f args H (Weak H.length K)):VCall P f args H K:=by
 intro C vs hw ht hv;refine (h C vs hw ht hv).mono ?_;rintro e w' ⟨o,H',C',⟨σ,s2,s3,H2,hle,hw3,hk⟩,rfl,hw',hx,hd⟩;have key:∀v,o.val.den C' v→∃D:Cx,D.w=C'.w∧Wd D H2∧Ext ⟨C,H⟩ D H2∧s3.den D v:=by
  intro v hv';have hden: @Den noGhost ⟨⟨C,H⟩,[]⟩ C' [o.val] H' {tmps:= #[v],defers:=[]}:=⟨hw',hx,⟨rfl,⟨ht.next hx,ht.lt⟩,trivial⟩,q0c.2 ⟨v,[],rfl,hv',q0p.2 rfl⟩⟩
  have g:= @Le.wd noGhost _ _ _ _ _ _ _ _ _ hle (CS hw.n) hden;obtain ⟨v',us,he,hs2,_⟩:=q0c.1 g.tmps;cases he;exact ⟨C'.ren σ H2.length,rfl,g.wd,g.ext,j1e hw3 hs2⟩
 cases o with
 |ret s=>
  obtain ⟨v,rfl,hd⟩:=hd;obtain ⟨D,h1,h2,h3,h4⟩:=key v hd;exact ⟨.ret s3,H2,D,hk,h1,h2,h3,v,rfl,h4⟩
 |pan s=>
  obtain ⟨v,rfl,hd⟩:=hd;obtain ⟨D,h1,h2,h3,h4⟩:=key v hd;exact ⟨.pan s3,H2,D,hk,h1,h2,h3,v,rfl,h4⟩
theorem z6r{f:FuncId}{args:List SV}{K:Out→List SObj→Prop}(h:VC P f args H (Weak H.length K)):VC P f args H K:=⟨h.1,VCall.weak h.2⟩

def PE(P:Program)(f:FuncId)(args:List SV)(H0:List SObj)(o:Out)(H1:List SObj):Prop:=VC P f args H0 fun o' H'=>o'=o∧H'=H1
theorem j4r{f:FuncId}{args:List SV}{H0 H1:List SObj}{o:Out}(h:VC P f args H0 (Weak H0.length fun o' H'=>o'=o∧H'=H1)):PE P f args H0 o H1:=z6r h

def afterO(P:Program)(AQ:Ex→List SV→List SObj→Prop)(d:Option Tmp)(m:IM):Out→List SObj→Prop
 |.ret s,H'=>SoundI P AQ {m with tmps:=putT m.tmps d s,heap:=H'}
 |.pan s,H'=>AQ (.pan s) m.tmps H'

theorem q0K{f:FuncId}{args args0:List SV}{H0 H1:List SObj}{o:Out}{d:Option Tmp}{m:IM}(hs:List Nat)(hp:PE P f args0 H0 o H1)(hargs:args=SV.renL (sig hs m.heap.length) args0)(hnd:hs.Nodup)
 (ha:atH (sig hs m.heap.length) m.heap hs H0)(hb:SV.belL H0.length args0=true)(hbh:belH H0.length H0=true)
 (h:afterO P AQ d m (o.ren (sig hs m.heap.length)) (mgA (sig hs m.heap.length) hs H1 m.heap)):CallI P AQ f args d m:=by
 subst hargs;refine ⟨hp.1,VCall.g (VCall.fr hs hnd ha hb hbh hp.2 ?_)⟩;rintro o' H' _ ⟨rfl,rfl⟩;cases o'<;>exact h
theorem effE{P:Program}{AQ:Ex→List SV→List SObj→Prop}{f:FuncId}{args args0:List SV}{H0 H1:List SObj}{s:SV}{d:Option Tmp}{m:IM}{q:Prop}(hm:P.follows .mixedOrders=true)(hs:List Nat)(hp:PE P f args0 H0 (.ret s) H1)(h:q)(hargs:args=SV.renL (sig hs m.heap.length) args0:=by rfl)(hnd:hs.Nodup:=by decide)
 (ha:atH (sig hs m.heap.length) m.heap hs H0:=by (repeat first|exact trivial|exact rfl|refine And.intro ?_ ?_))(hb:SV.belL H0.length args0=true:=by rfl)(hbh:belH H0.length H0=true:=by rfl)
 (e:run P AQ 600 {m with tmps:=putT m.tmps d (s.ren (sig hs m.heap.length)),heap:=mgA (sig hs m.heap.length) hs H1 m.heap}=q:=by (simp only [Out.ren,SV.ren,mgA,sig,SObj.ren,SV.renL,List.set,List.map,Ai];simp (maxSteps:=3000000) only [go_sem,↓zA,↓reduceIte,↓reduceDIte];(try simp only [zB]);rfl)):CallI P AQ f args d m:=
 q0K hs hp hargs hnd ha hb hbh (q0r hm 600 _ (Eq.mpr e h))
theorem effP{P:Program}{AQ:Ex→List SV→List SObj→Prop}{f:FuncId}{args args0:List SV}{H0 H1:List SObj}{s:SV}{d:Option Tmp}{m:IM}{q:Prop}(hs:List Nat)(hp:PE P f args0 H0 (.pan s) H1)(h:q)(hargs:args=SV.renL (sig hs m.heap.length) args0:=by rfl)(hnd:hs.Nodup:=by decide)
 (ha:atH (sig hs m.heap.length) m.heap hs H0:=by (repeat first|exact trivial|exact rfl|refine And.intro ?_ ?_))(hb:SV.belL H0.length args0=true:=by rfl)(hbh:belH H0.length H0=true:=by rfl)
 (e:AQ (.pan (s.ren (sig hs m.heap.length))) m.tmps (mgA (sig hs m.heap.length) hs H1 m.heap)=q:=by (simp only [Out.ren,SV.ren,mgA,sig,SObj.ren,SV.renL,List.set,List.map,Ai];simp (maxSteps:=3000000) only [go_sem,↓zA,↓reduceIte,↓reduceDIte];(try simp only [zB]);rfl)):CallI P AQ f args d m:=
 q0K hs hp hargs hnd ha hb hbh (Eq.mpr e h)
theorem effC{P:Program}{AQ:Ex→List SV→List SObj→Prop}{f:FuncId}{args args0:List SV}{H0 H1:List SObj}{s:SV}{d:Option Tmp}{m:IM}{a q:Prop}(hm:P.follows .mixedOrders=true)(hs:List Nat)(hp:PE P f args0 H0 (.ret s) H1)(w:a)(h:q)(hargs:args=SV.renL (sig hs m.heap.length) args0:=by rfl)(hnd:hs.Nodup:=by decide)
 (ha:a→atH (sig hs m.heap.length) m.heap hs H0:=by (intro w;simp [atH,sig,SObj.ren,SV.ren,SV.renL,SObj.live,w]))(hb:SV.belL H0.length args0=true:=by rfl)(hbh:a→belH H0.length H0=true:=by (intro w;simp [belH,SObj.bel,SV.belL,SV.bel,w]))
 (e:a→run P AQ 600 {m with tmps:=putT m.tmps d (s.ren (sig hs m.heap.length)),heap:=mgA (sig hs m.heap.length) hs H1 m.heap}=q:=by (intro w;simp only [Out.ren,SV.ren,mgA,sig,SObj.ren,SV.renL,List.set,List.map,Ai,w];simp (maxSteps:=3000000) only [w,go_sem,↓zA,↓reduceIte,↓reduceDIte];(try simp only [zB]);rfl)):CallI P AQ f args d m:=
 q0K hs hp hargs hnd (ha w) hb (hbh w) (q0r hm 600 _ (Eq.mpr (e w) h))
theorem effD{P:Program}{AQ:Ex→List SV→List SObj→Prop}{f:FuncId}{args args0:List SV}{H0 H1:List SObj}{s:SV}{d:Option Tmp}{m:IM}{a q:Prop}(hs:List Nat)(hp:PE P f args0 H0 (.pan s) H1)(w:a)(h:q)(hargs:args=SV.renL (sig hs m.heap.length) args0:=by rfl)(hnd:hs.Nodup:=by decide)
 (ha:a→atH (sig hs m.heap.length) m.heap hs H0:=by (intro w;simp [atH,sig,SObj.ren,SV.ren,SV.renL,SObj.live,w]))(hb:SV.belL H0.length args0=true:=by rfl)(hbh:a→belH H0.length H0=true:=by (intro w;simp [belH,SObj.bel,SV.belL,SV.bel,w]))
 (e:a→AQ (.pan (s.ren (sig hs m.heap.length))) m.tmps (mgA (sig hs m.heap.length) hs H1 m.heap)=q:=by (intro w;simp only [Out.ren,SV.ren,mgA,sig,SObj.ren,SV.renL,List.set,List.map,Ai,w];simp (maxSteps:=3000000) only [w,go_sem,↓zA,↓reduceIte,↓reduceDIte];(try simp only [zB]);rfl)):CallI P AQ f args d m:=
 q0K hs hp hargs hnd (ha w) hb (hbh w) (Eq.mpr (e w) h)
end Go.Sx
