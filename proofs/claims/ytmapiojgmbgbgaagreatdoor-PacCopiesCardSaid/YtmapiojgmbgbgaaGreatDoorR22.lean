/- A part of the proof: a symbolic executor over abstract values, and its soundness. -/
import Derived.Test.YtmapiojgmbgbgaaGreatDoorR21
set_option linter.all false
namespace Go.Sx
open Go

variable {P:Program} {AQ:Ex→List SV→List SObj→Prop} {k0:Nat} {k:List IT} {t:List SV} {H:List SObj}

theorem z6G{f:FuncId}{fi:FI}(h:finfo P f=some fi):∃fn c,P.funcs[f]?=some fn∧fn.body=some c∧comp P c=some fi.code∧fn.ntmps=fi.ntmps∧fn.results.toList=fi.results∧enters P f=true:=by
 unfold finfo at h;split at h
 · rename_i fn hf;split at h
   · rename_i c hb;split at h
     · rename_i ic hc;split at h
       · cases h
       rename_i hn;cases h;exact ⟨fn,c,hf,hb,hc,rfl,rfl,by simp [enters,hf,hb];simpa using hn⟩
     cases h
   cases h
 cases h
theorem z9X[Ghost]{f:FuncId}{fi:FI}{args:List SV}{K:Out→List SObj→Prop}{E:EnD}{C:Cx}{vs:List Value}(h:finfo P f=some fi)(hE:E.base= [])(hn:E.C.n≤H.length)(hw:Wd C H)(hx:Ext E C H)(hg:Ghost.inv E C H)
 (J:Cx→List SObj→Prop)(hJ:LeaveOk E J)
 (hv:SV.denL C args vs)(hs:SoundI P (retF P fi.results K) ⟨H.length,[.ic fi.code],args++List.replicate (fi.ntmps-args.length) .any,H⟩):
 Calls P f vs.toArray C.w fun e w'=>∃o H' C',K o H'∧C'.w=w'∧Wd C' H'∧Ext E C' H'∧J C' H'∧outDen C' o e:=by
 obtain ⟨fn,c,hf,hb,hc,h1,h2,_⟩:=z6G h;have hq:retQ P fn K=retF P fi.results K:=by rw [←h2];funext e t H;cases e<;>rfl
 exact q4t hf hb hE hn hw hx hg J hJ hv (by rw [hq,h1];exact q0f hs ⟨c,[],rfl,hc,rfl⟩)

def VCallZ(q:Nat→Prop)(w0:World)(P:Program)(f:FuncId)(args:List SV)(H:List SObj)(K:Out→List SObj→Prop):Prop:=
 ∀ (C:Cx) (vs:List Value),Wd C H→TabT C H→ZInv q w0 C H→SV.denL C args vs→Calls P f vs.toArray C.w fun e w'=>∃o H' C',K o H'∧C'.w=w'∧Wd C' H'∧Ext ⟨C,H⟩ C' H'∧outDen C' o e
def VCZ(q:Nat→Prop)(w0:World)(P:Program)(f:FuncId)(args:List SV)(H:List SObj)(K:Out→List SObj→Prop):Prop:=enters P f=true∧VCallZ q w0 P f args H K
theorem VCallZ.g{q:Nat→Prop}{w0:World}{f:FuncId}{args:List SV}{K:Out→List SObj→Prop}(h:VCallZ q w0 P f args H K): @VCallG (frzG q w0) P f args H K:=
 fun E C vs hw hg hv=>(h C vs hw hg.1.tab hg.2 hv).mono fun _ _ ⟨o,H',C',k,e,w,x,r⟩=>⟨o,H',C',k,e,w, @Stp.of (frzG q w0) E C C' H H' x,r⟩
theorem j3H{q:Nat→Prop}{w0:World}{f:FuncId}{fi:FI}{args:List SV}{K:Out→List SObj→Prop}(h:finfo P f=some fi)
 (hs: @SoundI (frzG q w0) P (retF P fi.results K) ⟨H.length,[.ic fi.code],args++List.replicate (fi.ntmps-args.length) .any,H⟩):VCZ q w0 P f args H K:=by
 obtain ⟨_,_,_,_,_,_,_,hen⟩:=z6G h;refine ⟨hen,fun C vs hw ht hg hv=> ?_⟩;refine (@z9X P H (frzG q w0) f fi args K ⟨⟨C,H⟩,[]⟩ C vs h rfl (by rw [hw.n];exact Af _) hw (Ext.refl _ _) ⟨ht.here,hg⟩ (fun _ _=>True) (fun _ _ ds _ _ h=>⟨[],h.1,C5,fun _ h=>by simp at h,trivial⟩) hv hs).mono ?_
 rintro e w' ⟨o,H',C',k1,k2,k3,k4,_,k5⟩;exact ⟨o,H',C',k1,k2,k3,k4,k5⟩
def PCZ(q:Nat→Prop)(w0:World)(P:Program)(f:FuncId)(args:List SV)(s:SV):Prop:=enters P f=true∧∀ (H:List SObj) (K:Out→List SObj→Prop),K (.ret s) H→VCallZ q w0 P f args H K
theorem ZInv.nil{q:Nat→Prop}{w0:World}{C:Cx}(h:ZInv q w0 C H):ZInv q w0 {C with n:=0} []:=fun b hb=>by
 obtain ⟨h1,h2,h3,h4⟩:=h b hb;exact ⟨h1,h2,fun ⟨i,o,ho,_⟩=>by simp at ho,h4⟩
theorem z3a{q:Nat→Prop}{w0:World}{f:FuncId}{args:List SV}{s:SV}(ha:SV.cleanL args=true)(hs:s.clean=true)(h:VCZ q w0 P f args [] (SealK s)):PCZ q w0 P f args s:=
 ⟨h.1,fun H K hk C vs hw ht hg hv=>q7h hs hw (q8q (C:={C with n:=0}) hw.nil (h.2 {C with n:=0} vs hw.nil (ht.nil rfl fun _ h=>h) hg.nil (q1n (C:=C) (C':={C with n:=0}) (Keeps.refl _ _) ha hv))) hk⟩
theorem callZ{q:Nat→Prop}{w0:World}{f:FuncId}{args:List SV}{s:SV}{d:Option Tmp}{m:IM}(hp:PCZ q w0 P f args s)(h: @SoundI (frzG q w0) P AQ {m with tmps:=putT m.tmps d s}): @CallI (frzG q w0) P AQ f args d m:=
 ⟨hp.1,(hp.2 _ _ h).g⟩

def Ty.flat:Ty→Bool
 |.slice _=>false
 |.prod a b=>a.flat&& b.flat
 |.arr _ t=>t.flat
 |.ptr _=>false
 |.clo _ _=>false
 |.clp _ _=>false
 |.mbs _=>false
 |_=>true
theorem Ty.rel_flat{I I':Nat→Prop}{w w':World}:∀ (t:Ty) (x:t.den) (vs:List Value),t.flat=true→t.rel I w x vs→t.rel I' w' x vs
 |.u8,_,_,_,h=>h
 |.int _,_,_,_,h=>h
 |.bool,_,_,_,h=>h
 |.str,_,_,_,h=>h
 |.slice t,_,_,hf,_=>by cases hf
 |.prod a b,x,vs,hf,h=>by
  obtain ⟨v1,v2,rfl,h1,h2⟩:=h;simp only [Ty.flat,Ai] at hf;exact ⟨v1,v2,rfl,a.rel_flat _ _ hf.1 h1,b.rel_flat _ _ hf.2 h2⟩
 |.unit,_,_,_,h=>h
 |.arr n t,xs,vs,hf,h=>by
  obtain ⟨hn,vss,rfl,hl,h⟩:=h;exact ⟨hn,vss,rfl,hl,fun i x us hx hu=>t.rel_flat _ _ hf (h i x us hx hu)⟩
 |.ptr t,_,_,hf,_=>by cases hf
 |.clo _ t,_,_,hf,_=>by cases hf
 |.clp _ t,_,_,hf,_=>by cases hf
 |.mbs t,_,_,hf,_=>by cases hf
def Cx.lend(C:Cx)(q:Nat→Prop):Cx:={C with I:=fun b=>C.I b∨q b,n:=0}
theorem z7M{q:Nat→Prop}{w0:World}{C:Cx}(hw:Wd C H)(hg:ZInv q w0 C H):Wd (C.lend q) [] where
 n:=rfl
 obj:=fun h o ho=>by simp at ho
 own:=fun b ⟨h,o,ho,_⟩=>by simp at ho
 inj:=fun h h' o o' b ho=>by simp at ho
 imm:=fun b hb=>hb.elim (hw.imm b) fun h=>(hg b h).1
theorem z3G{q:Nat→Prop}{w0:World}{C:Cx}(hg:ZInv q w0 C H){t:Ty}{x:t.den}{vs:List Value}(h:t.rel q w0 x vs):t.rel (C.lend q).I (C.lend q).w x vs:=
 Ty.rel_keep (fun b hb=>⟨.inr hb,(hg b hb).2.2.2⟩) _ _ _ h
def LendA(q:Nat→Prop)(w0:World)(args args':List SV):Prop:=∀ (C:Cx) (H:List SObj) (vs:List Value),ZInv q w0 C H→SV.denL C args vs→SV.denL (C.lend q) args' vs
theorem z4a{q:Nat→Prop}{w0:World}:LendA q w0 [] []:=fun _ _ _ _ h=>by rw [q0o] at h⊢;exact h
theorem j3t{q:Nat→Prop}{w0:World}{t:Ty}{xs:List t.den}{v:Value}{l l':List SV}(hv:Sl q w0 t xs v)(h:LendA q w0 l l'):LendA q w0 (.raw v :: l) (.isl t xs :: l'):=fun C H vs hg hd=>by
 obtain ⟨u,us,rfl,h1,h2⟩:=q0c.1 hd;rw [SV.den] at h1;subst h1;exact q0c.2 ⟨_,us,rfl,by rw [SV.den];exact z3G hg hv,h C H us hg h2⟩
theorem z9h{q:Nat→Prop}{w0:World}{t:Ty}{x:t.den}{ws:List Value}{l l':List SV}(hv:t.rel q w0 x ws)(h:LendA q w0 l l'):LendA q w0 (.agg (rawL ws) :: l) (.agg (t.cells x) :: l'):=fun C H vs hg hd=>by
 obtain ⟨u,us,rfl,h1,h2⟩:=q0c.1 hd;rw [SV.den] at h1;obtain ⟨ws',rfl,h1⟩:=h1;have:=q1h h1;subst this;exact q0c.2 ⟨_,us,rfl,by rw [SV.den];exact ⟨_,rfl,Ty.cells_den (C:=C.lend q) _ _ _ (z3G hg hv)⟩,h C H us hg h2⟩
theorem z7D{q:Nat→Prop}{w0:World}{s:SV}{l l':List SV}(hc:s.clean=true)(h:LendA q w0 l l'):LendA q w0 (s :: l) (s :: l'):=fun C H vs hg hd=>by
 obtain ⟨u,us,rfl,h1,h2⟩:=q0c.1 hd;exact q0c.2 ⟨_,us,rfl,q0C (C:=C) (C':=C.lend q) (fun b hb=>⟨.inl hb,rfl⟩) hc h1,h C H us hg h2⟩

theorem q9W{q:Nat→Prop}{w0:World}{C C1:Cx}{H1:List SObj}(hw:Wd C H)(hx:Ext ⟨C.lend q,[]⟩ C1 H1):
 Wd {C with w:=C1.w} H∧Ext ⟨C,H⟩ {C with w:=C1.w} H:=by
 have hold:∀b,b<C.w.heap.size→C1.w.heap[b]?=C.w.heap[b]?:=fun b hb=>hx.frame b hb (fun ⟨h,o,ho,_⟩=>by simp at ho)
 exact z4C hw hx.size hold hx.os hx.tape hx.output

theorem z8m{q:Nat→Prop}{w0:World}{C C':Cx}{ty:Ty}{xs:List ty.den}{n:Nat}{u:Value}(hf:ty.flat=true)(hw:Wd C H)(hw':Wd C' [.row ty xs])(hx:Ext ⟨C.lend q,[]⟩ C' [.row ty xs])(hd:(SV.bld 0 ty n).den C' u):
 ∃D:Cx,D.w=C'.w∧Wd D (H++ [.row ty xs])∧Ext ⟨C,H⟩ D (H++ [.row ty xs])∧(SV.bld H.length ty n).den D u:=by
 obtain ⟨g1,g2⟩:=q9W (q:=q) (w0:=w0) hw hx
 let A:Cx:={C with w:=C'.w}
 let D:Cx:={A with ρ:=fun h=>if h=C.n then C'.ρ 0 else C.ρ h,n:=C.n+1}
 have hown0:∀b,C'.ρ 0=some b→OwnB C' [.row ty xs] b:=fun b hb=>⟨0,_,rfl,rfl,hb⟩;have hnew:∀b,C'.ρ 0=some b→C.w.heap.size≤b:=fun b hb=>(hx.ownNew b (hown0 b hb)).elim id fun ⟨h,o,ho,_⟩=>by simp at ho
 have hev:Evo A D:=⟨Cs _,fun h hh=>by
  show (if h=C.n then _ else _)=_
  rw [if_neg (by have:h<C.n:=hh;omega)],Keeps.refl _ _,fun _ _ h=>h⟩
 have hn:C.n=H.length:=hw.n;have hDn:D.ρ H.length=C'.ρ 0:=by show (if H.length=C.n then _ else _)=_;rw [if_pos hn.symm]
 have hDo:∀h,h<H.length→D.ρ h=C.ρ h:=fun h hh=>by show (if h=C.n then _ else _)=_;rw [if_neg (by omega)]
 have hown:∀b,OwnB D (H++ [.row ty xs]) b→OwnB A H b∨C'.ρ 0=some b:=by
  rintro b ⟨h,x,hx',hlx,hb⟩;rcases q0k hx' with ⟨h1,h2⟩ | ⟨h1,h2⟩
  · exact .inl ⟨h,x,h2,hlx,(hDo h h1).symm.trans hb⟩
  subst h1;exact .inr (hDn.symm.trans hb)
 have hrow:objDen D H.length (.row ty xs):=by
  rcases hw'.obj 0 _ rfl with ⟨h1,h2⟩ | ⟨b,arr,T,fz,h1,h2,h3,h4,h5⟩
  · exact .inl ⟨hDn.trans h1,h2⟩
  refine .inr ⟨b,arr,T,fz,hDn.trans h1,h2,h3,h4,fun i x hx=> ?_⟩;obtain ⟨us,hu,hc⟩:=h5 i x hx;exact ⟨us,Ty.rel_flat _ _ _ hf hu,hc⟩
 have hwd:Wd D (H++ [.row ty xs]):=by
  refine ⟨by simp [D,hn],fun h o ho=> ?_,fun b hb=> ?_,fun i j o o' b ho ho' hl1 hl2 hb hb'=> ?_,g1.imm⟩
  · rcases q0k ho with ⟨h1,h2⟩ | ⟨h1,h2⟩
    · by_cases hlv:o.live=true
      · exact q0A hev.I h (hDo h h1) (fun _ _=>rfl) (q0d hev) (g1.obj h o h2)
      cases o<;>first|trivial|simp [SObj.live] at hlv
    subst h1 h2;exact hrow
  · rcases hown b hb with h1|h1
    · exact g1.own b h1
    exact ⟨fun hi=>absurd (hw.imm b hi) (by have:=hnew b h1;omega),(hw'.own b (hown0 b h1)).2⟩
  rcases q0k ho with ⟨h1,h2⟩ | ⟨h1,h2⟩ <;>rcases q0k ho' with ⟨h1',h2'⟩ | ⟨h1',h2'⟩
  · rw [hDo i h1] at hb;rw [hDo j h1'] at hb';exact g1.inj i j o o' b h2 h2' hl1 hl2 hb hb'
  · exfalso;rw [hDo i h1] at hb;rw [h1',hDn] at hb';have:=(hw.own b ⟨i,o,h2,hl1,hb⟩).2;have:=hnew b hb';omega
  · exfalso;rw [hDo j h1'] at hb';rw [h1,hDn] at hb;have:=(hw.own b ⟨j,o',h2',hl2,hb'⟩).2;have:=hnew b hb;omega
  omega
 have hext:Ext ⟨C,H⟩ D (H++ [.row ty xs]):=
  ⟨g2.evo.trans hev,g2.size,g2.os,g2.tape,g2.output,g2.frame,g2.immNew,fun b hb=>(hown b hb).elim (fun h1=>g2.ownNew b h1) fun h1=>.inl (hnew b h1),fun m h0 hm=>q2k (g2.keep0 m h0 hm)⟩
 refine ⟨D,rfl,hwd,hext,?_⟩;rw [SV.den] at hd⊢;refine ⟨by show H.length<C.n+1;omega,orMap hd.2 (fun ⟨h1,h2⟩=>⟨hDn.trans h1,h2⟩) fun ⟨b,c,mm,h1,h2⟩=>⟨b,c,mm,hDn.trans h1,h2⟩⟩

theorem runZ{q:Nat→Prop}{w0:World}{f:FuncId}{fi:FI}{args:List SV}{K:Out→List SObj→Prop}{r:Prop}(hm:P.follows .mixedOrders=true)(hf:finfo P f=some fi)(h:r)
 (e: @run (frzG q w0) P (retF P fi.results K) 600 ⟨H.length,[.ic fi.code],args++List.replicate (fi.ntmps-args.length) .any,H⟩=r:=by (simp (maxSteps:=3000000) only [go_sem,↓zA,↓reduceIte,↓reduceDIte];(try simp only [zB]);rfl)):VCZ q w0 P f args H K:=j3H hf (@q0v (frzG q w0) P _ hm 600 _ (Eq.mpr e h))
def RowK(ty:Ty)(xs:List ty.den):Out→List SObj→Prop:=fun o H'=>(xs= []∧o= .ret (.raw (.slice none 0 0))∧H'= [])∨(o= .ret (.bld 0 ty xs.length)∧H'= [.row ty xs])
theorem z8V{ty:Ty}{xs:List ty.den}{H':List SObj}(h:xs= []):Weak 0 (RowK ty xs) (.ret (.raw (.slice none 0 0))) H':=
 ⟨fun h=>h,.raw (.slice none 0 0),.raw (.slice none 0 0),[],⟨⟨rfl,trivial⟩,trivial,rfl,rfl,rfl,rfl,Af _,fun _ h0=>absurd h0 (BR 0)⟩,.inl (.inl rfl),.inl ⟨h,rfl,rfl⟩⟩
theorem z9a{ty:Ty}{xs:List ty.den}{H':List SObj}{h n:Nat}(hH:H'[h]?=some (.row ty xs))(hn:n=xs.length):Weak 0 (RowK ty xs) (.ret (.bld h ty n)) H':=by
 subst hn;exact ⟨fun _=>h,.bld 0 ty xs.length,.bld 0 ty xs.length,[.row ty xs],⟨⟨rfl,trivial⟩,⟨hH,trivial⟩,rfl,rfl,rfl,rfl,Al _,fun _ h0=>absurd h0 (BR 0)⟩,.inl (.inl rfl),.inr ⟨rfl,rfl⟩⟩
theorem z4X{q:Nat→Prop}{w0:World}{f:FuncId}{args args':List SV}{ty:Ty}{xs:List ty.den}{d:Option Tmp}{m:IM}(hf:ty.flat=true)(hp:VC P f args' [] (RowK ty xs))(hl:LendA q w0 args args')
 (h0:xs= []→ @SoundI (frzG q w0) P AQ {m with tmps:=putT m.tmps d (.raw (.slice none 0 0))})
 (h: @SoundI (frzG q w0) P AQ {m with tmps:=putT m.tmps d (.bld m.heap.length ty xs.length),heap:=m.heap++ [.row ty xs]}): @CallI (frzG q w0) P AQ f args d m:=by
 refine ⟨hp.1,fun E C vs hw hg0 hv=> ?_⟩;have ht:TabT C m.heap:=hg0.1.tab;have hg:ZInv q w0 C m.heap:=hg0.2;refine (hp.2 (C.lend q) vs (z7M hw hg) (ht.nil rfl fun b hb=>.inl hb) (hl C _ vs hg hv)).mono ?_;rintro e w' ⟨o,H',C',hk,rfl,hw',hx,hd⟩;rcases hk with ⟨rfl,rfl,rfl⟩ | ⟨rfl,rfl⟩
 · obtain ⟨u,rfl,hd⟩:=hd;rw [SV.den] at hd;subst hd;obtain ⟨g1,g2⟩:=q9W (q:=q) (w0:=w0) hw hx;exact ⟨.ret (.raw (.slice none 0 0)),m.heap,{C with w:=C'.w},h0 rfl,rfl,g1, @Stp.of (frzG q w0) E C {C with w:=C'.w} m.heap m.heap g2,_,rfl,by rw [SV.den]⟩
 obtain ⟨u,rfl,hd⟩:=hd;obtain ⟨D,k1,k2,k3,k4⟩:=z8m (q:=q) (w0:=w0) hf hw hw' hx hd;exact ⟨.ret (.bld m.heap.length ty xs.length),m.heap++ [SObj.row ty xs],D,h,k1,k2, @Stp.of (frzG q w0) E C D m.heap _ k3,u,rfl,k4⟩
theorem Ty.cells_rel{C:Cx}:∀ (t:Ty) (x:t.den) (vs:List Value),t.known=true→t.ok x→SV.denL C (t.cells x) vs→t.rel C.I C.w x vs
 |.u8,_,_,_,_,h=>by simp only [Ty.cells,SV.denL,SV.den] at h;obtain ⟨v,us,rfl,rfl,rfl⟩:=h;rfl
 |.int _,_,_,_,_,h=>by simp only [Ty.cells,SV.denL,SV.den] at h;obtain ⟨v,us,rfl,rfl,rfl⟩:=h;rfl
 |.bool,_,_,_,_,h=>by simp only [Ty.cells,SV.denL,SV.den] at h;obtain ⟨v,us,rfl,rfl,rfl⟩:=h;rfl
 |.str,_,_,_,ho,h=>by simp only [Ty.cells,SV.denL,SV.den] at h;obtain ⟨v,us,rfl,rfl,rfl⟩:=h;exact ⟨rfl,ho⟩
 |.slice t,_,_,_,_,h=>by simp only [Ty.cells,SV.denL,SV.den] at h;obtain ⟨v,us,rfl,h,rfl⟩:=h;exact h
 |.prod a b,x,vs,hk,ho,h=>by
  simp only [Ty.known,Ai] at hk;obtain ⟨v1,v2,rfl,h1,h2⟩:=q0u.1 h;exact ⟨v1,v2,rfl,a.cells_rel _ _ hk.1 ho.1 h1,b.cells_rel _ _ hk.2 ho.2 h2⟩
 |.unit,_,_,_,_,h=>by simpa [Ty.cells,SV.denL,Ty.rel] using h
 |.arr n t,xs,vs,hk,ho,h=>by
  replace hk:t.known=true:=hk;obtain ⟨hn,ho⟩:=ho;refine ⟨hn,?_⟩;simp only [Ty.cells] at h;rw [←hn] at h;clear hn;have key:∀ (ys:List t.den) (vs:List Value),(∀x∈ys,t.ok x)→SV.denL C ((List.range ys.length).flatMap fun i=>t.cells (ys.getD i t.dflt)) vs→∃vss:List (List Value),vs=vss.flatten∧vss.length=ys.length∧∀ (i:Nat) x us,ys[i]?=some x→vss[i]?=some us→t.rel C.I C.w x us:=by
   intro ys;induction ys with
   |nil=>intro vs _ h;exact ⟨[],by simpa [q0o] using h,rfl,fun i x us hx=>by simp at hx⟩
   |cons y ys ih=>
    intro vs ho h;rw [AC,BW,BZ,List.flatMap_map] at h;obtain ⟨v1,v2,rfl,h1,h2⟩:=q0u.1 h;obtain ⟨vss,rfl,hl,hr⟩:=ih v2 (fun x hx=>ho x (AS _ hx)) h2;refine ⟨v1 :: vss,rfl,by simp [hl],fun i x us hx hu=> ?_⟩
    cases i with
    |zero=>simp at hx hu;subst hx hu;exact t.cells_rel _ _ hk (ho _ (BK ..)) h1
    |succ i=>exact hr i x us (by simpa using hx) (by simpa using hu)
  exact key xs vs ho h
 |.ptr t,x,vs,_,ho,h=>by
  cases x with
  |none=>
   simp only [Ty.cells,SV.denL,SV.den] at h;obtain ⟨v,us,rfl,rfl,rfl⟩:=h;exact .inl ⟨rfl,rfl⟩
  |some x=>
   simp only [Ty.cells,SV.denL,SV.den] at h;obtain ⟨v,us,rfl,⟨b,off,ws,rfl,hI,hr,hc⟩,rfl⟩:=h;exact .inr ⟨x,b,off,ws,rfl,by rw [AK],hI,hr,hc⟩
 |.clo f t,x,vs,hk,ho,h=>by
  simp only [Ty.cells,SV.denL,SV.den] at h;obtain ⟨v,us,rfl,⟨v1,v2,rfl,⟨u,ws,rfl,⟨zs,rfl,hz⟩,rfl⟩,rfl⟩,rfl⟩:=h;exact ⟨zs,rfl,t.cells_rel _ _ hk ho hz⟩
 |.clp f t,x,vs,hk,ho,h=>by
  simp only [Ty.cells,SV.denL,SV.den] at h;obtain ⟨v,us,rfl,⟨v1,v2,rfl,rfl,⟨u,ws,rfl,⟨b,off,zs,rfl,hI,hr,hc⟩,rfl⟩⟩,rfl⟩:=h;exact ⟨b,off,zs,by rw [AK],hI,hr,hc⟩
 |.mbs _,_,_,hk,_,_=>by cases hk

end Go.Sx
namespace Go.Sx
open Go
variable {P:Program} {AQ:Ex→List SV→List SObj→Prop} {k0:Nat} {k:List IT} {t:List SV} {H:List SObj}

theorem q3I[Ghost](d h:Nat){T:TypeId}{ty:Ty}{x:ty.den}{td:List IT}(hp:plainT td=true)(hok:ty.ok x)(hH:H[h]?=some (.cells T (ty.cells x)))(hd:t[d]?=some (.ptr h 0))(hs:SoundI P AQ ⟨k0,td,t.set d (.iptr ty x 0),H.set h .dead⟩)(hkn:ty.known=true:=by rfl):
 SoundI P AQ ⟨k0,td,t,H⟩:=q0e (fun td' hr E r n C a h0 hden=>by
 have h1:=q0f hs hr;obtain ⟨b,vs,hb,hcell,hvs⟩:=hden.wd.obj h _ hH;have hown:OwnB C H b:=⟨h,_,hH,rfl,hb⟩;obtain ⟨hnI,hlt⟩:=hden.wd.own b hown;have hoff:∀b',OwnB C (H.set h .dead) b'→OwnB C H b'∧b'≠b:=by
  rintro b' ⟨i,o,ho,hl,hb'⟩;by_cases e:h=i
  · subst e;rw [As (Aa.1 hH).1] at ho;cases ho;simp [SObj.live] at hl
  rw [Ao e] at ho;refine ⟨⟨i,o,ho,hl,hb'⟩,fun e'=> ?_⟩;subst e';exact e (hden.wd.inj h i _ o b' hH ho rfl hl hb hb')
 let C':Cx:={C with I:=fun b'=>C.I b'∨b'=b}
 have he:Evo C C':=⟨Af _,fun _ _=>rfl,fun b' hb'=>⟨.inl hb',rfl⟩,fun _ _ hm=>hm⟩;have hw:Wd C' (H.set h .dead):=by
  refine ⟨by simp [C',hden.wd.n],fun i o ho=> ?_,fun b' hb'=> ?_,fun i i' o o' b' h1 h2 h3 h4 h5 h6=> ?_,fun b' hb'=> ?_⟩
  · by_cases e:h=i
    · subst e;rw [As (Aa.1 hH).1] at ho;cases ho;trivial
    rw [Ao e] at ho;exact q0A he.I i rfl (fun _ _=>rfl) (q0d he) (hden.wd.obj i o ho)
  · obtain ⟨g1,g2⟩:=hoff b' hb';have:=hden.wd.own b' g1;exact ⟨fun hi=>hi.elim this.1 g2,this.2⟩
  · have key:∀ {i:Nat} {o:SObj},(H.set h .dead)[i]?=some o→o.live=true→H[i]?=some o:=fun {i o} ho hl=>by
     by_cases e:h=i
     · subst e;rw [As (Aa.1 hH).1] at ho;cases ho;simp [SObj.live] at hl
     rwa [Ao e] at ho
    exact hden.wd.inj i i' o o' b' (key h1 h3) (key h2 h4) h3 h4 h5 h6
  exact hb'.elim (hden.wd.imm b') fun e=>e▸hlt
 have hmk:∀n,H[0]?=some (.mark n)→(H.set h .dead)[0]?=some (.mark n):=fun n hn=>q3M hH rfl hn;have hx:Ext E.toEn C' (H.set h .dead):=by
  refine ⟨hden.ext.evo.trans he,hden.ext.size,hden.ext.os,hden.ext.tape,hden.ext.output,hden.ext.frame,fun b' hb'=> ?_,fun b' hb'=>hden.ext.ownNew b' (hoff b' hb').1,fun n h0 hn=>hmk n (hden.ext.keep0 n h0 hn)⟩;rcases hb' with hb'|rfl
  · exact hden.ext.immNew b' hb'
  exact .inr ⟨hden.ext.ownNew b' hown,q4u (C:=C) hden.wd hown⟩
 have hg:Ghost.inv E C' (H.set h .dead):=Ghost.same (C:=C) (C':=C') hden.wd rfl (fun b' hb'=>.inl hb') (fun b' (hb':C.I b'∨b'=b)=>hb'.elim .inl fun e=>.inr (by subst e;exact hown)) (fun b' hb'=>(hoff b' hb').1) (fun n _ hn=>hmk n hn) hden.ext.evo.n hden.defs.2
 refine h1 E r n C' a h0 ⟨hw,hx,⟨hden.defs.1,hg⟩,?_⟩;have ht:=q0d he hden.tmps;obtain ⟨v,hv,hdv⟩:=q1X ht hd;rw [SV.den] at hdv;obtain ⟨_,b',hb',rfl⟩:=hdv;have e:b'=b:=by have:C.ρ h=some b':=hb';rw [hb] at this;exact (Option.some.inj this).symm
 subst e;have hi:(SV.iptr ty x 0).den C' (.pointer (some ⟨b',0,none⟩)):=by
  rw [SV.den];exact ⟨b',0,vs,rfl,.inr rfl,ty.cells_rel _ _ hkn hok (q0d he hvs),fun j u hj=>by rw [Ac];show C.w.cell? _=_;rw [q0g hcell];exact hj⟩
 have h9:=q1W (i:=d) ht hi;have e9:a.tmps.toList.set d (.pointer (some ⟨b',0,none⟩))=a.tmps.toList:=by
  apply Bd;intro j;by_cases ej:d=j
  · subst ej;rw [As (Aa.1 hv).1,hv]
  rw [Ao ej]
 rwa [e9] at h9) hp
end Go.Sx
namespace Go.Sx
open Go

variable {P:Program} {AQ:Ex→List SV→List SObj→Prop} {k0:Nat} {k:List IT} {t:List SV} {H:List SObj}

end Go.Sx
namespace Go.Proofs.YtmapiojgmbgbgaaGreatDoor
open Go Go.Sx Go.Proofs
set_option maxRecDepth 100000
set_option maxHeartbeats 4000000
def mIn(lo hi v:Int):Bool:=decide (lo≤v) && decide (v≤hi)
def vTime(t:Int):Bool:=mIn 0 1099511627776 t
def ErrP{α:Type}(p:PR α):Prop:=∀r e,p r= .error e→e≠0
theorem q5K{α:Type}{tag:UInt8}{dec:List UInt8→Option α}:ErrP (rdP tag dec):=fun _ _ h=>q6d h
theorem z2r{α:Type}{tag:UInt8}{p:PR α}(hp:ErrP p):ErrP (inP tag p):=fun r e h=>by
 rcases q3C (tag:=tag) (p:=p) (r:=r) with ⟨h1,e'⟩ | ⟨_,e1,h2,e'⟩ | ⟨_,_,_,_,_,e'⟩ | ⟨_,_,_,_,_,e'⟩ <;>rw [e'] at h<;>cases h
 · exact h1
 · exact hp _ _ h2
 decide
theorem q3H{α:Type}{n:Nat}{p:PR α}(hp:ErrP p):ErrP (needP n p):=fun r e h=>by
 cases hb:nextB n r with
 |false=>
  rw [q4C hb] at h;split at h<;>cases h<;>decide
 |true=>rw [q5c hb] at h;exact z2r hp r e h
theorem q2X{α β:Type}{p:PR α}{f:α→PR β}(hp:ErrP p)(hf:∀v,ErrP (f v)):ErrP (bindP p f):=fun r e h=>by
 unfold bindP at h;cases h1:p r with
 |error e1=>rw [h1] at h;cases h;exact hp r _ h1
 |ok y=>
  obtain ⟨u,k⟩:=y;rw [h1] at h;simp only at h;cases h2:f u (r.drop k) with
  |error e2=>rw [h2] at h;cases h;exact hf u _ _ h2
  |ok z=>obtain ⟨w,l⟩:=z;rw [h2] at h;cases h
theorem z2F{α:Type}{v:α}:ErrP (retP v):=fun _ _ h=>by cases h
theorem z7F:ErrP keyP:=z2r (q2X (q3H q5K) fun _=>q2X (q3H q5K) fun _=>q2X (q3H q5K) fun _=>z2F)
def EffR(P:Program){α:Type}(f:FuncId)(args:List SV)(b:List UInt8)(n:Nat)(res:α→SV)(z:SV):Except Nat (α×Nat)→Prop
 |.ok (v,k)=>PE P f args [rdr b n] (.ret (.tup [res v,rI 0])) [rdr b (n+k)]
 |.error e=>PE P f args [rdr b n] (.ret (.tup [z,rI e])) [rdr b n]
theorem q7j{P:Program}{α:Type}{f:FuncId}{args:List SV}{b:List UInt8}{n:Nat}{res:α→SV}{z:SV}{x:Except Nat (α×Nat)}{v:α}{k:Nat}(h:EffR P f args b n res z x)(hx:x= .ok (v,k)):PE P f args [rdr b n] (.ret (.tup [res v,rI 0])) [rdr b (n+k)]:=by rw [hx] at h;exact h
theorem q6W{P:Program}{α:Type}{f:FuncId}{args:List SV}{b:List UInt8}{n:Nat}{res:α→SV}{z:SV}{x:Except Nat (α×Nat)}{e:Nat}(h:EffR P f args b n res z x)(hx:x= .error e):PE P f args [rdr b n] (.ret (.tup [z,rI e])) [rdr b n]:=by rw [hx] at h;exact h
abbrev zKey:SV:=.agg [rI 0,rI 0,.isl .u8 []]
def FR(i:Nat)(b:List UInt8)(n:Nat):Except Nat (List UInt8×Nat)→Prop
 |.ok (l,k)=>PE Tryz.prog 180 [.ptr 0 0,rI i,.fn 163 [] []] [rdr b n] (.ret (.ptr 2 0)) [rdr b (n+k),.dead,rdr l 0]
 |.error e=>PE Tryz.prog 180 [.ptr 0 0,rI i,.fn 163 [] []] [rdr b n] (.pan (errV e)) [.dead]
theorem j3i(i:Nat)(hi:i≤30)(b:List UInt8)(n:Nat)(hn:n≤b.length)(hb:b.length≤1099511627776):FR i b n (needP i (rdP 48 decOct) (b.drop n)):=by
 cases h:nextB i (b.drop n) with
 |false=>
  rw [q4C h,Ak];have hs:=q5O i hi b n hn h;have hl:=q2z b n hn;generalize b.length-n=q at*;refine q0b (by simp) ?_
  refine rQ fi180 ?_;refine eQ [0] (hs) ?_;refine eQ [0] (hl) ?_;by_cases hq:q=0
  · simp [hq]
  simp [hq]
 |true=>
  rw [q5c h];by_cases h1:takeE (tagB i) (b.drop n)=0
  · rw [z4P h1];have hs:=q4i i hi b n hn hb h h1;have hc:=q1r (n:=n) hb;generalize takeC (b.drop n)=c at*;generalize takeN (b.drop n)=N at*;by_cases h2:takeE 48 c=0
    · have hx:rdP 48 decOct c= .ok (takeC c,takeN c):=by unfold rdP;rw [if_pos h2];rfl
      rw [hx];have hr:=q5m c 0 (Al _) hc (by rw [Ar];exact h2)
      rw [Ar,Ac] at hr;have hm:=q6i h2;generalize takeC c=l at*;generalize takeN c=m at*;have hl:=q2z c m hm;simp only [closeP];by_cases hml:m<c.length
      · rw [if_pos hml];refine q0b (by simp) ?_
        refine rQ fi180 ?_;refine eQ [0] (hs) ?_;refine eQ [1] (hr) ?_;refine eQ [2] (q6V l 0) ?_;refine eQ [1] (hl) ?_;exact ⟨fun _=>rfl,fun q=>absurd (by omega) q⟩
      rw [if_neg hml];refine q0b (by simp) ?_
      refine rQ fi180 ?_;refine eQ [0] (hs) ?_;refine eQ [1] (hr) ?_;refine eQ [2] (q6V l 0) ?_;refine eQ [1] (hl) ?_;exact ⟨fun q=>absurd q (by omega),fun _=>trivial⟩
    have hx:rdP 48 decOct c= .error (takeE 48 c):=by unfold rdP;rw [if_neg h2]
    rw [hx];have hr:=q9Q c 0 (Al _) hc (by rw [Ar];exact h2)
    rw [Ar] at hr;generalize takeE 48 c=e at*;refine q0b (by simp) ?_
    refine rQ fi180 ?_;refine eQ [0] (hs) ?_;refine eQ [1] (hr) ?_;refine effP [] (q5X e h2) ?_;trivial
  rw [z4V h1];have hs:=q7g i hi b n hn hb h h1;generalize takeE (tagB i) (b.drop n)=e at*;refine q0b (by simp) ?_
  refine rQ fi180 ?_;refine eQ [0] (hs) ?_;exact ⟨fun _=>trivial,fun q=>absurd (by omega) h1⟩
theorem z5N(b:List UInt8)(n:Nat):PE Tryz.prog 177 [.ptr 0 0] [rdr b n] (.ret (.ptr 1 0)) [rdr b n,rdr b n]:=by
 refine q0b (by simp) ?_
 refine rQ fi177 ?_;trivial
theorem q5q(b:List UInt8)(n m e:Nat)(T2 T3 T4 T5:TypeId)(x y:SV)(z:Value)(R:List SObj)(K:List SObj→Prop)
 (h:K ([rdr b n,.cells T2 [.ptr 0 0],.cells T3 [.raw (.slice none 0 0),rS ⟨#[]⟩],.cells T4 [rI e],rdr b n,.cells T5 [.ptr 4 0]]++R)):
 DCall Tryz.prog 178 [.ptr 5 0,.ptr 1 0,.ptr 2 0,.ptr 3 0] (some (errV e)) ([rdr b m,.cells T2 [.ptr 0 0],.cells T3 [x,y],.cells T4 [.raw z],rdr b n,.cells T5 [.ptr 4 0]]++R) K:=by
 refine j1w fi178 ?_;refine uQ 13 _ ?_;with_reducible refine sxaE ?_
 refine q2D [1,4,5] mixed ?_;refine aQ ?_;exact h
abbrev zPrin:SV:=.agg [.isl .str [],rS ⟨#[]⟩]
def rO{α:Type}(res:α→SV)(z:SV):Except Nat (α×Nat)→Out
 |.ok (v,_)=>.ret (.tup [res v,rI 0])
 |.error e=>.ret (.tup [z,rI e])
def rH{α:Type}(b:List UInt8)(n:Nat):Except Nat (α×Nat)→List SObj
 |.ok (_,k)=>[rdr b (n+k)]
 |.error _=>[rdr b n]
attribute [go_sem] rO rH
theorem j2T{P:Program}{α:Type}{f:FuncId}{args:List SV}{b:List UInt8}{n:Nat}{res:α→SV}{z:SV}{x:Except Nat (α×Nat)}(h:VC P f args [rdr b n] (SealO (rO res z x) (rH b n x))):EffR P f args b n res z x:=by
 cases x with
 |error e=>exact q0b (by simp [rH]) h
 |ok y=>exact q0b (by simp [rH]) h
theorem j2K(b:List UInt8)(n:Nat)(hn:n≤b.length)(hb:b.length≤1099511627776)(h:takeE 48 (b.drop n)≠0):
 EffR Tryz.prog 128 [.ptr 0 0] b n (fun p:Prin=>.agg (PrinT.cells p)) zPrin (nameP (b.drop n)):=by
 have hs:=q9Q b n hn hb h;have he:nameP (b.drop n)= .error (takeE 48 (b.drop n)):=by unfold nameP;rw [z4V h];rfl
 rw [he];clear he;generalize takeE 48 (b.drop n)=e at*;refine q0b (by simp) ?_
 refine defE mixed fi128 ?_;refine eQ [0] (z5N b n) ?_;refine gQ ?_;refine eQ [0] (hs) ?_;refine effP [] (q5X e h) ?_;refine ⟨by simp,q5q b n n e _ _ _ _ _ _ _ [] _ ?_⟩
 with_reducible refine sxE ?_;trivial
theorem z9I{β:Type}{l r:List UInt8}{f:List ByteArray→PR β}{e:Nat}(h:listP strP l.length l= .error e):bindP (strsP l) f r= .error e:=by unfold bindP strsP atP;rw [h]
theorem z9E{β:Type}{l r:List UInt8}{f:List ByteArray→PR β}{xs:List ByteArray}{m:Nat}(h:listP strP l.length l= .ok (xs,m)):bindP (strsP l) f r=shiftP 0 (f xs r):=by
 unfold bindP strsP atP;rw [h];simp only [Ar];cases f xs r with
 |error e=>rfl
 |ok y=>rfl
theorem j0c{α:Type}{j k:Nat}{x:Except Nat (α×Nat)}:shiftP j (shiftP k x)=shiftP (j+k) x:=by
 cases x with
 |error e=>rfl
 |ok y=>obtain ⟨u,m⟩:=y;simp only [shiftP,Nat.add_assoc]
theorem j1g(H:List SObj)(K:List SObj→Prop)(h:∀G,K (H++G)):DCall Tryz.prog 178 [.ptr 5 0,.ptr 1 0,.ptr 2 0,.ptr 3 0] none H K:=by
 refine recE mixed fi178 ?_;simpa using h []
theorem j2A(b:List UInt8)(n:Nat)(hn:n≤b.length)(hb:b.length≤1099511627776)(h:takeE 48 (b.drop n)=0):
 EffR Tryz.prog 128 [.ptr 0 0] b n (fun p:Prin=>.agg (PrinT.cells p)) zPrin (nameP (b.drop n)):=by
 have hs:=q5m b n hn hb h;have hc:=q1r (n:=n) hb;have he:nameP (b.drop n)=chkP vPrin (closeP (takeC (b.drop n)).length (takeN (b.drop n)) (nameIn (takeC (b.drop n)))):=by unfold nameP;rw [z4P h]
 generalize nameP (b.drop n)=Y at*;generalize takeC (b.drop n)=c at*;generalize takeN (b.drop n)=N at*;refine j2T ?_;unfold nameIn at he;have f0:=j3i 0 (by omega) c 0 (Al _) hc
 rw [Ar] at f0;refine defE mixed fi128 ?_;refine eQ [0] (z5N b n) ?_;refine gQ ?_;refine eQ [0] (hs) ?_;refine eQ [6] (q6V c 0) ?_;cases h1:needP 0 (rdP 48 decOct) c with
 |error e=>
  rw [q3P h1] at he;subst he;rw [h1] at f0;have f0':PE Tryz.prog 180 [.ptr 0 0,rI (0:Nat),.fn 163 [] []] [rdr c 0] (.pan (errV e)) [.dead]:=f0;simp only [closeP,chkP];refine effP [6] (f0') ?_;refine ⟨by simp,q5q b n _ e _ _ _ _ _ _ _ [_] _ ?_⟩
  with_reducible refine sxE ?_;trivial
 |ok x=>
  obtain ⟨l,k⟩:=x;rw [z3v h1] at he;have hk:=q0D _ _ _ h1;rw [h1] at f0;have f0':PE Tryz.prog 180 [.ptr 0 0,rI (0:Nat),.fn 163 [] []] [rdr c 0] (.ret (.ptr 2 0)) [rdr c (0+k),.dead,rdr l 0]:=f0;rw [Ac] at f0';refine eQ [6] (f0') ?_;have hlb:l.length≤1099511627776:=(q3d (z6n (Q:=fun v:List UInt8=>v.length≤1099511627776) fun c v hc hd=>by unfold decOct at hd;cases hd;exact hc)) c l k hc h1
  generalize hX:listP strP l.length l=X;refine q3Y 2 0 .str rfl rfl rfl ?_;with_reducible refine sxE ?_
  refine q0x (ι:=Nat×List ByteArray×List SObj) (fun s=>[]) (fun s=>[rdr b (n+N),.cells 94 [.ptr 0 0],.cells 24 [.bld (s.2.2.length+9) .str s.2.1.length,rS ⟨#[]⟩],.cells 36 [rI 0],rdr b n,.cells 94 [.ptr 4 0],rdr c k,.dead,rdr l s.1]++s.2.2++ [.row .str s.2.1]) (fun s=>l.length-s.1) (fun s=>s.2.1.length≤s.1∧s.1≤l.length∧(∀x∈s.2.1,x.size≤1099511627776)∧X=tailP s.2.1 s.1 (listP strP (l.length-s.2.1.length) (l.drop s.1))) (0,[],[]) ⟨Af _,Al _,by simp,?_⟩ rfl ?_ ?_
  · rw [Ar,BG,Nat.sub_zero,q9x];exact hX.symm
  · with_reducible refine sxE ?_;trivial
  rintro ⟨m,xs,G⟩ ⟨i1,i2,i4,i3⟩;dsimp only at i1 i2 i3 i4;have hleft:=q2z l m i2;refine aQ ?_;refine q0H [8] hleft rfl (by decide) ⟨rfl,rfl,trivial⟩ rfl rfl ?_
  simp only [afterO,Out.ren,SV.ren,mgA,sig,SObj.ren,SV.renL,Ay,Au,List.append_assoc,Bx,By,List.set,List.map,Aj];refine uQ 5 _ ?_;with_reducible refine sxaE ?_
  refine ⟨fun hp0=> ?_,fun hp0=> ?_⟩
  · have hml:m<l.length:=by omega
    refine j2D [2] mixed ?_;refine aQ ?_;cases hp:strP (l.drop m) with
    |error e=>
     have hr:=z6f l m i2 hlb hp;have hXe:=i3.trans (q6E hml (by omega) hp)
     rw [z9I (hX.trans hXe)] at he;subst he;simp only [shiftP,closeP,chkP];refine q0F [8] hr rfl (by decide) ⟨rfl,rfl,trivial⟩ rfl rfl ?_ ?_
     · simp (maxSteps:=3000000) only [mgA,sig,q1o,q1y,List.append_assoc,getA,getA0,setA,setA0,Ae,Nat.add_assoc,go_sem,↓zA,↓reduceIte,↓reduceDIte] <;>try simp only [zB]
     refine rnE ?_;refine aQ ?_;refine q0F [] (q5V (.string ⟨#[]⟩) e (q6d hp)) rfl (by decide) trivial rfl rfl ?_ ?_
     · simp (maxSteps:=3000000) only [mgA,sig,q1o,q1y,List.append_assoc,getA,getA0,setA,setA0,Ae,Nat.add_assoc,go_sem,↓zA,↓reduceIte,↓reduceDIte] <;>try simp only [zB]
     refine rnE ?_;refine j3E ?_;with_reducible refine sxaE ?_
     refine ⟨by simp,?_⟩
     have hpan:=fun K hK=>q5q b n (n+N) e 94 24 36 94 (.bld (G.length+9) .str xs.length) (rS ⟨#[]⟩) (.int .i64 0) ([rdr c k,.dead,rdr l m]++G++ [.row .str xs]) K hK;simp only [Ay,Au,List.append_assoc] at hpan;refine hpan _ ?_;with_reducible refine sxaE ?_;trivial
    |ok y=>
     obtain ⟨v,q⟩:=y;have hr:=z5q l m i2 hlb hp;have hfit:=j0C hp;have hq2:=z5j (q5W hp).1;have hq:2≤q:=by rw [(q5W hp).2.2];exact hq2
     have hvs:=z5E (l.drop m) v q (by rw [Ak];omega) hp
     rw [Ak] at hfit;have hXs:=i3.trans (q5v hml (by omega) hp)
     refine q0F [8] hr rfl (by decide) ⟨rfl,rfl,trivial⟩ rfl rfl ?_ ?_
     · simp (maxSteps:=3000000) only [mgA,sig,q1o,q1y,List.append_assoc,getA,getA0,setA,setA0,Ae,Nat.add_assoc,go_sem,↓zA,↓reduceIte,↓reduceDIte] <;>try simp only [zB]
     refine rnE ?_;refine aQ ?_;refine q0l (q6N _) ?_;refine aQ ?_;refine ⟨by show v.size≤_;omega,⟨by omega,by omega⟩,j4d ?_⟩
     refine aQ ?_;refine ⟨(m+q,xs++ [v],G++ [.dead,.row .str [v]]),⟨by simp;omega,by dsimp only;omega,fun x hx=> ?_,?_⟩,by dsimp only;omega,?_,?_⟩
     · rcases BY.1 hx with hx|hx
       · exact i4 x hx
       rw [Cp] at hx;subst hx;exact hvs
     · dsimp only;rw [hXs,Ae,Bo,Nat.sub_sub]
     · simp
     with_reducible refine sxaE ?_;trivial
  have hXe:=i3.trans (q7C (by omega))
  rw [z9E (hX.trans hXe),j0c,AK] at he;clear hX hXe i3;refine z4n (ty:=.str) (xs:=xs) [rdr b (n+N),.cells 94 [.ptr 0 0],.cells 24 [.bld (G.length+9) .str xs.length,rS ⟨#[]⟩],.cells 36 [rI 0],rdr b n,.cells 94 [.ptr 4 0],rdr c k,.dead,rdr l m] [rdr b (n+N),.cells 94 [.ptr 0 0],.cells 24 [.bld 9 .str xs.length,rS ⟨#[]⟩],.cells 36 [rI 0],rdr b n,.cells 94 [.ptr 4 0],rdr c k,.dead,rdr l m] G rfl (by simp) (by simp) ?_ (by rfl) ?_ ?_ ?_
  · simp [SObj.ren,SV.ren,SV.renL,shift,Bl]
  · rfl
  · with_reducible refine sxE ?_;trivial
  with_reducible refine sxE ?_
  have hxs:xs.length≤1099511627776:=by omega
  refine q1u 9 rfl rfl (by omega) ?_ ?_ ?_
  · with_reducible refine sxE ?_
    exact Af _
  · with_reducible refine sxE ?_;trivial
  with_reducible refine sxE ?_
  rw [Ah (Af _)];have hf1:=j3A 1 (by omega) c k hk hc
  cases h2:needP 1 strP (c.drop k) with
  |error e=>
   rw [q3P h2] at he;subst he;have hf1':=q9w hf1 h2;simp only [shiftP,closeP,chkP];refine gQ ?_;refine effP [6] (hf1') ?_;refine ⟨by simp,?_⟩
   have hpan:=fun K hK=>q5q b n (n+N) e 94 24 36 94 (.isl .str xs) (rS ⟨#[]⟩) (.int .i64 0) [.dead,.dead,rdr l m,.dead] K hK;simp only [Ay,Au,List.append_assoc] at hpan;refine hpan _ ?_;with_reducible refine sxE ?_;trivial
  |ok y=>
   obtain ⟨t,q⟩:=y;rw [q4M h2] at he;have hf1':=q9r hf1 h2;have hkq:=q2u q0D hk h2;have hts:=q3d z5E (c.drop k) t q (by rw [Ak];omega) h2
   have hlq:=q2z c (k+q) hkq;simp only [shiftP,retP,closeP] at he;refine gQ ?_;refine eQ [6] (hf1') ?_;refine eQ [6] (hlq) ?_;refine ⟨fun hle=>q0a (q4Z (xs,t) ⟨⟨by show xs.length≤_;omega,fun x hx=>by have:=i4 x hx;show x.size≤_;omega⟩,by show t.size≤_;omega⟩) ?_,fun hgt=>⟨by simp,?_⟩⟩
   · rw [if_neg (by omega)] at he
     simp only [chkP] at he;cases hv:vPrin (xs,t) with
     |true=>
      rw [if_pos hv] at he;subst he;refine gQ ?_;refine j1g _ _ fun G=> ?_;with_reducible refine sxE ?_;trivial
     |false=>
      rw [if_neg (by rw [hv];decide)] at he
      subst he;refine gQ ?_;refine ⟨by simp,?_⟩
      have hpan:=fun K hK=>q5q b n (n+N) 6 94 24 36 94 (.isl .str xs) (rS t) (.int .i64 0) [rdr c (k+q),.dead,rdr l m,.dead] K hK;simp only [Ay,Au,List.append_assoc] at hpan;refine hpan _ ?_;with_reducible refine sxE ?_;trivial
   rw [if_pos (by omega)] at he
   simp only [chkP] at he;subst he;have hpan:=fun K hK=>q5q b n (n+N) 6 94 24 36 94 (.isl .str xs) (rS t) (.int .i64 0) [rdr c (k+q),.dead,rdr l m,.dead] K hK;simp only [Ay,Au,List.append_assoc] at hpan;refine hpan _ ?_;with_reducible refine sxE ?_;trivial
theorem z8d{α:Type}{p:PR α}{Q Q':α→Prop}(h:OkP p Q)(hq:∀v,Q v→Q' v):OkP p Q':=fun r v m hr hx=>hq v (h r v m hr hx)
theorem j1a{p:PR Prin}{Q:Prin→Prop}(hq:∀v,vPrin v=true→Q v):OkP (fun r=>chkP vPrin (p r)) Q:=fun r v m _ hx=>by
 have hx:chkP vPrin (p r)= .ok (v,m):=hx;cases hp:p r with
 |error e=>rw [hp] at hx;cases hx
 |ok y=>
  obtain ⟨u,k⟩:=y;rw [hp] at hx;simp only [chkP] at hx;split at hx
  · cases hx;exact hq _ (by assumption)
  cases hx
theorem j2o{p:Prin}(h:vPrin p=true):PrinT.ok p:=by
 obtain ⟨h1,h2,h3⟩:=q8K h;exact ⟨⟨by omega,fun x hx=>by have:=h2 x hx;show x.size≤_;omega⟩,by show p.2.size≤_;omega⟩
theorem q9i:OkP nameP PrinT.ok:=j1a fun _ h=>j2o h
theorem j2Q:OkP octP (Ty.slice .u8).ok:=z6n fun c v hc hd=>by
 unfold decOct at hd;cases hd;exact ⟨by show c.length≤_;omega,fun _ _=>trivial⟩
theorem j3d{t:Ty}{p:PR t.den}(n:Nat)(hn:n≤1000)(h:OkP p t.ok):OkP (inP 48 (listP p n)) (Ty.slice t).ok:=q8A (z8d (z2N h n) fun v hv=>⟨by have:=hv.1;omega,hv.2⟩)
theorem z2U{t:Ty}:(Ty.slice t).ok ([]:List t.den):=⟨by simp,by simp⟩
theorem z6C:OkP keyP KeyT.ok:=q8A (q1N (Q1:=fun _=>True) q5a fun _ _=>q1N (Q1:=fun _=>True) q5a fun _ _=>q1N (q3d j2Q) fun _ hc=>z2e ⟨trivial,trivial,hc⟩)
theorem z0j{α:Type}{p:PR α}(hp:ErrP p):∀n,ErrP (listP p n)
 |0,r,e,h=>by
  simp only [listP] at h;split at h<;>cases h
  decide
 |n+1,r,e,h=>by
  simp only [listP] at h;split at h
  · cases h
  cases h1:p r with
  |error e1=>rw [h1] at h;cases h;exact hp r _ h1
  |ok y=>
   obtain ⟨u,k⟩:=y;rw [h1] at h;simp only at h;cases h2:listP p n (r.drop k) with
   |error e2=>rw [h2] at h;cases h;exact z0j hp n _ _ h2
   |ok z=>obtain ⟨w,l⟩:=z;rw [h2] at h;cases h
theorem z3u:ErrP nameP:=fun r e h=>by
 have hin:ErrP (inP 48 nameIn):=z2r (q2X (q3H q5K) fun l=>q2X (fun r' e' h'=>by
  unfold strsP atP at h';cases h1:listP strP l.length l with
  |error e1=>rw [h1] at h';cases h';exact z0j q5K _ _ _ h1
  |ok y=>obtain ⟨u,k⟩:=y;rw [h1] at h';cases h') fun _=>q2X (q3H q5K) fun _=>z2F)
 unfold nameP at h;cases h1:inP 48 nameIn r with
 |error e1=>rw [h1] at h;cases h;exact hin r _ h1
 |ok y=>
  obtain ⟨u,k⟩:=y;rw [h1] at h;simp only [chkP] at h;split at h<;>cases h
  decide
theorem q5n:FitsP nameP:=fun r v m h=>by
 unfold nameP at h;cases h1:inP 48 nameIn r with
 |error e1=>rw [h1] at h;cases h
 |ok y=>
  obtain ⟨u,k⟩:=y;rw [h1] at h;simp only [chkP] at h;split at h
  · cases h;exact q2j r _ _ h1
  cases h
theorem z6d(b:List UInt8)(n:Nat)(hn:n≤b.length)(hb:b.length≤1099511627776):
 EffR Tryz.prog 128 [.ptr 0 0] b n (fun p:Prin=>.agg (PrinT.cells p)) zPrin (nameP (b.drop n)):=by
 by_cases h:takeE 48 (b.drop n)=0
 · exact j2A b n hn hb h
 exact j2K b n hn hb h
end Go.Proofs.YtmapiojgmbgbgaaGreatDoor
namespace Go.Sx
open Go
variable [Ghost] {P:Program} {AQ:Ex→List SV→List SObj→Prop} {k0:Nat} {k:List IT} {t:List SV} {H:List SObj}

theorem VC.arg{f:FuncId}{args args':List SV}{K:Out→List SObj→Prop}(h:VC P f args H K)(hl:SV.leVL args' args):VC P f args' H K:=
 ⟨h.1,fun C vs hw ht hv=>h.2 C vs hw ht (q4K hl hv)⟩
end Go.Sx
namespace Go.Proofs.YtmapiojgmbgbgaaGreatDoor
open Go Go.Sx Go.Proofs
set_option maxRecDepth 100000
set_option maxHeartbeats 4000000
theorem q3F{α β:Type}{p:PR α}{f:α→PR β}{b:List UInt8}{n N:Nat}{X:Except Nat (β×Nat)}{e:Nat}(hX:X=shiftP N (bindP p f (b.drop n)))(h:p (b.drop n)= .error e):X= .error e:=by
 rw [hX,q3P h];rfl
theorem q3y{α β:Type}{p:PR α}{f:α→PR β}{b:List UInt8}{n N:Nat}{X:Except Nat (β×Nat)}{v:α}{k:Nat}(hX:X=shiftP N (bindP p f (b.drop n)))(h:p (b.drop n)= .ok (v,k)):X=shiftP (N+k) (f v (b.drop (n+k))):=by
 rw [hX,q4M h];cases f v (b.drop (n+k)) with
 |error e=>rfl
 |ok y=>obtain ⟨u,m⟩:=y;simp only [shiftP,Nat.add_assoc]
theorem z5V{α:Type}{p:PR α}{b:List UInt8}{n:Nat}:p (b.drop n)=shiftP 0 (p (b.drop n)):=by
 cases p (b.drop n) with
 |error e=>rfl
 |ok y=>obtain ⟨u,m⟩:=y;simp only [shiftP,Ac]
@[go_sem] abbrev mU(o:Int):SV:=.raw (.int .u32 o)
theorem z0T(k:Key):PC Tryz.prog 96 [.agg (KeyT.cells k)] (.isl .u8 (keyS k)):=by
 refine q0q rfl rfl ?_;refine rQ fi96 ?_;refine cQ (z9A _ _ _) ?_;trivial
theorem j1B(b:List UInt8)(n:Nat)(hn:n≤b.length)(hb:b.length≤1099511627776):
 EffZ Tryz.prog 165 [.ptr 0 0] b n (posX b n) (fun v:Key=>.agg (KeyT.cells v)) (keyP (b.drop n)):=by
 have ht:=z6W b n hn hb;refine z1v ?_;generalize keyP (b.drop n)=X at*;cases X with
 |error e=>
  have ht':=z5k ht rfl;refine rQ fi165 ?_;refine effP [0] (ht') ?_;trivial
 |ok x=>
  obtain ⟨v,k⟩:=x;have ht':=z7u ht rfl;refine rQ fi165 ?_;refine eQ [0] (ht') ?_;trivial
theorem z9D(b:List UInt8)(n m e:Nat)(T2 T4 T5 T6:TypeId)(y:Value)(K:List SObj→Prop)
 (h:∀G,K ([rdr b n,.cells T2 [.ptr 0 0],.cells T4 [rI 0,rI 0,.raw (.slice none 0 0)],.cells T5 [rI e],.cells T6 [rI n]]++G)):
 DCall Tryz.prog 210 [.ptr 4 0,.ptr 1 0,.ptr 2 0,.ptr 3 0] (some (errV e)) [rdr b m,.cells T2 [.ptr 0 0],.cells T4 [rI 0,rI 0,.raw (.slice none 0 0)],.cells T5 [.raw y],.cells T6 [rI n]] K:=by
 refine j1w fi210 ?_;refine uQ 16 _ ?_;with_reducible refine sxE ?_
 refine q2D [999999,1,4,5] mixed ?_;refine uQ 600 _ ?_;simp (maxSteps:=3000000) only [List.getElem?_nil,go_sem,↓zA,↓reduceIte,↓reduceDIte] <;>try simp only [zB]
 exact h _
theorem j0g(H:List SObj)(K:List SObj→Prop)(h:∀G,K (H++G)):DCall Tryz.prog 210 [.ptr 4 0,.ptr 1 0,.ptr 2 0,.ptr 3 0] none H K:=by
 refine recE mixed fi210 ?_;simpa using h []
theorem j1v(b:List UInt8)(n:Nat)(hn:n≤b.length)(hb:b.length≤1099511627776):
 EffR Tryz.prog 164 [.ptr 0 0,.fn 165 [] []] b n (fun v:Key=>.agg (KeyT.cells v)) zKey (keyP (b.drop n)):=by
 have hk:=j1B b n hn hb;generalize keyP (b.drop n)=X at*;cases X with
 |error e=>
  have hk':=z5k hk rfl;refine q0b (by simp) ?_
  refine defE mixed fi164 ?_;refine gQ ?_;refine effP [0] (hk') ?_;refine ⟨by simp,z9D b n _ e _ _ _ _ _ _ fun G=> ?_⟩
  with_reducible refine sxE ?_;trivial
 |ok x=>
  obtain ⟨v,k⟩:=x;have hk':=z7u hk rfl;refine q0b (by simp) ?_
  refine defE mixed fi164 ?_;refine gQ ?_;refine eQ [0] (hk') ?_;refine j0g _ _ fun G=> ?_;with_reducible refine sxE ?_;trivial
theorem z3X(b:List UInt8)(n:Nat)(hn:n≤b.length)(hb:b.length≤1099511627776):
 EffR Tryz.prog 111 [.ptr 0 0] b n (fun v:Key=>.agg (KeyT.cells v)) zKey (keyP (b.drop n)):=by
 have hk:=j1v b n hn hb;generalize keyP (b.drop n)=X at*;cases X with
 |error e=>
  have hk':=q6W hk rfl;refine q0b (by simp) ?_
  refine rQ fi111 ?_;refine eQ [0] (hk') ?_;trivial
 |ok x=>
  obtain ⟨v,k⟩:=x;have hk':=q7j hk rfl;refine q0b (by simp) ?_
  refine rQ fi111 ?_;refine eQ [0] (hk') ?_;trivial
set_option synthInstance.maxSize 2000
set_option synthInstance.maxHeartbeats 400000
theorem q9V(l l':List ByteArray)(hl:(Ty.slice Ty.str).ok l):PC Tryz.prog 141 [.isl .str l,.isl .str l'] (rB (decide (l=l'))):=by
 have hlen:=hl.1;have key:=sameN l l' (ByteArray.empty);refine q0w rfl rfl ?_;refine rQ fi141 ?_<;>try with_reducible exact True.intro
 repeat' (first
  | (with_reducible refine And.intro ?_ ?_)
  | (with_reducible intro _))
 all_goals (skip)
 · grind
 refine q0X (fun i=>[(13,.raw (.int .i64 ((i:Nat):Int)))]) (l.length) (fun j=>(eqAt l l' ByteArray.empty) j=true) (by first|decide|simp) (fun i=>rfl) ?_ fun i hi hall=> ?_
 · (with_reducible refine sxE ?_<;>try exact True.intro)
   all_goals (try rfl)
 have hwr:=wsx i (by omega)
 refine gQ ?_;have bad:i< (l.length)→(eqAt l l' ByteArray.empty) i=false→allN (l.length) (eqAt l l' ByteArray.empty)=false:=fun hlt hv=>q0y hlt hv;have fin:¬i< (l.length)→allN (l.length) (eqAt l l' ByteArray.empty)=true:=fun h=>q0B fun j hj=>hall j (by omega)
 try dsimp only at bad fin hall
 repeat' (first
  | (refine q0a (skip) ?_;refine uQ 600 _ ?_;simp (maxSteps:=3000000) only [go_sem,↓zA,↓reduceIte,↓reduceDIte] <;>try simp only [zB])
  | (refine q0l (skip) ?_;refine uQ 600 _ ?_;simp (maxSteps:=3000000) only [go_sem,↓zA,↓reduceIte,↓reduceDIte] <;>try simp only [zB])
  | (refine q0E (skip) ?_;refine uQ 600 _ ?_;simp (maxSteps:=3000000) only [go_sem,↓zA,↓reduceIte,↓reduceDIte] <;>try simp only [zB])
  | (with_reducible refine And.intro ?_ ?_)
  | (with_reducible intro _))
 all_goals (first| (with_reducible (refine (id ?_:SoundI _ _ _))) | ((try simp only [Ty.dflt] at*);first|omega| (refine ⟨by omega,q0Z hall (by grind [eqAt]),⟨_,by first|rfl|exact List.append_assoc _ _ _| (simp only [List.append_assoc,Ay,Au];rfl)⟩,?_⟩;simp only [hwr,go_sem,↓zA,↓reduceIte,↓reduceDIte] <;> (first|rfl| (grind [eqAt]))) | (refine ⟨_,rfl⟩) | (refine ⟨_,List.append_assoc _ _ _⟩) | (grind [eqAt])))
theorem q8O(p p':Prin)(hp:PrinT.ok p):PC Tryz.prog 78 [.agg (PrinT.cells p),.agg (PrinT.cells p')] (rB (decide (p=p'))):=by
 obtain ⟨a,r⟩:=p;obtain ⟨a',r'⟩:=p';have hd:decide ((a,r)=(a',r'))=(decide (r=r') && decide (a=a')):=by
  rw [BE];simp only [decide_eq_true_eq,Ai,Prod.mk.injEq];exact ⟨fun h=>⟨h.2,h.1⟩,fun h=>⟨h.2,h.1⟩⟩
 rw [show rB (decide ((a,r)=(a',r')))=rB (decide (r=r') && decide (a=a')) from by rw [hd]]
 clear hd;refine q0w rfl rfl ?_;refine rQ fi78 ?_<;>try with_reducible exact True.intro
 repeat' (first
  | (refine q0a (q9V _ _ hp.1) ?_;refine uQ 600 _ ?_;simp (maxSteps:=3000000) only [go_sem,↓zA,↓reduceIte,↓reduceDIte] <;>try simp only [zB])
  | (refine q0l (q9V _ _ hp.1) ?_;refine uQ 600 _ ?_;simp (maxSteps:=3000000) only [go_sem,↓zA,↓reduceIte,↓reduceDIte] <;>try simp only [zB])
  | (refine q0E (q9V _ _ hp.1) ?_;refine uQ 600 _ ?_;simp (maxSteps:=3000000) only [go_sem,↓zA,↓reduceIte,↓reduceDIte] <;>try simp only [zB])
  | (with_reducible refine And.intro ?_ ?_)
  | (with_reducible intro _))
 all_goals (skip)
 all_goals grind
end Go.Proofs.YtmapiojgmbgbgaaGreatDoor
