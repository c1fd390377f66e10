/- A part of the proof: a symbolic executor over abstract values, and its soundness. -/
import Derived.Test.YtmapiojgmbgbgaaGreatDoorQ31
set_option linter.all false
namespace Go.Sx
open Go

variable [Ghost] {P:Program} {AQ:Ex→List SV→List SObj→Prop} {k0:Nat} {k:List IT} {k':List It} {t:List SV} {H:List SObj}
variable {all:Array Oper} {G:List Nat} {o:Oper} {ev:Operand→SV} {K:Out→List SObj→Prop}

def atOp(P:Program)(all:Array Oper)(i:Nat):Option OpI:=(all[i]?).bind (compO P all)
theorem z0H{i:Nat}{io:OpI}(h:atOp P all i=some io):∃o,all[i]?=some o∧compO P all o=some io:=by
 unfold atOp at h;cases ho:all[i]? with
 |none=>rw [ho] at h;cases h
 |some o=>rw [ho] at h;exact ⟨o,rfl,h⟩
theorem j5J{i n:Nat}{listed:Array Bool}{io:OpI}{p:Prop}{s:SV}(hc:atOp P all i=some io)(hB:(planChk all listed i true&& ldChk all listed i&& io.guard.isNone)=true)(hf:floatOk G (evT t) io.op=true)(he:io.op.ev H (evT t)= .val p s)(hp:p)
 (h:AnyV P AQ k0 k' all G n (listed.setIfInBounds i true) (putT t io.dst s) H):AnyV P AQ k0 k' all G (n+1) listed t H:=by
 obtain ⟨o,ho,hco⟩:=z0H hc;simp only [Aj,Cd] at hB;refine z0y ho hco ((q0t hco).1 hB.2) hf he hp (fun _=>.inl hB.1.2) hB.1.1 ?_;rw [← (q0I hco).2];exact h
theorem j3y{i n:Nat}{listed:Array Bool}{io:OpI}{p:Prop}{s:SV}(hc:atOp P all i=some io)(hB:(planChk all listed i true&& io.guard.isNone)=true)(he:∀H',io.op.ev H' (evT t)= .val p s)(hp:p)
 (h:AnyV P AQ k0 k' all G n (listed.setIfInBounds i true) (putT t io.dst s) H):AnyV P AQ k0 k' all G (n+1) listed t H:=by
 obtain ⟨o,ho,hco⟩:=z0H hc;simp only [Aj,Cd] at hB;refine q3d (q1S hB.1).1 ho (.inl ⟨(q0t hco).1 hB.2,fun H' _ K hk=>q2m (q0I hco).1 (by rw [he H'];exact ⟨hp,hk⟩)⟩) ?_
 rw [← (q0I hco).2];exact h
theorem q9M{n:Nat}{listed:Array Bool}{l:List (Bool×OpI)}(hpl:planL P all n listed=some l)(hr:RelT P k k')(h:SoundI P AQ ⟨k0,.dops G l :: k,t,H⟩):AnyV P AQ k0 k' all G n listed t H:=h all listed n k' hpl hr
theorem j0P{id m:Nat}(hm:P.follows .mixedOrders=true)(hs:all.size=m)(h:AnyV P AQ k0 k' all G m (Array.replicate m false) t H):Sound P AQ ⟨k0,.code (.region id all true) :: k',t,H⟩:=q8P G hm (by rw [hs];exact h)

end Go.Sx
namespace Go.Sx
open Go

variable [Ghost] {P:Program} {AQ:Ex→List SV→List SObj→Prop} {k0:Nat} {k:List IT} {k':List It} {t:List SV} {H:List SObj}
variable {all:Array Oper} {G:List Nat} {o:Oper}

def AnyK(P:Program)(AQ:Ex→List SV→List SObj→Prop)(k0:Nat)(k':List It)(all:Array Oper)(G:List Nat)(n:Nat)(listed:Array Bool)(t:List SV)(H:List SObj)(i:Nat)(d:Option Tmp):Out→List SObj→Prop
 |.ret s,H'=>SameG (gsel all i G) H H'∧AnyV P AQ k0 k' all G n (listed.setIfInBounds i true) (putT t d s) H'
 |.pan s,H'=>AQ (.pan s) [] H'
theorem z6q{i j n:Nat}{listed:Array Bool}{io jo:OpI}(hci:atOp P all i=some io)(hcj:atOp P all j=some jo)(hB:(Region.ready .any all listed== [i,j] && io.guard.isNone&& jo.guard.isNone)=true)
 (hi:(io.op.ev H (evT t)).to P H (AnyK P AQ k0 k' all G n listed t H i io.dst))(hj:(jo.op.ev H (evT t)).to P H (AnyK P AQ k0 k' all G n listed t H j jo.dst)):AnyV P AQ k0 k' all G (n+1) listed t H:=by
 obtain ⟨oi,hoi,hcoi⟩:=z0H hci;obtain ⟨oj,hoj,hcoj⟩:=z0H hcj;simp only [Aj,Cd,beq_iff_eq] at hB;refine ⟨fun h0=>(by rw [hB.1.1] at h0;cases h0),fun m hm=> ?_⟩
 rw [hB.1.1] at hm;have hK:∀ {x:Nat} {ox:Oper} {xo:OpI},compO P all ox=some xo→xo.dst=ox.dst→(xo.op.ev H (evT t)).to P H (AnyK P AQ k0 k' all G n listed t H x xo.dst)→OpV P ox (evT t) H fun
  |.ret s,H'=>SameG (gsel all x G) H H'∧AnyV P AQ k0 k' all G n (listed.setIfInBounds x true) (putT t ox.dst s) H'
  |.pan s,H'=>AQ (.pan s) [] H':=fun {x ox xo} hc hd h=>by
  rw [hd] at h;exact q2m (q0I hc).1 h
 rcases Bi.1 hm with rfl|hm
 · exact ⟨oi,hoi,.inl ⟨(q0t hcoi).1 hB.1.2,hK hcoi (q0I hcoi).2 hi⟩⟩
 obtain rfl:m=j:=by simpa using hm
 exact ⟨oj,hoj,.inl ⟨(q0t hcoj).1 hB.2,hK hcoj (q0I hcoj).2 hj⟩⟩
theorem j4N{i n:Nat}{listed:Array Bool}{d:Option Tmp}{f:FuncId}{args:List SV}{ty:Ty}{xs:List ty.den}(hp:VC P f args [] (RowK ty xs))(hb:SV.belL 0 args=true)(hargs:args=SV.renL (sig [] H.length) args)(hne:xs≠ [])(hG:SameG (gsel all i G) H (H++ [.row ty xs]))
 (h:AnyV P AQ k0 k' all G n (listed.setIfInBounds i true) (putT t d (.bld H.length ty xs.length)) (H++ [.row ty xs])):enters P f=true∧VCallG P f args H (AnyK P AQ k0 k' all G n listed t H i d):=by
 refine ⟨hp.1,VCall.g ?_⟩;rw [hargs];refine VCall.fr (H0:=[]) [] (by simp) trivial hb rfl hp.2 ?_
 rintro o H' _ (⟨e,rfl,rfl⟩ | ⟨rfl,rfl⟩)
 · exact absurd e hne
 exact ⟨hG,h⟩
theorem j1u{all:Array Oper}{i:Nat}:gsel all i []= []:=by
 unfold gsel;split
 · split<;>rfl
 rfl
theorem q4C{all:Array Oper}{i:Nat}{H H':List SObj}:SameG (gsel all i []) H H':=fun x h=>by rw [j1u] at h;cases h
theorem j1z{f:FuncId}{args:List SV}{K:Out→List SObj→Prop}(h:Nat)(hc:handC h args H fun args' H'=>VCG P f args' H' K):VCG P f args H K:=by
 unfold handC at hc;split at hc
 · rename_i t xs hH;exact ⟨hc.2.2.1,VCallG.hand h hH hc.1 hc.2.1 hc.2.2.2⟩
 exact hc.elim
theorem j0g{f:FuncId}{args:List SV}{s:SV}{K:Out→List SObj→Prop}(hp:PC P f args s)(hk:K (.ret s) H):VCG P f args H K:=⟨hp.1,(hp.2 H K hk).g⟩
end Go.Sx
namespace Go.Proofs.YtmapiojgmbgbgaaGreatDoor
open Go Go.Sx Go.Proofs
set_option maxRecDepth 100000
set_option maxHeartbeats 40000000
theorem z8l(k b:List UInt8)(hk:k.length≤70368744177664)(hb:b.length≤70368744000000):PC Tryz.prog 155 [.isl .u8 k,.isl .u8 b] (.isl .u8 (hmS k b)):=by
 have h1:=j2r k 0x36 hk;have h2:=j2r k 0x5c hk;have l1:(hkS k 0x36).length=64:=q2Z _ _ _;have l2:(hkS k 0x5c).length=64:=q2Z _ _ _;have hE:hmS k b=shaS (hkS k 0x5c++shaS (hkS k 0x36++b)):=rfl;change VC _ _ [_,.raw (.int .u8 54)] _ _ at h1;change VC _ _ [_,.raw (.int .u8 92)] _ _ at h2;rw [hE];generalize hkS k 0x36=k1 at*;generalize hkS k 0x5c=k2 at*;have t1:List.take 64 k1=k1:=Aa (by omega)
 have t2:List.take 64 k2=k2:=Aa (by omega)
 refine q0f rfl rfl ?_;refine rQ fi155 ?_;refine q6y h1 rfl rfl (fun h0=>by rw [h0] at l1;cases l1) ?_
 refine gy2 l1 t1 ?_;refine ⟨by omega,?_⟩
 refine q0m 1 ?_;with_reducible refine sxE ?_
 rw [Aa (by rw [Ac];omega)]
 refine ⟨by rw [Ac];omega,by rw [Ac];omega,q0a (z8X (k1++b) (by rw [Ac];omega)) ?_⟩
 have l3:(shaS (k1++b)).length=32:=q0V _;generalize shaS (k1++b)=s1 at*;refine gy1 l3 ?_;refine j5t fun id k' hrel=> ?_;refine j0P (G:=[]) mixed (m:=7) (by kernel_rfl) ?_
 refine j3y (i:=0) (io:=⟨some 12,.mov (.tmp 0),none⟩) (by kernel_rfl) (by kernel_rfl) (fun H'=>rfl) trivial ?_
 refine j5J (i:=2) (io:=⟨some 14,.sla 32 1 (.tmp 5) none none,none⟩) (by kernel_rfl) (by kernel_rfl) rfl rfl ?_ ?_
 · decide
 have t3:List.take 32 s1=s1:=Aa (by omega)
 have l4:(k2++s1).length=96:=by rw [Ac];omega
 have t4:List.take 96 (k2++s1)=k2++s1:=Aa (by omega)
 have l5:(shaS (k2++s1)).length=32:=q0V _;have t5:List.take 32 (shaS (k2++s1))=shaS (k2++s1):=Aa (by omega)
 have h4:=z8X (k2++s1) (by omega)
 generalize shaS (k2++s1)=s2 at*;refine z6q (i:=1) (j:=5) (io:=⟨some 13,.call (.func 205) [.tmp 12,.const (.int .u8 92)],none⟩) (jo:=⟨some 6,.arr .u8 32,none⟩) (by kernel_rfl) (by kernel_rfl) (by kernel_rfl) ?_ ?_
 · refine j4N h2 rfl rfl (fun h0=>by rw [h0] at l2;cases l2) q4C ?_
   refine z6q (i:=3) (j:=5) (io:=⟨some 15,.app .u8 1 (.tmp 13) (.tmp 14),none⟩) (jo:=⟨some 6,.arr .u8 32,none⟩) (by kernel_rfl) (by kernel_rfl) (by kernel_rfl) ?_ ?_
   · simp (maxSteps:=3000000) only [Res.to,AnyK,l2,l3,t2,t3,go_sem,↓zA,↓reduceIte,↓reduceDIte] <;>try simp only [zB]
     refine ⟨q4C,?_⟩;generalize k2++s1=ks at*;refine z6q (i:=4) (j:=5) (io:=⟨some 16,.call (.func 204) [.tmp 15],none⟩) (jo:=⟨some 6,.arr .u8 32,none⟩) (by kernel_rfl) (by kernel_rfl) (by kernel_rfl) ?_ ?_
     · refine j1z 4 ?_;simp (maxSteps:=3000000) only [handC,l4,t4,go_sem,↓zA,↓reduceIte,↓reduceDIte] <;>try simp only [zB]
       refine j0g h4 ?_;simp (maxSteps:=3000000) only [AnyK,go_sem,↓zA,↓reduceIte,↓reduceDIte] <;>try simp only [zB]
       refine ⟨q4C,?_⟩;refine q9M (l:=[(false,⟨some 6,.arr .u8 32,none⟩),(false,⟨none,.st 32 (.tmp 6) (.tmp 16),none⟩)]) (by kernel_rfl) hrel ?_
       refine gy1 l5 ?_;exact ⟨by decide,t5⟩
     simp (maxSteps:=3000000) only [Res.to,AnyK,go_sem,↓zA,↓reduceIte,↓reduceDIte] <;>try simp only [zB]
     refine ⟨q4C,?_⟩;refine q9M (l:=[(false,⟨some 16,.call (.func 204) [.tmp 15],none⟩),(false,⟨none,.st 32 (.tmp 6) (.tmp 16),none⟩)]) (by kernel_rfl) hrel ?_
     refine gQ ?_;refine q0A 4 (by decide) ?_
     with_reducible refine sy2 l4 t4 ?_
     refine q0d h4 ?_;refine gy1 l5 ?_;exact ⟨by decide,t5⟩
   simp (maxSteps:=3000000) only [Res.to,AnyK,go_sem,↓zA,↓reduceIte,↓reduceDIte] <;>try simp only [zB]
   refine ⟨q4C,?_⟩;refine q9M (l:=[(false,⟨some 15,.app .u8 1 (.tmp 13) (.tmp 14),none⟩),(false,⟨some 16,.call (.func 204) [.tmp 15],none⟩),(false,⟨none,.st 32 (.tmp 6) (.tmp 16),none⟩)]) (by kernel_rfl) hrel ?_
   refine gy4 l2 l3 t2 t3 ?_;refine q0A 5 (by decide) ?_
   with_reducible refine sy2 l4 t4 ?_
   refine q0d h4 ?_;refine gy1 l5 ?_;exact ⟨by decide,t5⟩
 simp (maxSteps:=3000000) only [Res.to,AnyK,go_sem,↓zA,↓reduceIte,↓reduceDIte] <;>try simp only [zB]
 refine ⟨q4C,?_⟩;refine q9M (l:=[(false,⟨some 13,.call (.func 205) [.tmp 12,.const (.int .u8 92)],none⟩),(false,⟨some 15,.app .u8 1 (.tmp 13) (.tmp 14),none⟩),(false,⟨some 16,.call (.func 204) [.tmp 15],none⟩),(false,⟨none,.st 32 (.tmp 6) (.tmp 16),none⟩)]) (by kernel_rfl) hrel ?_
 refine gQ ?_;refine z6a h2 rfl rfl (fun _ h=>by cases h) (fun h0=>by rw [h0] at l2;cases l2) ?_
 refine gy4 l2 l3 t2 t3 ?_;refine q0A 5 (by decide) ?_
 with_reducible refine sy2 l4 t4 ?_
 refine q0d h4 ?_;refine gy1 l5 ?_;exact ⟨by decide,t5⟩
theorem z9s(n:Nat):VC Tryz.prog 265 [rI n] [] (RowK .u8 (four n)):=by
 refine z3e ?_;refine rQ fi265 ?_;refine ⟨⟨q1G _,q1G _,q1G _,q1G _⟩,?_⟩;rw [byteN _ 24 (by decide),byteN _ 16 (by decide),byteN _ 8 (by decide),byteN0]
 exact z0c (h:=0) rfl rfl
theorem j4E(key label ctx:List UInt8)(n i:Nat)(hk:key.length≤70368744177664)(hl:label.length≤4096)(hc:ctx.length≤4096)(hn:n≤1024)(_hi:i≤1000000):PC Tryz.prog 235 [.isl .u8 key,.isl .u8 label,.isl .u8 ctx,rI n,rI i] (.isl .u8 (kblk key label ctx n i)):=by
 have hw8:IntKind.i64.wrap (8* (n:Int))=((8*n:Nat):Int):=by rw [wrapi (by omega)];omega
 have hE:kblk key label ctx n i=hmS key (four i++label++ [0]++ctx++four (8*n)):=rfl;have h1:=z9s i;have h2:=z9s (8*n);have l1:=z0f i;have l2:=z0f (8*n);generalize four i=f1 at*;generalize four (8*n)=f2 at*;have hne:∀ {l:List UInt8} {P:Prop},l.length=4→l= []→P:=fun h h0=>by rw [h0] at h;cases h
 have t1:List.take 4 f1=f1:=Aa (by omega)
 have t2:List.take 4 f2=f2:=Aa (by omega)
 refine q0p rfl rfl ?_;refine rQ fi235 ?_;refine q6y h1 rfl rfl (hne l1) ?_;refine gy3 l1 t1 hw8 ?_;have e3:(f1++label).length=4+label.length:=by rw [Ac,l1]
 have e4:(f1++label++ [UInt8.ofNat 0]++ctx).length=4+label.length+1+ctx.length:=by simp only [Ac,l1,AF,BL]
 refine ⟨by omega,rfl,by omega,by omega,q6y h2 rfl rfl (hne l2) ?_⟩
 rw [e3];have hE':f1++label++ [UInt8.ofNat 0]++ctx++f2=f1++label++ [0]++ctx++f2:=rfl;have e5:(f1++label++ [UInt8.ofNat 0]++ctx++f2).length=4+label.length+1+ctx.length+4:=by rw [Ac,e4,l2]
 generalize f1++label++ [UInt8.ofNat 0]++ctx=A at*;have t3:List.take (4+label.length+1+ctx.length) A=A:=Aa (by omega)
 have t4:List.take (4+label.length+1+ctx.length+4) (A++f2)=A++f2:=Aa (by omega)
 refine gy4 l2 t2 t3 e4 ?_;refine ⟨by omega,?_⟩
 refine q0m 6 ?_;simp (maxSteps:=3000000) only [t4,go_sem,↓zA,↓reduceIte,↓reduceDIte] <;>try simp only [zB]
 refine ⟨by omega,by omega,q0a (z8l key (A++f2) hk (by omega)) ?_⟩
 refine gQ ?_;rw [hE,hE']
theorem j6e(key label ctx:List UInt8)(n:Nat)(hk:key.length≤70368744177664)(hl:label.length≤4096)(hc:ctx.length≤4096)(hn:n≤1024):PC Tryz.prog 206 [.isl .u8 key,.isl .u8 label,.isl .u8 ctx,rI n] (.isl .u8 (kdfS key label ctx n)):=by
 refine q0f rfl rfl ?_;refine rQ fi206 ?_;refine q2x 9 .u8 (fun i=>kacc key label ctx n i) (fun i=>[(10,rI ((i+1:Nat):Int))]) ((n+31) / 32) (fun _=>True) rfl (by simp) (by simp [kacc]) rfl (fun i=>rfl) ?_ fun i hi _=> ?_
 · with_reducible refine sxE ?_
   rfl
 have hl':=q5x key label ctx n i;have hs:kacc key label ctx n (i+1)=kacc key label ctx n i++kblk key label ctx n (i+1):=rfl;by_cases h:i< (n+31) / 32
 · have f1:(((32*i:Nat):Int) < (n:Int))=True:=eq_true (by omega)
   refine gy2 f1 hl' ?_;refine q0a (j4E key label ctx n (i+1) hk hl hc hn (by omega)) ?_
   have hb:=q5w key label ctx n (i+1);generalize kblk key label ctx n (i+1)=B at*;generalize kacc key label ctx n i=A at*;have htk:List.take (32*i) A=A:=Aa (by omega)
   refine gy3 hb hl' htk ?_;refine ⟨by omega,?_⟩
   refine q1z [.dead] [] h trivial (by rw [hs];rfl) ?_
   have hwr:IntKind.i64.wrap (((i+1:Nat):Int)+1)=((i+1+1:Nat):Int):=by rw [wrapi (by omega)];omega
   rw [hs];with_reducible refine sy6 hwr hl' hb hb hb hb ?_
   rw [Ac,hl',hb]
 obtain rfl:i=(n+31) / 32:=by omega
 have f1:(((32* ((n+31) / 32):Nat):Int) < (n:Int))=False:=eq_false (by omega)
 refine gy2 f1 hl' ?_;exact ⟨by omega,by omega,by rw [C5];rfl⟩
theorem z3y(p:Int):PC Tryz.prog 157 [rI p] (rI (keyLen p)):=by
 refine q0p rfl rfl ?_;unfold keyLen;by_cases h1:p=1
 · subst h1;refine rQ fi157 ?_;trivial
 rw [if_neg h1];have f1:(p=1)=False:=eq_false h1;by_cases h2:p=2
 · subst h2;refine rQ fi157 ?_;trivial
 rw [if_neg h2];have f2:(p=2)=False:=eq_false h2;refine ry2 fi157 f1 f2 ?_;trivial
theorem j3v(k:Key):PC Tryz.prog 203 [.agg (KeyT.cells k)] (rB (vKey k)):=by
 obtain ⟨p,v,b⟩:=k;have hk:=z3y p;have hp:0≤keyLen p∧keyLen p≤32:=by unfold keyLen;split<;> (try split) <;>omega
 refine q0p rfl rfl ?_;unfold vKey;generalize keyLen p=n at*;refine rQ fi203 ?_;refine q0d hk ?_;by_cases h0:n=0
 · have f0:(0<n)=False:=eq_false (by omega)
   refine gy1 f0 ?_;simp [h0]
 have f0:(0<n)=True:=eq_true (by omega)
 refine gy1 f0 ?_;refine q0d hk ?_;by_cases h1:((b.length:Nat):Int)=n
 · have f1:(((b.length:Nat):Int)=n)=True:=eq_true h1;by_cases h2:0≤v
   · have f2:((0:Int)≤v)=True:=eq_true h2;refine gy2 f1 f2 ?_;simp [h0,h1,h2]
   have f2:((0:Int)≤v)=False:=eq_false h2;refine gy2 f1 f2 ?_;trivial
 have f1:(((b.length:Nat):Int)=n)=False:=eq_false h1;refine gy1 f1 ?_;trivial
theorem z7y(k:Key)(u:Int):PC Tryz.prog 154 [.agg (KeyT.cells k),rI u] (rB (uOk k u)):=by
 have hk:=j3v k;obtain ⟨p,v,b⟩:=k;refine q0p rfl rfl ?_;unfold uOk;generalize vKey (p,v,b)=vb at*;refine rQ fi154 ?_;refine q0a hk ?_;cases vb
 · refine gQ ?_;trivial
 by_cases h1:(1:Int)≤u
 · have f1:((1:Int)≤u)=True:=eq_true h1;refine gy1 f1 ?_;trivial
 have f1:((1:Int)≤u)=False:=eq_false h1;refine gy1 f1 ?_;trivial
theorem j4i(k:Key)(u:Nat)(c:UInt8)(hv:vKey k=true)(hu:u≤1023):PC Tryz.prog 156 [.agg (KeyT.cells k),rI u,.raw (.int .u8 c.toNat)] (.isl .u8 (dkS k u c.toNat)):=by
 obtain ⟨p,v,b⟩:=k;have hk:=z3y p;have hbl:((b.length:Nat):Int)=keyLen p:=by unfold vKey at hv;simp only [Aj,decide_eq_true_eq] at hv;exact hv.2.1
 have hp:keyLen p≤32:=by unfold keyLen;split<;> (try split) <;>omega
 have hE:dkS (p,v,b) u c.toNat=kdfS b (four u++ [UInt8.ofNat c.toNat]) [] b.length:=rfl;rw [hE];rw [←hbl] at hk hp;have q1:(u:Int).tdiv 256=((u / 256:Nat):Int):=by rw [B7 (by omega)];rfl
 have q2:(u:Int).tmod 256=((u%256:Nat):Int):=by rw [AW (by omega)];rfl
 have w1:IntKind.i64.wrap ((u / 256:Nat):Int)=((u / 256:Nat):Int):=wrapi (by omega)
 have w2:IntKind.i64.wrap ((u%256:Nat):Int)=((u%256:Nat):Int):=wrapi (by omega)
 have hlab:[UInt8.ofNat 0,UInt8.ofNat 0,UInt8.ofNat (IntKind.u8.wrap ((u / 256:Nat):Int)).toNat,UInt8.ofNat (IntKind.u8.wrap ((u%256:Nat):Int)).toNat,UInt8.ofNat c.toNat]=four u++ [UInt8.ofNat c.toNat]:=by
  unfold four;rw [show u / 2^ 24%256=0 by omega,show u / 2^ 16%256=0 by omega,u8wrapR,u8wrapR]
  rw [show (((u / 256:Nat):Int)%256).toNat=u / 2^ 8%256 by omega,show (((u%256:Nat):Int)%256).toNat=u / 2^ 0%256 by omega]
  rfl
 refine q0p rfl rfl ?_;refine q3E fi156 ?_;refine uQ 16 _ ?_;with_reducible refine sy6 q1 q2 w1 w2 w2 w2 ?_
 refine ⟨by decide,by decide,⟨rfl,rfl,q1G _,q1G _,by rw [BU]⟩,?_⟩
 rw [hlab];have hll:(four u++ [UInt8.ofNat c.toNat]).length=5:=rfl;generalize four u++ [UInt8.ofNat c.toNat]=lab at*;refine q0Q 1 rfl rfl (by rw [hll];decide) ?_ ?_ ?_
 · with_reducible refine sxE ?_;trivial
 · with_reducible refine sxE ?_
   omega
 with_reducible refine sxE ?_
 rw [Aa (show lab.length≤5 by omega)]
 have hkd:=j6e b lab [] b.length (by omega) (by omega) (by simp) (by omega)
 refine gQ ?_;refine cR hk ?_;refine q0d (hkd.arg ?_) ?_
 · with_reducible refine sxE ?_;trivial
 refine gQ ?_;trivial
theorem rsum9:SumC:=fun k u x ho hu hx=>by
 obtain ⟨hv,hu2,hkn,hkl,_⟩:=q5j hu;have c1:=z7y k u;rw [hu] at c1;have c2:PC Tryz.prog 156 [.agg (KeyT.cells k),rI u,.raw (.int .u8 153)] (.isl .u8 (dkS k u 153)):=j4i k u 153 hv hu2;have hdl:=z9z k u 153;have c4:=z3y k.1;rw [←hkn] at c4;have hE:smS k u x=(hmS (dkS k u 153) x).take k.2.2.length:=rfl;rw [hE];generalize dkS k u 153=key at*;have c3:=z8l key x (by omega) (by omega)
 have hhl:=q8b key x;generalize hmS key x=h at*;obtain ⟨p,v,b⟩:=k;dsimp only at hkl c4;refine q0f rfl rfl ?_;refine rQ fi98 ?_;refine cQ c1 ?_;refine cR c2 ?_;refine cR c3 ?_;refine cR c4 ?_;exact ⟨by omega,by omega⟩
end Go.Proofs.YtmapiojgmbgbgaaGreatDoor
