/- A part of the proof: a symbolic executor over abstract values, and its soundness. -/
import Derived.Test.YthbcodbcndiapaaGreatDoorP3
import Derived.Laws.IdiomStrings
import Derived.Laws.MakeOwn
import Derived.IntWalk
import Derived.Laws.StructEq
set_option linter.all false
namespace Go.Sx
section
open Go

variable [Ghost] {P:Program} {o:Oper} {ev:Operand->SV} {H:List SObj} {K:Out->List SObj->Prop} {t:Ty}

theorem OpV.weaken{ev':Operand->SV}(h:OpV P o ev' H K)(hle:∀x,SV.le (ev x) (ev' x)):OpV P o ev H K:=
 fun E C r n a next Q hw hg hv h1 h2=>h E C r n a next Q hw hg (fun x hx=>hle x C _ (hv x hx)) h1 h2

variable {α:Type}
def q2t{vs us:List α}{o:Nat}(h:o+us.length<=vs.length)(j:Nat):
 (splice vs o us)[j]?=if j<o then vs[j]? else if j<o+us.length then us[j-o]? else vs[j]?:=by
 unfold splice;rcases AI j o with h1|h1
 . rw [if_pos h1,Ai (by simp;omega),Ai (by simp;omega),AN,if_pos h1]
 rw [if_neg (by omega)];rcases AI j (o+us.length) with h2|h2
 . rw [if_pos h2,Ai (by simp;omega),Ao (by simp;omega)];congr 1;simp;omega
 rw [if_neg (by omega),Ao (by simp;omega),AA];congr 1;simp;omega

variable {ty:TypeId}{x:Operand}{xs:List t.den}
def q8f{y:Operand}{h i kk n:Nat}{ds:List SV}{d':t.den}{p:Prop}(hop:o.op= .store ty x y)(hs:(P.info? ty).map (·.size)=some n)(he:ev x= .rptr h t i kk)
 (hH:H[h]?=some (.row t xs))(hi:i<xs.length)(hf:(ev y).flat=some ds)(hn:ds.length=n)(hb:kk+n<=t.size)(h1:ones ds=true)
 (hr:t.rd (splice (t.cells (xs.getD i t.dflt)) kk ds)=some (d',p))(hp:p)(hk:K (.ret .any) (H.set h (.row t (xs.set i d')))):OpV P o ev H K:=by
 refine q0O (by rw [hop];intro c hc;cases hc) fun C e hw hv=> ?_;have hx:=hv x (by rw [hop];simp [Op.operands]);have hy:=q3s hf (hv y (by rw [hop];simp [Op.operands]));rw [he,SV.den] at hx;obtain ⟨_,b,hbb,hx⟩:=hx;rcases hw.obj h _ hH with ⟨_,h2⟩ | ⟨b',arr,T,fz,hb',hcell,hfz,hsz,hrow⟩
 . subst h2;simp at hi
 rw [hbb] at hb';cases hb';have hlen:(e y).cells.toList.length=n:=by rw [q0A hy,hn]
 have hin:i*t.size+kk+n<=arr.toList.length:=by rw [Au];have:(i+1)*t.size<=xs.length*t.size:=A4 _ hi;rw [Nat.add_mul] at this;omega
 have hcell':C.w.heap[b]?=some (.cells arr.toList.toArray T fz):=by rw [hcell]
 have hrun:(storeCells ⟨b,i*t.size+kk,none⟩ (e y).cells.toList 0).run P C.w= .ok () (C.w.setCells b (i*t.size+kk+0) (e y).cells.toList):=run_storeCells_cells b (i*t.size+kk) _ 0 C.w
  (fun j hj=>by rw [q0o hcell'];rw [Ac (by omega)];rfl)
  (fun j hj=>by
   have:=hfz (i*t.size+kk+0+j) (by rw [Au] at hin;omega);simp only [World.frozen?,hcell];rw [BU];simp only [decide_eq_false_iff_not]
   omega) (q4S h1 hy)
 rw [AB] at hrun;have hfit:i*t.size+kk+ (e y).cells.toList.length<=arr.toList.length:=by omega
 have hnew:=q1O (e y).cells.toList (i*t.size+kk) C.w arr.toList hcell' hfit;have hkeep:Keeps C.I C.I C.w (C.w.setCells b (i*t.size+kk) (e y).cells.toList):=fun b' hi'=>⟨hi',q0B (fun (eq:b'=b)=>(hw.own b ⟨h,_,hH,rfl,hbb⟩).1 (eq▸hi')) _ _ _⟩;have hbs:∀m,World.bsize C.w b=some m->World.bsize (C.w.setCells b (i*t.size+kk) (e y).cells.toList) b=some m:=fun m hm=>by unfold World.bsize at hm⊢;rw [hnew];rw [hcell] at hm;simp only [AR] at hm⊢;rw [q0u hfit,Au];exact hm
 have hev:Evo C {C with w:=C.w.setCells b (i*t.size+kk) (e y).cells.toList}:=⟨Af _,fun _ _=>rfl,hkeep,fun b' m hm=>by
  by_cases hbb':b'=b
  . subst hbb';exact hbs m hm
  unfold World.bsize at hm⊢;rw [q0B hbb'];exact hm⟩
 obtain ⟨g1,g2,g3⟩:=z1h (so':=.row t (xs.set i d')) hw hH rfl rfl hbb (C.w.setCells b (i*t.size+kk) (e y).cells.toList) (fun b' hb'=>q0B hb' _ _ _) (q1m _ _ _)
  hbs (q1V _ _ _) (q1o _ _ _) (q0Z _ _ _)
  (.inr ⟨b,_,T,fz,hbb,hnew,by rw [AR,q0u hfit,Au];exact hfz,by rw [Bk];have:=q0u hfit;rw [Au] at this;simp only [AR,this];exact hsz,fun j d hd=>by
   by_cases hj:j=i
   . subst hj;rw [Ar hi] at hd;cases hd;have hold:xs[j]?=some (xs.getD j t.dflt):=by rw [Aa,Ac hi];rfl
     obtain ⟨us,r1,r2⟩:=hrow j _ hold;have hul:=Ty.rel_size _ _ _ r1;refine ⟨splice us kk (e y).cells.toList,?_,fun k u hu=> ?_⟩
     . refine Ty.rd_rel (C:={C with w:=C.w.setCells b (j*t.size+kk) (e y).cells.toList}) _ _ _ _ _ hr hp (q0h hev (q4s (Ty.cells_den _ _ _ r1) hy))
     have hlt:=(Ag.1 hu).1;rw [q0u (by omega)] at hlt;rw [q0o hnew,q2t hfit];rw [q2t (by omega)] at hu;rw [Ae];have hc:=fun u hu=>r2 k u hu;simp only [Ae] at hc;rw [q0o hcell'] at hc;split at hu
     . rw [if_pos (by omega)];exact hc u hu
     rw [if_neg (by omega)];split at hu
     . rw [if_pos (by omega),<-hu];congr 1;omega
     rw [if_neg (by omega)];exact hc u hu
   rw [Aq (Ne.symm hj)] at hd;obtain ⟨us,r1,r2⟩:=hrow j d hd;have hul:=Ty.rel_size _ _ _ r1;refine ⟨us,Ty.rel_keep hkeep _ _ _ r1,fun k u hu=> ?_⟩;have hlt:=(Ag.1 hu).1;have hc:=r2 k u hu;simp only [Ae] at hc⊢;rw [q0o hcell'] at hc;rw [q0o hnew,q2t hfit];rcases Nat.lt_or_gt_of_ne hj with hj|hj
   . have:(j+1)*t.size<=i*t.size:=A4 _ hj;rw [Nat.add_mul] at this;rw [if_pos (by omega)];exact hc
   have:(i+1)*t.size<=j*t.size:=A4 _ hj;rw [Nat.add_mul] at this
   rw [if_neg (by omega),if_neg (by omega)];exact hc⟩)
 refine ⟨_,undef,_,_,hk,.inr ⟨?_,rfl⟩,g1,g2,by rw [SV.den];trivial⟩;have hsz':(e y).cells.size=n:=by rw [<-Au];exact hlen
 simp [execOp,hop,hx,Instr.storeAt,Instr.sureAddr,Result.andThen,storeVar,q0m hs,hsz',hrun]

def z0H(f:Nat->α)(s:Nat)(hf:∀j,f (s+j)=f j):∀n,(List.range ((n+1)*s)).map f=(List.range s).map f++(List.range (n*s)).map f:=by intro n;rw [Nat.add_mul,Cb,Bs (n*s) s,List.range_add,Br,BS];congr 1;apply Ba;intro j _;exact hf j
theorem q5u{I:Nat->Prop}{w:World}{d:t.den}{zl:List Value}(f:Nat->Value)(hz:(List.range t.size).map f=zl)(hf:∀j,f (t.size+j)=f j)(hd:t.rel I w d zl):∀n,relL I w t (List.replicate n d) ((List.range (n*t.size)).map f)
 |0=>by simp [relL]
 |n+1=>by rw [z0H f t.size hf,hz,Cj];exact ⟨_,_,rfl,hd,q5u f hz hf hd n⟩

def Ty.isZero:Ty->List Value->Bool
 |.u8,[.int .u8 n]=>n==0
 |.int k,[.int k' n]=>k==k'&& n==0
 |.bool,[.bool b]=> !b
 |.str,[.string s]=>s.size==0
 |.slice _,[.slice none 0 0]=>true
 |.prod a b,vs=>a.isZero (vs.take a.size) && b.isZero (vs.drop a.size)
 |.unit,[]=>true
 |.ptr _,[.pointer none]=>true
 |.arr n t,vs=>vs.length==n&& decide (t.size=1) && vs.all fun v=>t.isZero [v]
 |_,_=>false
theorem Ty.isZero_rel{I:Nat->Prop}{w:World}:∀ {t:Ty} {vs:List Value},t.isZero vs=true->t.rel I w t.dflt vs
 |.prod a b,vs,h=>by simp only [Ty.isZero,Am] at h;exact ⟨_,_,(AJ a.size vs).symm,isZero_rel h.1,isZero_rel h.2⟩
 |.u8,vs,h=>by
  unfold Ty.isZero at h;split at h<;>first| (cases h;done) |skip
  all_goals simp_all [Ty.rel,Ty.dflt]
 |.int k,vs,h=>by
  unfold Ty.isZero at h;split at h<;>first| (cases h;done) |skip
  all_goals simp_all [Ty.rel,Ty.dflt]
 |.bool,vs,h=>by
  unfold Ty.isZero at h;split at h<;>first| (cases h;done) |skip
  all_goals simp_all [Ty.rel,Ty.dflt]
 |.str,vs,h=>by
  unfold Ty.isZero at h;split at h<;>first| (cases h;done) |skip
  all_goals simp_all [Ty.rel,Ty.dflt]
 |.slice t,vs,h=>by
  unfold Ty.isZero at h;split at h<;>first| (cases h;done) |skip
  all_goals simp_all [Ty.rel,Ty.dflt]
  all_goals exact ⟨_,_,_,⟨rfl,rfl,rfl⟩,rfl,Af _,by omega⟩
 |.unit,vs,h=>by
  unfold Ty.isZero at h;split at h<;>first| (cases h;done) |skip
  all_goals simp_all [Ty.rel,Ty.dflt]
 |.arr n t,vs,h=>by
  simp only [Ty.isZero,Am,beq_iff_eq,decide_eq_true_eq,Bb] at h;obtain ⟨⟨h1,_⟩,h3⟩:=h;refine ⟨by simp [Ty.dflt],vs.map fun v=>[v],?_,by simp [Ty.dflt,h1],fun i x us hx hu=> ?_⟩
  . clear h1 h3;induction vs with
    |nil=>rfl
    |cons v vs ih=>rw [AC,A7,<-ih];rfl
  simp only [Ty.dflt] at hx;obtain ⟨hi,rfl⟩:=Ag.1 hx;rw [AF] at hu;rw [List.getElem_replicate];cases hv:vs[i]? with
  |none=>simp [hv] at hu
  |some v=>simp [hv] at hu;subst hu;exact isZero_rel (h3 v (BN hv))
 |.ptr t,vs,h=>by
  unfold Ty.isZero at h;split at h<;>first| (cases h;done) |skip
  all_goals simp_all [Ty.rel,Ty.dflt]
 |.clo f t,vs,h=>by simp [Ty.isZero] at h
 |.clp f t,vs,h=>by simp [Ty.isZero] at h
 |.mbs t,vs,h=>by simp [Ty.isZero] at h

variable {i:TypeInfo}{z:Value}
theorem q9g{T e:TypeId}{y:Operand}{k1 k2:IntKind}{n c:Int}(hop:o.op= .makeSlice T x y)(ht:P.underlying T=some (.slice e))(hi:P.info? e=some i)(hz:i.zero=some z)(hsz:i.size=t.size)(hzs:z.cells.size=t.size)(hpos:0<t.size)
 (hx:ev x= .raw (.int k1 n))(hy:ev y= .raw (.int k2 c))(h0:0<=n)(hnc:n<=c)(hc:c.toNat*i.bytes<=140737488355328)(hc2:c<=1125899906842624)(hd:t.isZero z.cells.toList=true)
 (hk:K (.ret (.bld H.length t n.toNat)) (H++ [.row t (List.replicate n.toNat t.dflt)])):OpV P o ev H K:=by
 refine q0O (by rw [hop];intro c hc;cases hc) fun C e' hw hv=> ?_;have h1:=hv x (by rw [hop];simp [Op.operands]);have h2:=hv y (by rw [hop];simp [Op.operands]);rw [hx,SV.den] at h1;rw [hy,SV.den] at h2
 let f:Nat->Value:=fun j=>z.cells[j%z.cells.size]!
 have hf0:(List.range t.size).map f=z.cells.toList:=by
  apply Aw
  . simp [hzs]
  intro j h1 h2;simp only [AG,Ay,f];have hj:j<z.cells.size:=by simpa using h2
  rw [AV hj,getElem!_pos z.cells j hj];simp
 have hf1:∀j,f (t.size+j)=f j:=fun j=>by simp only [f,hzs];rw [Nat.add_mod_left]
 have hsplit:(List.range (c.toNat*t.size)).map f=(List.range (n.toNat*t.size)).map f++((List.range ((c.toNat-n.toNat)*t.size)).map (n.toNat*t.size+ ·)).map f:=by rw [<-Br,<-List.range_add,<-Nat.add_mul];congr 3;omega
 have hr:=q5u (I:=C.I) (w:=C.w) f hf0 hf1 (Ty.isZero_rel hd) n.toNat
 obtain ⟨q1,q2,q3⟩:=q3J (T:=e) (rest:=((List.range ((c.toNat-n.toNat)*t.size)).map (n.toNat*t.size+ ·)).map f) hw (n:=n.toNat) (c:=c.toNat) hr (by simp) (by omega) (by
  simp only [AX,Bo,<-Nat.add_mul]
  exact A4 _ (by omega))
 refine ⟨_,_,_,_,hk,.inl ?_,q1,q2,q3⟩;have hbig:(i.bytes:Int)*c<=281474976710656:=by
  have:((c.toNat*i.bytes:Nat):Int)=(i.bytes:Int)*c:=by rw [Int.natCast_mul,CK (by omega),Int.mul_comm]
  omega
 have harr:madeCells z.cells (c.toNat*i.size)=((List.range (n.toNat*t.size)).map f++((List.range ((c.toNat-n.toNat)*t.size)).map (n.toNat*t.size+ ·)).map f).toArray:=by rw [<-hsplit,hsz];apply Array.ext';simp [madeCells,f]
 have hrun:=run_make C.w T e i z ht hi hz k1 k2 n c h0 hnc hbig (by omega);rw [harr] at hrun;simp only [execOp,hop,Sem.run_bind,h1,h2,hrun,Result.andThen,Sem.run_pure];rfl

variable {C:Cx}{c:Nat}
def z9z(hw:Wd C H){vs rest:List Value}{T:TypeId}{n:Nat}{fz:Nat×Nat}(hr:relL C.I C.w t xs vs)(hnc:n<=c)(hc:c*t.size<=vs.length+rest.length)(hfz:∀i,i< (vs++rest).length->¬(fz.1<=i∧i<fz.2)):
 Wd (C.grow (.cells (vs++rest).toArray T fz)) (H++ [.row t xs])∧Ext ⟨C,H⟩ (C.grow (.cells (vs++rest).toArray T fz)) (H++ [.row t xs])∧
  (SV.bld H.length t n).den (C.grow (.cells (vs++rest).toArray T fz)) (.slice (some ⟨C.w.heap.size,0,none⟩) n c):=by
 have he:=q6C hw.imm (.cells (vs++rest).toArray T fz);have hl:=q0Q hr
 obtain ⟨g1,g2⟩:=q5H hw (.cells (vs++rest).toArray T fz) (.row t xs) (by
  refine .inr ⟨C.w.heap.size,(vs++rest).toArray,T,fz,by simp [Cx.grow],q1y _ _,by simpa using hfz,by simp [<-hl],?_⟩;refine q3W (q3b he.I hr) fun j u hu=> ?_;have:(C.grow (.cells (vs++rest).toArray T fz)).w.heap[C.w.heap.size]?=some (.cells (vs++rest).toArray T fz):=q1y _ _;rw [Ae,q0o this,Ai (Ag.1 hu).1]
  exact hu)
 refine ⟨g1,g2,?_⟩;rw [SV.den];refine ⟨by simp [Cx.grow,hw.n],.inr ⟨C.w.heap.size,c,(vs++rest).length,by simp [Cx.grow,hw.n],rfl,hnc,?_,by simpa using hc⟩⟩;unfold World.bsize;rw [show (C.grow (.cells (vs++rest).toArray T fz)).w.heap[C.w.heap.size]?=some (.cells (vs++rest).toArray T fz) from q1y _ _];simp

theorem z1z{src dst e:TypeId}{s:ByteArray}(hop:o.op= .convert src dst x)(hs:P.underlying src=some .string)(hd:P.underlying dst=some (.slice e))(he:P.underlying e=some (.int .u8))(hx:ev x= .raw (.string s))
 (hk:K (.ret (.bld H.length .u8 s.size)) (H++ [.row .u8 (bytesOf s)])):OpV P o ev H K:=by
 refine q0O (by rw [hop];intro c hc;cases hc) fun C e' hw hv=> ?_;have h1:=hv x (by rw [hop];simp [Op.operands]);rw [hx,SV.den] at h1;have hrun:=run_bytes_of_string (P:=P) C.w src dst e s hs hd he;have hcap:s.size<=grownCap C.w s.size 0 e:=by simp [grownCap,Question.cut]
 have harr:bytesRow s (grownCap C.w s.size 0 e)=((bytesOf s).map (fun b:UInt8=>Value.int .u8 b.toNat)++List.replicate (grownCap C.w s.size 0 e-s.size) (Value.int .u8 0)).toArray:=by apply Array.ext';simp [bytesRow,bytesOf]
 have hbl:(bytesOf s).length=s.size:=Au;obtain ⟨q1,q2,q3⟩:=z9z (t:=.u8) (T:=e) (H:=H) (fz:=((bytesRow s (grownCap C.w s.size 0 e)).size,(bytesRow s (grownCap C.w s.size 0 e)).size+1)) (rest:=List.replicate (grownCap C.w s.size 0 e-s.size) (Value.int .u8 0)) (q2A hw) (n:=s.size) (c:=grownCap C.w s.size 0 e)
  (q4f C.drew.I C.drew.w (bytesOf s)) hcap (by simp [Ty.size,hbl];omega) (by
   intro i hi;rw [harr];simp only [AR]
   omega)
 refine ⟨_,_,_,_,hk,.inl ?_,q1,(q1H C H).trans q2,q3⟩;simp only [execOp,hop,h1,Sem.run_bind,hrun,Result.andThen,Sem.run_pure];rw [<-harr];rfl

def j3D:SV.le (.fsl t xs) (.isl t xs):=fun C v h=>by simp only [SV.den] at h⊢;exact h.1
def SV.wk:SV->SV
 |.fsl t xs=>.isl t xs
 |s=>s
def j0a(s:SV):SV.le s s.wk:=by cases s<;>first|exact SV.le_refl _|exact j3D

def z5W(hw:Wd C H){vs rest:List Value}{T:TypeId}(hr:relL C.I C.w t xs vs)(hc:xs.length<=c)(hlen:xs.length<=1125899906842624):
 ∃C',C'.w=C.w.alloc (.cells (vs++rest).toArray T)∧Wd C' H∧Ext ⟨C,H⟩ C' H∧(SV.isl t xs).den C' (.slice (some ⟨C.w.heap.size,0,none⟩) xs.length c):=by
 let D:Cx:={C with I:=fun b=>C.I b∨b=C.w.heap.size,w:=C.w.alloc (.cells (vs++rest).toArray T)}
 have hsz:D.w.heap.size=C.w.heap.size+1:=by show (C.w.heap.push _).size=_;simp
 have hk:Keeps C.I D.I C.w D.w:=fun b hb=>⟨.inl hb,q1x _ _ (hw.imm b hb)⟩
 have hev:Evo C D:=⟨Af _,fun _ _=>rfl,hk,fun b m hm=>by
  have:=q9P hm;unfold World.bsize at hm⊢
  rw [q1x _ _ this];exact hm⟩
 have hnew:D.w.heap[C.w.heap.size]?=some (.cells (vs++rest).toArray T):=q1y _ _;refine ⟨D,rfl,⟨hw.n,fun h o ho=> ?_,fun b hb=> ?_,hw.inj,?_⟩,⟨hev,by rw [hsz];exact CE _,rfl,rfl,rfl,fun b hb _=>q1x _ _ hb,?_,fun b hb=>.inr hb,fun _ _ h=>h⟩,?_⟩
 . by_cases hl:o.live=true
   . exact q0E (C':=D) hk h rfl (fun b hb=>q1x _ _ (hw.own b ⟨h,o,ho,hl,hb⟩).2) (q0h hev) (hw.obj h o ho)
   cases o<;>first|trivial|simp [SObj.live] at hl
 . have:=hw.own b hb;exact ⟨fun hi=>hi.elim this.1 (by omega),by omega⟩
 . rintro b (hb|rfl)
   . have:=hw.imm b hb;omega
   omega
 . rintro b (hb|rfl)
   . exact .inl hb
   exact .inr ⟨.inl (Af _),fun c T fz hc=>by rw [hnew] at hc;cases hc;simp⟩
 rw [SV.den];refine ⟨_,_,_,rfl,rfl,hc,hlen,.inr ⟨C.w.heap.size,0,rfl,.inr rfl,?_⟩⟩;refine q3W (q3b hk hr) fun j u hu=> ?_;rw [Ae,q0o hnew,Ai (Ag.1 hu).1];exact hu

variable {w:World}{A:Option Addr}{bb:Bool}
def q7W{tS tX e:TypeId}{n:Nat}{xv:Value}(ht:P.underlying tS=some (.slice e))(hx:srcType P tX=some bb)(hi:P.info? e=some i)(hlen:(Builtin.lenOf xv).run P w= .ok 0 w)(hnc:n<=c)
 (hfc:(Builtin.firstCells i.size 0 xv).run P w= .ok #[] w):
 (Builtin.append_ #[tS,tX] ty #[.slice A n c,xv]).run P w= .ok (.slice A n c) w:=by
 rcases q2j hx with ⟨e',hd⟩ |hd<;>clear hx<;>have hd:=run_underlying' hd
 all_goals cases A<;>simp [Builtin.append_,run_underlying' ht,sizeOf,typeInfo,hi,hd,hlen,hfc,hnc,storeCells]

theorem q8g{c:Call}{y:Operand}{tS tX e:TypeId}{ys:List t.den}{p:Prop}(hop:o.op= .call c)(hc:c.callee= .builtin .append)(ha:c.args= #[x,y])(hty:c.argTypes= #[tS,tX])
 (ht:P.underlying tS=some (.slice e))(hx:srcType P tX=some bb)(hi:P.info? e=some i)(hsz:i.size=t.size)(hz:i.zero=some z)
 (hdst:ev x= .fsl t xs)(hsrc:srcS t H (ev y)=some (ys,p))(hp:p)
 (h63:xs.length+ys.length<=1125899906842624)(hb:(xs.length+ys.length)*i.bytes<=140737488355328)
 (hk:K (.ret (.isl t (xs++ys))) H):OpV P o ev H K:=by
 refine q0O (by rw [hop];intro c hc;cases hc) fun C e' hw hv=> ?_;have h0:=hv x (by rw [hop];simp [Op.operands,Call.operands,hc,ha]);have h1:=hv y (by rw [hop];simp [Op.operands,Call.operands,hc,ha]);rw [hdst,SV.den] at h0;obtain ⟨h0,A,hv0⟩:=h0;obtain ⟨news,hr,hlen,hfc⟩:=z3h hw h1 hsrc hp;obtain ⟨news',hr',hlen',hfc'⟩:=z3h (q2A hw) (q0Y (q2m C) h1) hsrc hp;rw [<-hsz] at hfc hfc';have fin:∀r C',(Builtin.append_ #[tS,tX] o.type #[e' x,e' y]).run P C.w= .ok r C'.w->Wd C' H->Ext ⟨C,H⟩ C' H->(SV.isl t (xs++ys)).den C' r->
  ∃s v H' C',K (.ret s) H'∧((execOp e' o).run P C.w= .ok (.value v) C'.w∨((execOp e' o).run P C.w= .ok .skip C'.w∧v=undef))∧Wd C' H'∧Ext ⟨C,H⟩ C' H'∧s.den C' v:=fun r C' hrun g1 g2 g3=>
  ⟨_,r,_,C',hk,.inl (by simp [execOp,hop,resolve,hc,ha,hty,invoke,builtin,hrun,Result.andThen]),g1,g2,g3⟩
 by_cases hy:ys.length=0
 . obtain rfl:ys= []:=A5 hy;obtain rfl:news= []:=by cases hr;rfl
   refine fin (e' x) C ?_ hw (Ext.refl _ _) ?_
   . rw [hv0];exact q7W ht hx hi hlen (Af _) (by simpa using hfc)
   rw [Ah,SV.den];exact h0
 obtain ⟨vs,v1,v2⟩:∃vs,relL C.drew.I C.drew.w t xs vs∧(Builtin.firstCells t.size xs.length (.slice A xs.length xs.length)).run P C.drew.w= .ok vs.toArray C.drew.w:=by
  refine q1D (P:=P) (C:=C.drew) (A:=A) (c:=xs.length) (ys:=xs) ?_;obtain ⟨A',n,c',e1,hn,_,_,hd⟩:=h0;rw [hv0] at e1;simp only [List.cons.injEq,Value.slice.injEq,and_true] at e1;obtain ⟨rfl,_,_⟩:=e1;rcases hd with hd| ⟨b,off,rfl,_,hd⟩
  . exact .inl hd
  refine .inr ⟨b,off,rfl,fun j d hj=> ?_⟩;obtain ⟨us,a1,a2⟩:=hd j d hj;exact ⟨us,Ty.rel_keep (q2m C).I _ _ _ a1,a2⟩
 rw [<-hsz] at v2;obtain ⟨cap,hcap,hrun⟩:=q3B (P:=P) (w:=C.w) (ty:=o.type) ht hx hi hz hlen (sLen:=xs.length) (sCap:=xs.length) (by omega) (by omega) hb v2 hfc';obtain ⟨C',hC',g1,g2,g3⟩:=z5W (T:=e) (rest:=(Builtin.zeroCells z.cells (cap- (xs.length+ys.length))).toList) (q2A hw) (q1B v1 hr') (c:=cap) (by simpa using hcap) (by simpa using h63);refine fin _ C' ?_ g1 ((q1H C H).trans g2) g3;rw [hv0,hrun,hC'];simp only [Ab];rfl

variable {kk:IntKind}
def q5v{tS tX e:TypeId}(ht:P.underlying tS=some (.slice e))(hx:P.underlying tX=some (.int kk))(hi:P.info? e=some i):
 (Builtin.append_ #[tS,tX] ty #[.slice A c c,.int .i64 0]).run P w= .ok (.slice A c c) w:=by
 have hd:=run_underlying' hx;have hwr:IntKind.i64.wrap 0=0:=by decide
 cases A<;>simp [Builtin.append_,run_underlying' ht,sizeOf,typeInfo,hi,hd,asInt,asIntOf,hwr,storeCells]

def q6w{tS tX e:TypeId}{base:Option Addr}{old:List Value}{sLen sCap n:Nat}(ht:P.underlying tS=some (.slice e))(hx:P.underlying tX=some (.int kk))(hi:P.info? e=some i)(hz:i.zero=some z)
 (hpos:0<n*i.size)(hroom:sCap<sLen+n)(h63:sLen+n<=1125899906842624)(hb:(sLen+n)*i.bytes<=140737488355328)
 (hold:(Builtin.firstCells i.size sLen (.slice base sLen sCap)).run P w.drew= .ok old.toArray w.drew):
 ∃cap,sLen+n<=cap∧(Builtin.append_ #[tS,tX] ty #[.slice base sLen sCap,.int .i64 n]).run P w= .ok (.slice (some ⟨w.heap.size,0,none⟩) (sLen+n) cap) (w.drew.alloc (.cells (old++(Builtin.zeroCells z.cells n).toList++(Builtin.zeroCells z.cells (cap- (sLen+n))).toList).toArray e)):=by
 refine ⟨(Question.appendCap (sLen+n) sCap e).cut (w.tape w.drawn (.appendCap (sLen+n) sCap e)),by simp [Question.cut],?_⟩;have hfit:=growslice_fits hroom hb;have hn1:¬(sLen+n<=sCap):=by omega
 have hn2':¬((9223372036854775807:Int) < (sLen:Int)+ (n:Int)):=by omega
 have hn3:¬(281474976710656<Builtin.nextslicecap (sLen+n) sCap*i.bytes):=by omega
 have hmax:IntKind.i64.max=9223372036854775807:=by decide
 have hwr:IntKind.i64.wrap (n:Int)=n:=IntWalk.i64_in n (by omega);have hng:¬((n:Int) <0):=by omega
 have hbig:¬((281474976710656:Int) < (n:Int)* (i.bytes:Int)):=by have h1:n*i.bytes<=(sLen+n)*i.bytes:=A4 _ (by omega);have h2:((n*i.bytes:Nat):Int)=(n:Int)* (i.bytes:Int):=Int.natCast_mul _ _;omega
 have hnz:¬(n*i.size=0):=by omega
 have hd:=run_underlying' hx;simp [Builtin.append_,run_underlying' ht,sizeOf,typeInfo,hi,hd,asInt,asIntOf,hwr,hng,hbig,hn1,hmax,hn2',hn3,Question.forced,hold,zeroValue,hz,newRow];rw [if_neg hnz];congr 2;apply congrArg (fun a=>Obj.cells a e);apply Array.ext';simp

theorem j1b{c:Call}{y:Operand}{tS tX e:TypeId}{m:Int}(hop:o.op= .call c)(hc:c.callee= .builtin .append)(ha:c.args= #[x,y])(hty:c.argTypes= #[tS,tX])
 (ht:P.underlying tS=some (.slice e))(hx:P.underlying tX=some (.int kk))(hi:P.info? e=some i)(hsz:i.size=t.size)(hz:i.zero=some z)(hzs:z.cells.size=t.size)(hpos:0<t.size)(hd:t.isZero z.cells.toList=true)
 (hdst:ev x= .fsl t xs)(hsrc:ev y= .raw (.int .i64 m))(h0:0<=m)
 (h63:xs.length+m.toNat<=1125899906842624)(hb:(xs.length+m.toNat)*i.bytes<=140737488355328)
 (hk:K (.ret (.isl t (xs++List.replicate m.toNat t.dflt))) H):OpV P o ev H K:=by
 refine q0O (by rw [hop];intro c hc;cases hc) fun C e' hw hv=> ?_;have h1:=hv x (by rw [hop];simp [Op.operands,Call.operands,hc,ha]);have h2:=hv y (by rw [hop];simp [Op.operands,Call.operands,hc,ha]);rw [hdst,SV.den] at h1;rw [hsrc,SV.den] at h2;obtain ⟨h1,A,hv0⟩:=h1;obtain ⟨n,rfl⟩:∃n:Nat,m=n:=⟨m.toNat,(CK h0).symm⟩;rw [Az] at h63 hb hk;have fin:∀r C',(Builtin.append_ #[tS,tX] o.type #[e' x,e' y]).run P C.w= .ok r C'.w->Wd C' H->Ext ⟨C,H⟩ C' H->(SV.isl t (xs++List.replicate n t.dflt)).den C' r->
  ∃s v H' C',K (.ret s) H'∧((execOp e' o).run P C.w= .ok (.value v) C'.w∨((execOp e' o).run P C.w= .ok .skip C'.w∧v=undef))∧Wd C' H'∧Ext ⟨C,H⟩ C' H'∧s.den C' v:=fun r C' hrun g1 g2 g3=>
  ⟨_,r,_,C',hk,.inl (by simp [execOp,hop,resolve,hc,ha,hty,invoke,builtin,hrun,Result.andThen]),g1,g2,g3⟩
 by_cases hy:n=0
 . subst hy;refine fin (e' x) C ?_ hw (Ext.refl _ _) ?_
   . rw [hv0,h2];exact q5v ht hx hi
   rw [List.replicate_zero,Ah,SV.den];exact h1
 obtain ⟨vs,v1,v2⟩:∃vs,relL C.drew.I C.drew.w t xs vs∧(Builtin.firstCells t.size xs.length (.slice A xs.length xs.length)).run P C.drew.w= .ok vs.toArray C.drew.w:=by
  refine q1D (P:=P) (C:=C.drew) (A:=A) (c:=xs.length) (ys:=xs) ?_;obtain ⟨A',n',c',e1,hn,_,_,hd⟩:=h1;rw [hv0] at e1;simp only [List.cons.injEq,Value.slice.injEq,and_true] at e1;obtain ⟨rfl,_,_⟩:=e1;rcases hd with hd| ⟨b,off,rfl,_,hd⟩
  . exact .inl hd
  refine .inr ⟨b,off,rfl,fun j d hj=> ?_⟩;obtain ⟨us,a1,a2⟩:=hd j d hj;exact ⟨us,Ty.rel_keep (q2m C).I _ _ _ a1,a2⟩
 rw [<-hsz] at v2
 let f:Nat->Value:=fun j=>z.cells[j%z.cells.size]!
 have hf0:(List.range t.size).map f=z.cells.toList:=by
  apply Aw
  . simp [hzs]
  intro j h1 h2;simp only [AG,Ay,f];have hj:j<z.cells.size:=by simpa using h2
  rw [AV hj,getElem!_pos z.cells j hj];simp
 have hf1:∀j,f (t.size+j)=f j:=fun j=>by simp only [f,hzs];rw [Nat.add_mod_left]
 have hr:=q5u (I:=C.drew.I) (w:=C.drew.w) f hf0 hf1 (Ty.isZero_rel hd) n;have hzc:(Builtin.zeroCells z.cells n).toList=(List.range (n*t.size)).map f:=by simp [Builtin.zeroCells,f,hzs]
 rw [<-hzc] at hr;obtain ⟨cap,hcap,hrun⟩:=q6w (P:=P) (w:=C.w) (ty:=o.type) (base:=A) ht hx hi hz (sLen:=xs.length) (sCap:=xs.length) (n:=n) (Nat.mul_pos (by omega) (by omega)) (by omega) h63 hb v2;obtain ⟨C',hC',g1,g2,g3⟩:=z5W (T:=e) (rest:=(Builtin.zeroCells z.cells (cap- (xs.length+n))).toList) (q2A hw) (q1B v1 hr) (c:=cap) (by simpa using hcap) (by simpa using h63);refine fin _ C' ?_ g1 ((q1H C H).trans g2) g3;rw [hv0,h2,hrun,hC'];simp only [Ab,BM];rfl

variable {lo:Option Operand}{a:Option Int}
theorem q3T{e:Operand->Value}{hi mx:Operand}{b m:Int}{isS:Bool}{len cap:Nat}(hlo:∀x∈lo,(ev x).den C (e x))(hhi:(ev hi).den C (e hi))(hmx:(ev mx).den C (e mx))
 (h1:bndV ev lo=some a)(h2:bndV ev (some hi)=some (some b))(h3:bndV ev (some mx)=some (some m))(w:World)(g0:0<=loOf a)(g1:loOf a<=b)(g2:b<=m)(g3:m<=(cap:Int)):
 (Instr.sliceBounds isS len cap (lo.map e) (some (e hi)) (some (e mx))).run P w= .ok ((loOf a).toNat,b.toNat,m.toNat) w:=by
 have hm:=q6a (P:=P) hmx h3 cap (if isS then .slice3Acap else .slice3Alen) w (by omega) (by omega);have hh:=q6a (P:=P) hhi h2 m.toNat (.slice3B) w (by omega) (by omega);cases lo with
 |none=>simp only [bndV,Option.some.injEq] at h1;subst h1;simp [Instr.sliceBounds,loOf,hm,hh]
 |some x=>
  cases a with
  |none=>simp only [bndV] at h1;split at h1<;>simp at h1
  |some n=>simp only [loOf] at*;have:=q6a (P:=P) (hlo x rfl) h1 b.toNat (.slice3C) w g0 (by omega);simp [Instr.sliceBounds,hm,hh,this]

def fullS(f:Bool):SV->SV
 |.isl t xs=>if f then .fsl t xs else .isl t xs
 |s=>s
theorem z5e{T:TypeId}{hi mx:Operand}{b m:Int}{s:SV}{f:Bool}(hop:o.op= .slice T x lo (some hi) (some mx))(hk0:sliceKind P T (ev x)=true)(h1:bndV ev lo=some a)(h2:bndV ev (some hi)=some (some b))(h3:bndV ev (some mx)=some (some m))
 (g0:0<=loOf a)(g1:loOf a<=b)(g2:b<=m)(g3:m<=(lenOfS (ev x):Int))(hf:f=true->b=m)(hne:∀str,ev x≠ .raw (.string str))(hs:sliceTo (loOf a).toNat b.toNat (ev x)=some s)(hk:K (.ret (fullS f s)) H):OpV P o ev H K:=by
 refine q0l (by rw [hop];intro c hc;cases hc) (s:=fullS f s) (fun C e _ hv=> ?_) hk;rw [hop] at hv;have hx:=hv x (by simp [Op.operands]);have hlo:∀y∈lo,(ev y).den C (e y):=fun y hy=>hv y (by simp [Op.operands];cases hy;simp);have hhi:(ev hi).den C (e hi):=hv hi (by simp [Op.operands]);have hmx:(ev mx).den C (e mx):=hv mx (by simp [Op.operands]);have hexec:∀r:Value,(Instr.sliceAt T (e x) (lo.map e) (some (e hi)) (some (e mx))).run P C.w= .ok r C.w->(execOp e o).run P C.w= .ok (.value r) C.w:=fun r hr=>by simp [execOp,hop,hr]
 generalize hsx:ev x=sx at*;unfold sliceKind at hk0;split at hk0
 . exact absurd rfl (hne _)
 . rename_i ty xs;obtain ⟨el,hu,hsz⟩:=q2d hk0;simp only [sliceTo,Option.some.injEq] at hs;subst hs;simp only [lenOfS] at*;rw [SV.den] at hx;obtain ⟨A,n,c,e0,hn,hc,hlim,hd⟩:=hx;simp only [List.cons.injEq,and_true] at e0;subst hn;have hb:=q3T (P:=P) (C:=C) (e:=e) (isS:=true) (len:=xs.length) (cap:=c) hlo hhi hmx h1 h2 h3 C.w g0 g1 g2 (by omega);have hden:(SV.isl ty ((xs.take b.toNat).drop (loOf a).toNat)).den C (.slice (if m.toNat=(loOf a).toNat then A else A.map (·.add ((loOf a).toNat*ty.size))) (b.toNat- (loOf a).toNat) (m.toNat- (loOf a).toNat)):=by
    rw [SV.den];refine ⟨_,_,_,rfl,by simp;omega,by omega,by omega,?_⟩;by_cases hz:b.toNat- (loOf a).toNat=0
    . exact .inl (A5 (by simp;omega))
    rcases hd with rfl| ⟨blk,off,rfl,hI,hd⟩
    . simp at g3;omega
    refine .inr ⟨blk,off+ (loOf a).toNat*ty.size,?_,hI,fun i x hx=> ?_⟩
    . rw [if_neg (by omega)];simp [q0I]
    rw [AA,AN] at hx;split at hx
    . obtain ⟨us,h1,h2⟩:=hd ((loOf a).toNat+i) x hx;exact ⟨us,h1,fun k u hu=>by rw [<-h2 k u hu,Nat.add_mul];congr 2;omega⟩
    cases hx
   refine ⟨.slice (if m.toNat=(loOf a).toNat then A else A.map (·.add ((loOf a).toNat*ty.size))) (b.toNat- (loOf a).toNat) (m.toNat- (loOf a).toNat),hexec _ (by simp [Instr.sliceAt,run_underlying' hu,Instr.slice,e0,hb,q0m hsz]),?_⟩;cases f with
   |false=>exact hden
   |true=>
    have hbm:=hf rfl;subst hbm;simp only [fullS,if_true];simp only [SV.den] at hden⊢;have hl:((xs.take b.toNat).drop (loOf a).toNat).length=b.toNat- (loOf a).toNat:=by simp;omega
    refine ⟨hden,if b.toNat=(loOf a).toNat then A else A.map (·.add ((loOf a).toNat*ty.size)),?_⟩;rw [hl]
 . rename_i h ty n;obtain ⟨el,hu,hsz⟩:=q2d hk0;simp only [sliceTo,Option.some.injEq] at hs;subst hs;simp only [lenOfS] at*;have hx:=q6c hx;rw [SV.den] at hx;obtain ⟨hn,A,c,e0,hc,hd⟩:=hx;have hb:=q3T (P:=P) (C:=C) (e:=e) (isS:=true) (len:=n) (cap:=c) hlo hhi hmx h1 h2 h3 C.w g0 g1 g2 (by omega);refine ⟨.slice (if m.toNat=(loOf a).toNat then A else A.map (·.add ((loOf a).toNat*ty.size))) (b.toNat- (loOf a).toNat) (m.toNat- (loOf a).toNat),hexec _ ?_,?_⟩
   . simp [Instr.sliceAt,run_underlying' hu,Instr.slice,e0,hb,q0m hsz]
   simp only [fullS];rw [SV.den];refine ⟨hn,_,_,rfl,by omega,?_⟩;by_cases hz:b.toNat- (loOf a).toNat=0
   . exact .inl hz
   rcases hd with h0| ⟨blk,hblk,rfl⟩
   . omega
   refine .inr ⟨blk,hblk,?_⟩;rw [if_neg (by omega)];simp [q0I]
 . rename_i h ty off n;obtain ⟨el,hu,hsz⟩:=q2d hk0;simp only [sliceTo,Option.some.injEq] at hs;subst hs;simp only [lenOfS] at*;rw [SV.den] at hx;obtain ⟨hn,A,c,e0,hc,hd⟩:=hx;have hb:=q3T (P:=P) (C:=C) (e:=e) (isS:=true) (len:=n) (cap:=c) hlo hhi hmx h1 h2 h3 C.w g0 g1 g2 (by omega);refine ⟨.slice (if m.toNat=(loOf a).toNat then A else A.map (·.add ((loOf a).toNat*ty.size))) (b.toNat- (loOf a).toNat) (m.toNat- (loOf a).toNat),hexec _ ?_,?_⟩
   . simp [Instr.sliceAt,run_underlying' hu,Instr.slice,e0,hb,q0m hsz]
   simp only [fullS];rw [SV.den];refine ⟨hn,_,_,rfl,by omega,?_⟩;by_cases hz:b.toNat- (loOf a).toNat=0
   . exact .inl hz
   rcases hd with h0| ⟨blk,hblk,rfl⟩
   . omega
   refine .inr ⟨blk,hblk,?_⟩;rw [if_neg (by omega)];simp [q0I,Nat.add_mul]
 . split at hk0
   . rename_i el hu;simp only [sliceTo,Option.some.injEq] at hs;subst hs;simp only [lenOfS] at*;rw [SV.den] at hx;have hb:=q3T (P:=P) (C:=C) (e:=e) (isS:=true) (len:=0) (cap:=0) hlo hhi hmx h1 h2 h3 C.w g0 g1 g2 g3;have e1:(loOf a).toNat=0:=by omega
     have e2:b.toNat=0:=by omega
     have e3:m.toNat=0:=by omega
     rw [e1,e2,e3] at hb;obtain ⟨i,hi'⟩:=Co.1 hk0;refine ⟨_,hexec (.slice none 0 0) ?_,by simp only [fullS];rw [SV.den]⟩;simp [Instr.sliceAt,run_underlying' hu,Instr.slice,hx,hb,sizeOf,typeInfo,hi']
   cases hk0
 . rename_i h ty k0 off n;obtain ⟨el,hu,hsz⟩:=q2d hk0;simp only [sliceTo,Option.some.injEq] at hs;subst hs;simp only [lenOfS] at*;rw [SV.den] at hx;obtain ⟨hn,A,c,e0,hc,hd⟩:=hx;have hb:=q3T (P:=P) (C:=C) (e:=e) (isS:=true) (len:=n) (cap:=c) hlo hhi hmx h1 h2 h3 C.w g0 g1 g2 (by omega);refine ⟨.slice (if m.toNat=(loOf a).toNat then A else A.map (·.add ((loOf a).toNat*ty.size))) (b.toNat- (loOf a).toNat) (m.toNat- (loOf a).toNat),hexec _ ?_,?_⟩
   . simp [Instr.sliceAt,run_underlying' hu,Instr.slice,e0,hb,q0m hsz]
   simp only [fullS];rw [SV.den];refine ⟨hn,_,_,rfl,by omega,?_⟩;by_cases hz:b.toNat- (loOf a).toNat=0
   . exact .inl hz
   rcases hd with h0| ⟨blk,hblk,rfl⟩
   . omega
   refine .inr ⟨blk,hblk,?_⟩;rw [if_neg (by omega)];simp only [q0I,Bz,Nat.add_mul];congr 2;omega
 cases hk0
end
section
open Go

variable [Ghost] {P:Program} {o:Oper} {ev:Operand->SV} {H:List SObj} {K:Out->List SObj->Prop}

def plainK(P:Program)(t:TypeId):Option Nat:=match P.underlying t with
 |some (.int _)=>some 0
 |some .string=>some 1
 |some .bool=>some 2
 |_=>none
def flatK(P:Program):List Field->Nat->Option (List Nat)
 | [],_=>some []
 |f :: fs,i=>match plainK P f.type,flatK P fs (i+1) with
  |some k,some ks=>if f.name≠ "_" ∧f.offset=i∧aggOf P f.type=some none then some (k :: ks) else none
  |_,_=>none
def structK(P:Program)(t:TypeId):Option (List Nat):=match P.underlying t with
 |some (.struct fs)=>if P.stoodInHeld t=false∧P.eqGuardType P.depth t=false then flatK P fs.toList 0 else none
 |_=>none
def eqR:Nat->SV->SV->Option Bool
 |0,.raw (.int k a),.raw (.int k' b)=>if k=k' then some (decide (a=b)) else none
 |1,.raw (.string a),.raw (.string b)=>some (decide (a=b))
 |2,.raw (.bool a),.raw (.bool b)=>some (decide (a=b))
 |_,_,_=>none
def eqRs:List Nat->List SV->List SV->Option Bool
 | [],[],[]=>some true
 |k :: ks,a :: l,b :: l'=>match eqR k a b,eqRs ks l l' with
  |some r,some s=>some (r&& s)
  |_,_=>none
 |_,_,_=>none

variable {C:Cx}{t:TypeId}{v:Value}
theorem j5f{k d:Nat}{a b:SV}{u:Value}{r:Bool}(hk:plainK P t=some k)(h:eqR k a b=some r)(ha:a.den C u)(hb:b.den C v)(w:World):(Op.equalIn (d+1) t u v).run P w= .ok r w:=by
 unfold plainK at hk;unfold eqR at h;split at h
 . rename_i k1 x k2 y;split at h
   . rename_i e;subst e;cases h;rw [SV.den] at ha hb;subst ha hb;split at hk<;>first| (cases hk;done) |skip
     rw [run_equalIn_int w d t _ _ _ _ (by assumption)];rfl
   cases h
 . cases h;rw [SV.den] at ha hb;subst ha hb;split at hk<;>first| (cases hk;done) |skip
   rw [run_equalIn_string w d t _ _ (by assumption),q9h]
 . cases h;rw [SV.den] at ha hb;subst ha hb;split at hk<;>first| (cases hk;done) |skip
   rw [run_equalIn_bool' w d t _ _ (by assumption)];rfl
 cases h

def q6R{pre vs:List Value}(h:aggOf P t=some none)(w:World):(part t (pre++v :: vs).toArray pre.length).run P w= .ok v w:=by simp [part,q2z h]

theorem q6u{C:Cx}{d:Nat}(w:World):∀ (fs:List Field) (i:Nat) (ks:List Nat) (l l':List SV) (vs us pre pre':List Value) (r:Bool),flatK P fs i=some ks->eqRs ks l l'=some r->SV.denL C l vs->SV.denL C l' us->pre.length=i->pre'.length=i->
 (Op.eqFields (d+1) (pre++vs).toArray (pre'++us).toArray fs).run P w= .ok r w
 | [],i,ks,l,l',vs,us,pre,pre',r,hf,he,hl,hl',h1,h2=>by
  cases hf;cases l with
  |nil=>
   cases l' with
   |nil=>cases he;simp [Op.eqFields]
   |cons _ _=>simp [eqRs] at he
  |cons _ _=>cases l'<;>simp [eqRs] at he
 |f :: fs,i,ks,l,l',vs,us,pre,pre',r,hf,he,hl,hl',h1,h2=>by
  unfold flatK at hf;split at hf
  . rename_i k ks' hk hks;split at hf
    . rename_i hc;cases hf;obtain ⟨hn,ho,ha⟩:=hc;cases l with
      |nil=>cases l'<;>simp [eqRs] at he
      |cons a l=>
       cases l' with
       |nil=>simp [eqRs] at he
       |cons b l'=>
        obtain ⟨v,vs,rfl,dv,dl⟩:=q0d.1 hl;obtain ⟨u,us,rfl,du,dl'⟩:=q0d.1 hl';simp only [eqRs] at he;split at he
        . rename_i r1 r2 he1 he2;cases he;have ih:=q6u (d:=d) w fs (i+1) ks' l l' vs us (pre++ [v]) (pre'++ [u]) r2 hks he2 dl dl' (by simp [h1]) (by simp [h2]);rw [List.append_assoc,List.append_assoc,List.singleton_append,List.singleton_append] at ih;have p1:(part f.type (pre++v :: vs).toArray f.offset).run P w= .ok v w:=by rw [ho,<-h1];exact q6R ha w
          have p2:(part f.type (pre'++u :: us).toArray f.offset).run P w= .ok u w:=by rw [ho,<-h2];exact q6R ha w
          have p3:=j5f (d:=d) hk he1 dv du w;simp only [Op.eqFields];rw [if_pos hn];simp only [Sem.run_bind,p1,p2,p3,Result.andThen_ok,Sem.run_ite];cases r1
          . simp
          simpa using ih
        cases he
    cases hf
  cases hf

variable {op:BinOp}{x:Operand}
theorem z7i{t':TypeId}{y:Operand}{ks:List Nat}{l l':List SV}{r:Bool}(hop:o.op= .binOp op t x y t')(ho:op= .eql∨op= .neq)(hs:structK P t=some ks)(hx:ev x= .agg l)(hy:ev y= .agg l')(h:eqRs ks l l'=some r)
 (hk:K (.ret (.raw (.bool (if op= .eql then r else !r)))) H):OpV P o ev H K:=by
 refine q0l (by rw [hop];intro c hc;cases hc) (fun C e _ hv=> ?_) hk;have h0:=hv x (by rw [hop];simp [Op.operands]);have h1:=hv y (by rw [hop];simp [Op.operands]);rw [hx,SV.den] at h0;rw [hy,SV.den] at h1;obtain ⟨vs,h0,hl⟩:=h0;obtain ⟨us,h1,hl'⟩:=h1;refine ⟨.bool (if op= .eql then r else !r),?_,by rw [SV.den]⟩;unfold structK at hs;split at hs
 . rename_i fs hu;split at hs
   . rename_i hc;have hfo:P.fieldsOf t=fs:=by simp [Program.fieldsOf,hu]
     have hr:(Op.equalIn 10000 t (.agg vs.toArray) (.agg us.toArray)).run P C.w= .ok r C.w:=by rw [show (10000:Nat)=9999+1 from rfl,run_equalIn_struct C.w 9999 t _ _ (by rw [hfo];exact hu) hc.1,hfo];exact q6u (d:=9998) C.w fs.toList 0 ks l l' vs us [] [] r hs h hl hl' rfl rfl
     have hg:=run_eqGuard_agg C.w op t x y vs.toArray us.toArray hc.2;rcases ho with rfl|rfl
     . simp [execOp,hop,h0,h1,hg,run_eql_struct,hr,Result.andThen]
     simp [execOp,hop,h0,h1,hg,run_neq_struct,hr,Result.andThen]
   cases hs
 cases hs

def kSlice(P:Program)(t:TypeId):Bool:=match P.underlying t with|some (.slice _)=>true|_=>false
theorem z8k(h:kSlice P t=true):∃e,P.underlying t=some (.slice e):=by unfold kSlice at h;split at h;exact ⟨_,by assumption⟩;cases h
def SV.emp:SV->Option Prop
 |.isl _ xs=>some (xs= [])
 |.bld _ _ n=>some (n=0)
 |.osl _ _ _ n=>some (n=0)
 |_=>none
theorem j2Y{s:SV}{E:Prop}(h:s.emp=some E)(hd:s.den C v):∃A n c,v= .slice A n c∧(A=none->E):=by
 unfold SV.emp at h;split at h<;>cases h<;>rw [SV.den] at hd
 . obtain ⟨A,n,c,hv,_,_,_,hx⟩:=hd;cases hv;refine ⟨A,n,c,rfl,fun ha=> ?_⟩;rcases hx with rfl| ⟨b,off,rfl,_⟩
   . rfl
   cases ha
 . obtain ⟨_,⟨_,rfl,rfl⟩ | ⟨b,c,m,_,rfl,_⟩⟩:=hd
   . exact ⟨none,0,0,rfl,fun _=>rfl⟩
   exact ⟨_,_,c,rfl,fun h=>by cases h⟩
 obtain ⟨_,A,c,rfl,_,hx⟩:=hd;refine ⟨A,_,c,rfl,fun ha=> ?_⟩;rcases hx with rfl| ⟨b,_,rfl⟩
 . rfl
 cases ha
def j4s{e:TypeId}(hu:P.underlying t=some (.slice e))(A:Option Addr)(n c k:Nat)(w:World):(Op.equalIn (k+1) t (.slice A n c) (.slice none 0 0)).run P w= .ok A.isNone w:=by
 have:(underlying t).run P w= .ok (.slice e) w:=by simp [underlying,hu]
 cases A<;>simp [Op.equalIn,this]
def z3V(hs:kSlice P t=true)(A:Option Addr)(n c:Nat)(w:World):
 (binOp .eql t (.slice A n c) (.slice none 0 0)).run P w= .ok (.bool A.isNone) w∧(binOp .neq t (.slice A n c) (.slice none 0 0)).run P w= .ok (.bool !A.isNone) w:=by
 obtain ⟨e,hu⟩:=z8k hs;have hr:(Op.equal t (.slice A n c) (.slice none 0 0)).run P w= .ok A.isNone w:=j4s hu A n c 9999 w;cases A<;>simp [binOp,hr]
def z4f{t':TypeId}{y:Operand}{E:Prop}(hop:o.op= .binOp op t x y t')(ho:op= .eql∨op= .neq)(hs:kSlice P t=true)(hx:(ev x).emp=some E)(hy:ev y= .raw (.slice none 0 0))
 (hk:∀b:Bool,(b=true->E)->K (.ret (.raw (.bool (if op= .eql then b else !b)))) H):OpV P o ev H K:=by
 refine q0O (by rw [hop];intro c hc;cases hc) fun C e hw hv=> ?_;have h0:=hv x (by rw [hop];simp [Op.operands]);have h1:=hv y (by rw [hop];simp [Op.operands]);rw [hy,SV.den] at h1;obtain ⟨A,n,c,h0,hE⟩:=j2Y hx h0;obtain ⟨g1,g2⟩:=z3V hs A n c C.w;have hgd:(eqGuard op t x y (.slice A n c) (.slice none 0 0)).run P C.w= .ok () C.w:=by unfold eqGuard;split<;>simp
 refine ⟨_,.bool (if op= .eql then A.isNone else !A.isNone),H,C,hk A.isNone (fun h=>hE (by simpa using h)),.inl ?_,hw,Ext.refl _ _,by rw [SV.den]⟩;rcases ho with rfl|rfl
 . simp [execOp,hop,h0,h1,hgd,g1,Result.andThen]
 simp [execOp,hop,h0,h1,hgd,g2,Result.andThen]
def q8B{t':TypeId}{y:Operand}(hop:o.op= .binOp op t x y t')(ho:op= .eql∨op= .neq)(hs:kSlice P t=true)(hx:ev x= .raw (.slice none 0 0))(hy:ev y= .raw (.slice none 0 0))
 (hk:K (.ret (.raw (.bool (if op= .eql then true else false)))) H):OpV P o ev H K:=by
 refine q0l (by rw [hop];intro c hc;cases hc) (fun C e _ hv=> ?_) hk;have h0:=hv x (by rw [hop];simp [Op.operands]);have h1:=hv y (by rw [hop];simp [Op.operands]);rw [hx,SV.den] at h0;rw [hy,SV.den] at h1;obtain ⟨g1,g2⟩:=z3V hs none 0 0 C.w;have hgd:(eqGuard op t x y (.slice none 0 0) (.slice none 0 0)).run P C.w= .ok () C.w:=by unfold eqGuard;split<;>simp
 refine ⟨.bool (if op= .eql then true else false),?_,by rw [SV.den]⟩;rcases ho with rfl|rfl
 . simp [execOp,hop,h0,h1,hgd,g1,Result.andThen]
 simp [execOp,hop,h0,h1,hgd,g2,Result.andThen]
theorem j1Z{s:SV}{b:Bool}(h:s.den C v):(SV.tup [s,.raw (.bool b)]).den C (.tuple #[v,.bool b]):=by rw [SV.den];exact ⟨[v,.bool b],rfl,q0d.2 ⟨_,_,rfl,h,q0d.2 ⟨_,_,rfl,by rw [SV.den],q0y.2 rfl⟩⟩⟩
theorem q7i{T:TypeId}(h:notIface P T=true):∃d,P.underlying T=some d∧∀ms,d≠ .interface ms:=by
 unfold notIface at h;split at h
 . cases h
 . rename_i d hne hd;exact ⟨d,hd,fun ms e=>hne ms e⟩
 cases h
def z5n{xT T:TypeId}{y:SV}(hop:o.op= .typeAssert x xT T true)(hn:notIface P T=true)(hx:ev x= .iface T y)(hk:K (.ret (.tup [y,.raw (.bool true)])) H):OpV P o ev H K:=by refine q0l (by rw [hop];intro c hc;cases hc) (fun C e _ hv=> ?_) hk;have h1:=hv x (by rw [hop];simp [Op.operands]);rw [hx,SV.den] at h1;obtain ⟨u,h1,h2⟩:=h1;refine ⟨.tuple #[u,.bool true],?_,j1Z h2⟩;obtain ⟨d,hd,hni⟩:=q7i hn;cases d<;>first|exact absurd rfl (hni _) |simp [execOp,hop,h1,Instr.typeAssert,run_underlying' hd,Result.andThen]
def z1t{xT T:TypeId}{z:Value}(hop:o.op= .typeAssert x xT T true)(hn:notIface P T=true)(hz:zeroOf P T=some z)(hx:ev x= .raw .nilIface∨∃T' y,T'≠T∧ev x= .iface T' y)(hk:K (.ret (.tup [.ofV z,.raw (.bool false)])) H):OpV P o ev H K:=by
 refine q0l (by rw [hop];intro c hc;cases hc) (fun C e _ hv=> ?_) hk;have h1:=hv x (by rw [hop];simp [Op.operands]);refine ⟨.tuple #[z,.bool false],?_,j1Z (z7B z)⟩;have hzr:=q8F hz C.w;obtain ⟨d,hd,hni⟩:=q7i hn;rcases hx with hx| ⟨T',y,hne,hx⟩ <;>rw [hx,SV.den] at h1
 . cases d<;>first|exact absurd rfl (hni _) |simp [execOp,hop,h1,Instr.typeAssert,run_underlying' hd,hzr,Result.andThen]
 obtain ⟨u,h1,_⟩:=h1;cases d<;>first|exact absurd rfl (hni _) |simp [execOp,hop,h1,Instr.typeAssert,run_underlying' hd,hzr,hne,Result.andThen]
end
section
open Go

variable [Ghost] {P:Program} {o:Oper} {ev:Operand->SV} {H:List SObj} {K:Out->List SObj->Prop}

theorem z8o{I:Nat->Prop}{w:World}{t:Ty}:∀ {zs:List Value},zs.all (fun v=>t.isZero [v])=true->relL I w t (List.replicate zs.length t.dflt) zs
 | [],_=>rfl
 |z :: zs,h=>by rw [BC,Am] at h;exact ⟨[z],zs,rfl,Ty.isZero_rel h.1,z8o h.2⟩
def j3q{T:TypeId}{t:Ty}{zs:List Value}(hop:o.op= .alloc T)(hz:(P.info? T).bind (fun i=>i.zero.map (·.cells.toList))=some zs)(ht:t.size=1)(hd:zs.all (fun v=>t.isZero [v])=true)
 (hk:K (.ret (.rptr H.length t 0 0)) (H++ [.row t (List.replicate zs.length t.dflt)])):OpV P o ev H K:=by
 refine q0O (by rw [hop];intro c hc;cases hc) fun C e hw _=> ?_;obtain ⟨g1,g2,_⟩:=q3J (T:=T) (rest:=[]) hw (n:=zs.length) (c:=zs.length) (z8o hd) (by simp) (Af _) (by rw [ht];simp);rw [Ah] at g1 g2;refine ⟨_,.pointer (some ⟨C.w.heap.size,0,none⟩),_,_,hk,.inl ?_,g1,g2,?_⟩
 . cases hi:P.info? T with
   |none=>simp [hi] at hz
   |some i=>
    cases hz0:i.zero with
    |none=>simp [hi,hz0] at hz
    |some z=>simp [hi,hz0] at hz;simp [execOp,hop,Instr.alloc,zeroValue,typeInfo,hi,hz0,Result.andThen,newVar,newRow,Cx.grow,<-hz]
 rw [SV.den];exact ⟨by simp [Cx.grow,hw.n],C.w.heap.size,by simp [Cx.grow,hw.n],by simp⟩

def addA(sz n:Nat):SV->Option SV
 |.ptr h off=>some (.ptr h (off+n*sz))
 |.iptr t x k=>some (.iptr t x (k+n*sz))
 |.rptr h t i k=>if k=0∧sz=t.size then some (.rptr h t (i+n) 0) else some (.rptr h t i (k+n*sz))
 |.raw v=>(SV.raw v).add (n*sz)
 |_=>none
def slA(sz lo n:Nat):SV->Option SV
 |.rptr h t i k=>if k=0∧sz=t.size then some (.osl h t (i+lo) n) else none
 |_=>none
def q6S{src dst:TypeId}{x:Operand}{e':TypeId}{h off n:Nat}{xs:List UInt8}(hop:o.op= .convert src dst x)(hs:P.underlying src=some (.slice e'))(ht:P.underlying dst=some .string)(he:P.underlying e'=some (.int .u8))(hx:ev x= .osl h .u8 off n)
 (hH:H[h]?=some (.row .u8 xs))(hn:off+n<=xs.length)(hlen:xs.length<=1125899906842624)(hk:K (.ret (.raw (.string (strOf ((xs.drop off).take n))))) H):OpV P o ev H K:=by
 refine q0l (by rw [hop];intro c hc;cases hc) (fun C e hw hv=> ?_) hk;have h0:=hv x (by rw [hop];simp [Op.operands]);rw [hx] at h0;have h1:=q5L hw hH hlen hn h0;have hb:=q1W (P:=P) h1;rw [SV.den] at h1;obtain ⟨A,n',c,e0,_⟩:=h1;simp only [List.cons.injEq,and_true] at e0;rw [e0] at hb;have hb':(Conv.bytesToString (.slice A n' c)).run P C.w= .ok (.string (strOf ((xs.drop off).take n))) C.w:=hb;exact ⟨.string (strOf ((xs.drop off).take n)),by simp [execOp,hop,e0,convert,run_underlying' hs,run_underlying' ht,run_underlying' he,hb',Result.andThen],by rw [SV.den]⟩
end
section
open Go

variable [Ghost] {P:Program} {o:Oper} {ev:Operand->SV} {H:List SObj} {K:Out->List SObj->Prop}

variable {I:Nat->Prop} {w:World} {b off:Nat}
def get1(t:Ty)(x:t.den)(k m:Nat):Option (Sigma Ty.den):=if k=0∧m=t.size then some ⟨t,x⟩ else none
def Ty.get:(t:Ty)->t.den->(k m:Nat)->Option (Sigma Ty.den)
 |.prod a c,x,k,m=>if k=0∧m=a.size+c.size then some ⟨.prod a c,x⟩ else if k<a.size then a.get x.1 k m else c.get x.2 (k-a.size) m
 |.arr n e,x,k,m=>get1 (.arr n e) x k m
 |.u8,x,k,m=>get1 .u8 x k m
 |.int ik,x,k,m=>get1 (.int ik) x k m
 |.bool,x,k,m=>get1 .bool x k m
 |.str,x,k,m=>get1 .str x k m
 |.slice e,x,k,m=>get1 (.slice e) x k m
 |.unit,x,k,m=>get1 .unit x k m
 |.ptr e,x,k,m=>get1 (.ptr e) x k m
 |.clo f e,x,k,m=>get1 (.clo f e) x k m
 |.clp f e,x,k,m=>get1 (.clp f e) x k m
 |.mbs e,x,k,m=>get1 (.mbs e) x k m
variable {t:Ty}{x:t.den}{k:Nat}
theorem q2D{m:Nat}{r:Sigma Ty.den}(h:get1 t x k m=some r)(hl:Lies I w b off t x):Lies I w b (off+k) r.1 r.2∧r.1.size=m:=by
 unfold get1 at h;split at h
 . rename_i hc;obtain ⟨rfl,rfl⟩:=hc;cases h;exact ⟨hl,rfl⟩
 cases h
theorem z0L:∀ (t:Ty) {x:t.den} {k m off:Nat} {r:Sigma Ty.den},t.get x k m=some r->Lies I w b off t x->Lies I w b (off+k) r.1 r.2∧r.1.size=m
 |.prod a c,x,k,m,off,r,h,hl=>by
  simp only [Ty.get] at h;split at h
  . rename_i hc;obtain ⟨rfl,rfl⟩:=hc;cases h;exact ⟨hl,rfl⟩
  split at h
  . exact z0L a h hl.fst
  have:=z0L c h hl.snd;rwa [show off+a.size+ (k-a.size)=off+k by omega] at this
 |.arr n e,x,k,m,off,r,h,hl=>q2D h hl
 |.u8,x,k,m,off,r,h,hl=>q2D h hl
 |.int ik,x,k,m,off,r,h,hl=>q2D h hl
 |.bool,x,k,m,off,r,h,hl=>q2D h hl
 |.str,x,k,m,off,r,h,hl=>q2D h hl
 |.slice e,x,k,m,off,r,h,hl=>q2D h hl
 |.unit,x,k,m,off,r,h,hl=>q2D h hl
 |.ptr e,x,k,m,off,r,h,hl=>q2D h hl
 |.clo _ e,x,k,m,off,r,h,hl=>q2D h hl
 |.clp _ e,x,k,m,off,r,h,hl=>q2D h hl
 |.mbs e,x,k,m,off,r,h,hl=>q2D h hl

structure Arr where
 e:Ty
 n:Nat
 ys:List e.den
def Ty.arrAt:(t:Ty)->t.den->Nat->Option Arr
 |.prod a c,x,k=>if k<a.size then a.arrAt x.1 k else c.arrAt x.2 (k-a.size)
 |.arr n e,xs,k=>if k=0∧e.size=1 then some ⟨e,n,xs⟩ else none
 |.u8,_,_=>none
 |.int _,_,_=>none
 |.bool,_,_=>none
 |.str,_,_=>none
 |.slice _,_,_=>none
 |.unit,_,_=>none
 |.ptr _,_,_=>none
 |.clo _ _,_,_=>none
 |.clp _ _,_,_=>none
 |.mbs _,_,_=>none
theorem q3U:∀ (t:Ty) {x:t.den} {k off:Nat} {r:Arr},t.arrAt x k=some r->Lies I w b off t x->Lies I w b (off+k) (.arr r.n r.e) r.ys∧r.e.size=1
 |.prod a c,x,k,off,r,h,hl=>by
  simp only [Ty.arrAt] at h;split at h
  . exact q3U a h hl.fst
  have:=q3U c h hl.snd;rwa [show off+a.size+ (k-a.size)=off+k by omega] at this
 |.arr n e,x,k,off,r,h,hl=>by
  simp only [Ty.arrAt] at h;split at h
  . rename_i hc;obtain ⟨rfl,he⟩:=hc;cases h;exact ⟨hl,he⟩
  cases h
 |.u8,_,_,_,_,h,_=>by cases h
 |.int _,_,_,_,_,h,_=>by cases h
 |.bool,_,_,_,_,h,_=>by cases h
 |.str,_,_,_,_,h,_=>by cases h
 |.slice _,_,_,_,_,h,_=>by cases h
 |.unit,_,_,_,_,h,_=>by cases h
 |.ptr _,_,_,_,_,h,_=>by cases h
 |.clo _ _,_,_,_,_,h,_=>by cases h
 |.clp _ _,_,_,_,_,h,_=>by cases h
 |.mbs _,_,_,_,_,h,_=>by cases h
def Ty.cellAt:Ty->Nat->Option Ty
 |.prod a c,k=>if k<a.size then a.cellAt k else c.cellAt (k-a.size)
 |.arr _ e,k=>if k=0∧e.size=1 then some e else none
 |_,_=>none
theorem q3X:∀ {t:Ty} {k:Nat} {e:Ty},t.cellAt k=some e->e.size=1
 |.prod a c,k,e,h=>by
  simp only [Ty.cellAt] at h;split at h
  . exact q3X h
  exact q3X h
 |.arr n e',k,e,h=>by
  simp only [Ty.cellAt] at h;split at h
  . rename_i hc;cases h;exact hc.2
  cases h
 |.u8,_,_,h=>by cases h
 |.int _,_,_,h=>by cases h
 |.bool,_,_,h=>by cases h
 |.str,_,_,h=>by cases h
 |.slice _,_,_,h=>by cases h
 |.unit,_,_,h=>by cases h
 |.ptr _,_,_,h=>by cases h
 |.clo _ _,_,_,h=>by cases h
 |.clp _ _,_,_,h=>by cases h
 |.mbs _,_,_,h=>by cases h

variable {s:SV}
def q4I{T:TypeId}{x:Operand}{ag:Option Nat}(hop:o.op= .load T x)(ht:aggOf P T=some ag)
 (hl:∀C v,Wd C H->(ev x).den C v->∃b off t y,v= .pointer (some ⟨b,off,none⟩)∧Lies C.I C.w b off t y∧SV.ofT ag t y=some s∧(ag=none∨ag=some t.size))(hk:K (.ret s) H):OpV P o ev H K:=by
 refine q0l (by rw [hop];intro c hc;cases hc) (s:=s) (fun C e hw hv=> ?_) hk;obtain ⟨b,off,t,y,hx,h1,h2,h3⟩:=hl C _ hw (hv x (by rw [hop];simp [Op.operands]));obtain ⟨v,g1,g2⟩:=q5g (P:=P) ht h1 h2 h3;exact ⟨v,by simp [execOp,hop,hx,Instr.loadAt,Instr.sureAddr,Result.andThen,g1],g2⟩
def SV.dflat(t:Ty)(s:SV):Option (t.den×Prop):=match s.flat with
 |some ds=>if ones ds=true then t.rd ds else none
 |none=>none
def SV.datum(t:Ty):SV->Option (t.den×Prop)
 |.dat t' y=>if h:t'=t then some (cast (by rw [h]) y,True) else none
 |s=>s.dflat t
variable {C:Cx}{v:Value}{y:t.den}{p:Prop}
theorem z4Q(h:s.dflat t=some (y,p))(hp:p)(hd:s.den C v):t.rel C.I C.w y v.cells.toList∧∀u∈v.cells.toList,u.oneCell'=true:=by
 unfold SV.dflat at h;split at h
 . rename_i ds hf;split at h
   . rename_i h1;exact ⟨t.rd_rel _ _ _ _ h hp (q3s hf hd),q4S h1 (q3s hf hd)⟩
   cases h
 cases h
theorem q4Y(h:s.datum t=some (y,p))(hp:p)(hd:s.den C v):t.rel C.I C.w y v.cells.toList∧∀u∈v.cells.toList,u.oneCell'=true:=by
 cases s with
 |dat t' y'=>
  simp only [SV.datum] at h;split at h
  . rename_i e;subst e;cases h;rw [SV.den] at hd;obtain ⟨vs,rfl,hr⟩:=hd;simp only [Value.cells,cast_eq];exact ⟨hr,fun u hu=>q5I _ _ _ hr u hu⟩
  cases h
 |_=>simp only [SV.datum] at h;exact z4Q h hp hd

variable {α:Type}
def q8H{vs us:List α}(h:vs.length=us.length):splice vs 0 us=us:=by simp [splice,h]
def q4q{v1 v2 us:List α}(h:k+us.length<=v1.length):splice (v1++v2) k us=splice v1 k us++v2:=by unfold splice;rw [AS (by omega),Bg (by omega),List.append_assoc,List.append_assoc,List.append_assoc]
def q3M{v1 v2 us:List α}(h:v1.length<=k):splice (v1++v2) k us=v1++splice v2 (k-v1.length) us:=by unfold splice;rw [Ch,BZ,Ad h,A2 (by omega),Ax,List.append_assoc,List.append_assoc,List.append_assoc,show k+us.length-v1.length=k-v1.length+us.length by omega]
def Ty.modR:(t:Ty)->t.den->(k i:Nat)->(e:Ty)->List e.den->Option (t.den×Prop)
 |.prod a c,x,k,i,e,ys=>if k<a.size then (match a.modR x.1 k i e ys with
  |some (y,p)=>some ((y,x.2),p)
  |none=>none) else (match c.modR x.2 (k-a.size) i e ys with
  |some (y,p)=>some ((x.1,y),p)
  |none=>none)
 |.arr n e',xs,k,i,e,ys=>if h:k=0∧e=e'∧e'.size=1 then some (splice xs i (cast (by rw [h.2.1]) ys),i+ys.length<=n) else none
 |.u8,_,_,_,_,_=>none
 |.int _,_,_,_,_,_=>none
 |.bool,_,_,_,_,_=>none
 |.str,_,_,_,_,_=>none
 |.slice _,_,_,_,_,_=>none
 |.unit,_,_,_,_,_=>none
 |.ptr _,_,_,_,_,_=>none
 |.clo _ _,_,_,_,_,_=>none
 |.clp _ _,_,_,_,_,_=>none
 |.mbs _,_,_,_,_,_=>none
theorem q4i{C:Cx}{e:Ty}:∀ (t:Ty) {x x':t.den} {k i:Nat} {ys:List e.den} {p:Prop} {us ws:List Value},t.modR x k i e ys=some (x',p)->p->(Ty.arr ys.length e).rel C.I C.w ys ws->t.rel C.I C.w x us->
 t.rel C.I C.w x' (splice us (k+i) ws)∧k+i+ys.length<=t.size∧ws.length=ys.length
 |.prod a c,x,x',k,i,ys,p,us,ws,h,hp,hd,hr=>by
  simp only [Ty.modR] at h;obtain ⟨v1,v2,rfl,r1,r2⟩:=hr;have hl1:=a.rel_size _ _ r1;split at h
  . split at h
    . rename_i hy;cases h;obtain ⟨g1,g2,g3⟩:=q4i a hy hp hd r1;rw [q4q (by omega)];exact ⟨⟨_,_,rfl,g1,r2⟩,by simp only [Ty.size];omega,g3⟩
    cases h
  split at h
  . rename_i hlt _ _ _ hy;cases h;obtain ⟨g1,g2,g3⟩:=q4i c hy hp hd r2;rw [q3M (by omega),hl1,show k+i-a.size=k-a.size+i by omega];exact ⟨⟨_,_,rfl,r1,g1⟩,by simp only [Ty.size];omega,g3⟩
  cases h
 |.arr n e',xs,x',k,i,ys,p,us,ws,h,hp,hd,hr=>by
  simp only [Ty.modR] at h;split at h
  . rename_i hc;obtain ⟨rfl,rfl,he⟩:=hc;cases h;obtain ⟨hn,hl,h⟩:=(q0V he).1 hr;obtain ⟨hn',hl',h'⟩:=(q0V he).1 hd;simp only [cast_eq,Ae];refine ⟨(q0V he).2 ⟨by rw [q0u (by omega)];exact hn,by rw [q0u (by omega)];exact hl,fun j y u hy hu=> ?_⟩,by simp only [Ty.size,he];omega,hl'⟩;rw [q2t (by omega)] at hy hu;split at hy
    . rw [if_pos (by assumption)] at hu;exact h j y u hy hu
    rw [if_neg (by assumption)] at hu;split at hy
    . rw [if_pos (by omega)] at hu;exact h' _ y u hy hu
    rw [if_neg (by omega)] at hu;exact h j y u hy hu
  cases h
 |.u8,_,_,_,_,_,_,_,_,h,_,_,_=>by cases h
 |.int _,_,_,_,_,_,_,_,_,h,_,_,_=>by cases h
 |.bool,_,_,_,_,_,_,_,_,h,_,_,_=>by cases h
 |.str,_,_,_,_,_,_,_,_,h,_,_,_=>by cases h
 |.slice _,_,_,_,_,_,_,_,_,h,_,_,_=>by cases h
 |.unit,_,_,_,_,_,_,_,_,h,_,_,_=>by cases h
 |.ptr _,_,_,_,_,_,_,_,_,h,_,_,_=>by cases h
 |.clo _ _,_,_,_,_,_,_,_,_,h,_,_,_=>by cases h
 |.clp _ _,_,_,_,_,_,_,_,_,h,_,_,_=>by cases h
 |.mbs _,_,_,_,_,_,_,_,_,h,_,_,_=>by cases h

def put1(t:Ty)(k n:Nat)(s:SV):Option (t.den×Prop):=if k=0∧n=t.size then s.datum t else none
def Ty.putV:(t:Ty)->t.den->(k n:Nat)->SV->Option (t.den×Prop)
 |.prod a c,x,k,n,s=>if k=0∧n=a.size+c.size then s.datum (.prod a c) else if k<a.size then (match a.putV x.1 k n s with
  |some (y,p)=>some ((y,x.2),p)
  |none=>none) else (match c.putV x.2 (k-a.size) n s with
  |some (y,p)=>some ((x.1,y),p)
  |none=>none)
 |.arr m e,x,k,n,s=>if k=0∧n=(Ty.arr m e).size then s.datum (.arr m e) else if e.size=1∧n=1 then (match s.datum e with
  |some (y,p)=>some (splice x k [y],p∧k+1<=m)
  |none=>none) else none
 |.u8,_,k,n,s=>put1 .u8 k n s
 |.int ik,_,k,n,s=>put1 (.int ik) k n s
 |.bool,_,k,n,s=>put1 .bool k n s
 |.str,_,k,n,s=>put1 .str k n s
 |.slice e,_,k,n,s=>put1 (.slice e) k n s
 |.unit,_,k,n,s=>put1 .unit k n s
 |.ptr e,_,k,n,s=>put1 (.ptr e) k n s
 |.clo f e,_,k,n,s=>put1 (.clo f e) k n s
 |.clp f e,_,k,n,s=>put1 (.clp f e) k n s
 |.mbs e,_,k,n,s=>put1 (.mbs e) k n s
variable {us:List Value}
theorem q1M{n:Nat}{x':t.den}(h:put1 t k n s=some (x',p))(hp:p)(hd:s.den C v)(hr:t.rel C.I C.w x us):
 t.rel C.I C.w x' (splice us k v.cells.toList)∧(∀u∈v.cells.toList,u.oneCell'=true)∧v.cells.toList.length=n∧k+n<=t.size:=by
 unfold put1 at h;split at h
 . rename_i hc;obtain ⟨rfl,rfl⟩:=hc;obtain ⟨h1,h2⟩:=q4Y h hp hd;have hl:=t.rel_size _ _ h1;rw [q8H (by rw [t.rel_size _ _ hr,hl])];exact ⟨h1,h2,hl,by omega⟩
 cases h
theorem q4E{C:Cx}:∀ (t:Ty) {x x':t.den} {k n:Nat} {s:SV} {v:Value} {p:Prop} {us:List Value},t.putV x k n s=some (x',p)->p->s.den C v->t.rel C.I C.w x us->
 t.rel C.I C.w x' (splice us k v.cells.toList)∧(∀u∈v.cells.toList,u.oneCell'=true)∧v.cells.toList.length=n∧k+n<=t.size
 |.prod a c,x,x',k,n,s,v,p,us,h,hp,hd,hr=>by
  simp only [Ty.putV] at h;split at h
  . rename_i hc;obtain ⟨rfl,rfl⟩:=hc;obtain ⟨h1,h2⟩:=q4Y h hp hd;have hl:=(Ty.prod a c).rel_size _ _ h1;rw [q8H (by rw [(Ty.prod a c).rel_size _ _ hr,hl])];exact ⟨h1,h2,hl,by simp only [Ty.size];omega⟩
  obtain ⟨v1,v2,rfl,r1,r2⟩:=hr;have hl1:=a.rel_size _ _ r1;split at h
  . split at h
    . rename_i hy;cases h;obtain ⟨g1,g2,g3,g4⟩:=q4E a hy hp hd r1;rw [q4q (by omega)];exact ⟨⟨_,_,rfl,g1,r2⟩,g2,g3,by simp only [Ty.size];omega⟩
    cases h
  split at h
  . rename_i hlt _ _ _ hy;cases h;obtain ⟨g1,g2,g3,g4⟩:=q4E c hy hp hd r2;rw [q3M (by omega),hl1];exact ⟨⟨_,_,rfl,r1,g1⟩,g2,g3,by simp only [Ty.size];omega⟩
  cases h
 |.arr m e,x,x',k,n,s,v,p,us,h,hp,hd,hr=>by
  simp only [Ty.putV] at h;split at h
  . rename_i hc;exact q1M (t:=.arr m e) (by unfold put1;rw [if_pos hc];exact h) hp hd hr
  split at h
  . rename_i he;obtain ⟨he,rfl⟩:=he;split at h
    . rename_i y q hy;cases h;obtain ⟨h1,h2⟩:=q4Y hy hp.1 hd;have hl:=e.rel_size _ _ h1;rw [he] at hl;have h3:(Ty.arr [y].length e).rel C.I C.w [y] v.cells.toList:=by
       refine (q0V he).2 ⟨rfl,hl,fun i y' u h4 h5=> ?_⟩;obtain ⟨u',hu⟩:=Bt.1 hl;rw [hu] at h1 h5;cases i with
       |zero=>simp at h4 h5;subst h4 h5;exact h1
       |succ i=>simp at h4
      have h4:=q4i (.arr m e) (x:=x) (x':=splice x k [y]) (k:=0) (i:=k) (p:=k+1<=m) (by simp [Ty.modR,he]) hp.2 h3 hr;rw [Ae] at h4;exact ⟨h4.1,h2,hl,h4.2.1⟩
    cases h
  cases h
 |.u8,_,_,_,_,_,_,_,_,h,hp,hd,hr=>q1M h hp hd hr
 |.int ik,_,_,_,_,_,_,_,_,h,hp,hd,hr=>q1M h hp hd hr
 |.bool,_,_,_,_,_,_,_,_,h,hp,hd,hr=>q1M h hp hd hr
 |.str,_,_,_,_,_,_,_,_,h,hp,hd,hr=>q1M h hp hd hr
 |.slice e,_,_,_,_,_,_,_,_,h,hp,hd,hr=>q1M h hp hd hr
 |.unit,_,_,_,_,_,_,_,_,h,hp,hd,hr=>q1M h hp hd hr
 |.ptr e,_,_,_,_,_,_,_,_,h,hp,hd,hr=>q1M h hp hd hr
 |.clo _ e,_,_,_,_,_,_,_,_,h,hp,hd,hr=>q1M h hp hd hr
 |.clp _ e,_,_,_,_,_,_,_,_,h,hp,hd,hr=>q1M h hp hd hr
 |.mbs e,_,_,_,_,_,_,_,_,h,hp,hd,hr=>q1M h hp hd hr

def q5j{h a:Nat}{xs xs':List t.den}{ws:List Value}(hw:Wd C H)(hH:H[h]?=some (.row t xs))(hbb:C.ρ h=some b)(hx:xs≠ [])(hlen:xs'.length=xs.length)(ha:a+ws.length<=xs.length*t.size)(h1:∀u∈ws,u.oneCell'=true)
 (hr:∀us,relL C.I C.w t xs us->relL C.I C.w t xs' (splice us a ws)):
 ∃C',(storeCells ⟨b,a,none⟩ ws 0).run P C.w= .ok () C'.w∧Wd C' (H.set h (.row t xs'))∧Ext ⟨C,H⟩ C' (H.set h (.row t xs'))∧Evo C C':=by
 rcases hw.obj h _ hH with ⟨_,h2⟩ | ⟨b',arr,T,fz,hb',hcell,hfz,hsz,hrow⟩
 . exact absurd h2 hx
 rw [hbb] at hb';cases hb';have hin:a+ws.length<=arr.toList.length:=by have:arr.toList.length=arr.size:=Au;omega
 have hcell':C.w.heap[b]?=some (.cells arr.toList.toArray T fz):=by rw [hcell]
 have hrun:(storeCells ⟨b,a,none⟩ ws 0).run P C.w= .ok () (C.w.setCells b (a+0) ws):=run_storeCells_cells b a _ 0 C.w
  (fun j hj=>by have hj:j<ws.length:=hj;rw [q0o hcell'];rw [Ac (by omega)];rfl)
  (fun j hj=>by
   have hj:j<ws.length:=hj;have:=hfz (a+0+j) (by rw [Au] at hin;omega);simp only [World.frozen?,hcell];rw [BU];simp only [decide_eq_false_iff_not]
   omega) h1
 rw [AB] at hrun;have hnew:=q1O ws a C.w arr.toList hcell' hin;have hkeep:Keeps C.I C.I C.w (C.w.setCells b a ws):=fun b' hi'=>⟨hi',q0B (fun (eq:b'=b)=>(hw.own b ⟨h,_,hH,rfl,hbb⟩).1 (eq▸hi')) _ _ _⟩;have hbs:∀m,World.bsize C.w b=some m->World.bsize (C.w.setCells b a ws) b=some m:=fun m hm=>by unfold World.bsize at hm⊢;rw [hnew];rw [hcell] at hm;simp only [AR] at hm⊢;rw [q0u hin,Au];exact hm
 obtain ⟨us,hu1,hu2⟩:=q8c hrow;have hul:=q0Q hu1;have hnewL:=hr us hu1;obtain ⟨g1,g2,g3⟩:=z1h (so':=.row t xs') hw hH rfl rfl hbb (C.w.setCells b a ws) (fun b' hb'=>q0B hb' _ _ _) (q1m _ _ _)
  hbs (q1V _ _ _) (q1o _ _ _) (q0Z _ _ _)
  (.inr ⟨b,_,T,fz,hbb,hnew,by rw [AR,q0u hin,Au];exact hfz,by rw [hlen,AR,q0u hin,Au];exact hsz,
   q3W (q3b hkeep hnewL) fun j u hj=>by
    have hlt:=(Ag.1 hj).1;rw [q0u (by omega)] at hlt;rw [q0o hnew,q2t hin];rw [q2t (by omega)] at hj;rw [Ae];have hc:=fun u hu=>hu2 j u hu;simp only [Ae] at hc;rw [q0o hcell'] at hc;split at hj
    . rw [if_pos (by omega)];exact hc u hj
    rw [if_neg (by omega)];split at hj
    . rw [if_pos (by omega),<-hj]
    rw [if_neg (by omega)];exact hc u hj⟩)
 exact ⟨_,hrun,g1,g2,g3⟩
def q8t{ty:TypeId}{x y:Operand}{h n a:Nat}{xs xs':List t.den}(hop:o.op= .store ty x y)(hs:(P.info? ty).map (·.size)=some n)
 (hH:H[h]?=some (.row t xs))(hx:xs≠ [])(hlen:xs'.length=xs.length)(hp:∀C v,(ev x).den C v->∃b,C.ρ h=some b∧v= .pointer (some ⟨b,a,none⟩))(ha:a+n<=xs.length*t.size)
 (hy:∀C v,Wd C H->(ev y).den C v->v.cells.toList.length=n∧(∀u∈v.cells.toList,u.oneCell'=true)∧∀us,relL C.I C.w t xs us->relL C.I C.w t xs' (splice us a v.cells.toList))
 (hk:K (.ret .any) (H.set h (.row t xs'))):OpV P o ev H K:=by
 refine q0O (by rw [hop];intro c hc;cases hc) fun C e hw hv=> ?_;obtain ⟨b,hbb,hpx⟩:=hp C _ (hv x (by rw [hop];simp [Op.operands]));obtain ⟨y1,y2,y3⟩:=hy C _ hw (hv y (by rw [hop];simp [Op.operands]));obtain ⟨C',hrun,g1,g2,g3⟩:=q5j (P:=P) hw hH hbb hx hlen (by omega) y2 y3;refine ⟨_,undef,_,C',hk,.inr ⟨?_,rfl⟩,g1,g2,by rw [SV.den];trivial⟩;have hsz':(e y).cells.size=n:=by rw [<-Au];exact y1
 simp [execOp,hop,hpx,Instr.storeAt,Instr.sureAddr,Result.andThen,storeVar,q0m hs,hsz',hrun]
theorem q3g:relL I w t [x] us ↔ t.rel I w x us:=by
 constructor
 . rintro ⟨u1,u2,rfl,h1,h2⟩;cases h2;simpa using h1
 intro h;exact ⟨us,[],by simp,h,rfl⟩
def q3w{I:Nat->Prop}{w:World}{t:Ty}(ht:t.size=1):∀ {xs:List t.den} {us:List Value},relL I w t xs us ↔ (Ty.arr xs.length t).rel I w xs us
 | [],us=>by
  rw [q0V ht];constructor
  . intro h;cases h;exact ⟨rfl,rfl,fun i y u h=>by simp at h⟩
  rintro ⟨_,h,_⟩;exact A5 h
 |x :: xs,us=>by
  rw [q0V ht];constructor
  . rintro ⟨u1,u2,rfl,h1,h2⟩;have:=t.rel_size _ _ h1;rw [ht] at this;obtain ⟨u,rfl⟩:=Bt.1 this;obtain ⟨_,g2,g3⟩:=(q0V ht).1 ((q3w ht).1 h2);refine ⟨rfl,by simp [g2],fun i y v hy hv=> ?_⟩;cases i with
    |zero=>simp at hy hv;subst hy hv;exact h1
    |succ i=>exact g3 i y v (by simpa using hy) (by simpa using hv)
  rintro ⟨_,h2,h3⟩;cases us with
  |nil=>simp at h2
  |cons u us=>exact ⟨[u],us,rfl,h3 0 x u rfl rfl,(q3w ht).2 ((q0V ht).2 ⟨rfl,by simpa using h2,fun i y v hy hv=>h3 (i+1) y v (by simpa using hy) (by simpa using hv)⟩)⟩
end
section
open Go

variable [Ghost] {P:Program} {o:Oper} {ev:Operand->SV} {H:List SObj} {K:Out->List SObj->Prop}

def View(C:Cx)(t:Ty)(v:Value)(ys:List t.den):Prop:=
 ∃A c,v= .slice A ys.length c∧ys.length<=c∧(ys= []∨∃b off,A=some ⟨b,off,none⟩∧∀ (i:Nat) y,ys[i]?=some y->Lies C.I C.w b (off+i*t.size) t y)
def View.take{C:Cx}{t:Ty}{v:Value}{ys:List t.den}(h:View C t v ys)(n:Nat):∃A c,v= .slice A ys.length c∧ys.length<=c∧(ys.take n= []∨∃b off,A=some ⟨b,off,none⟩∧∀ (i:Nat) y,(ys.take n)[i]?=some y->Lies C.I C.w b (off+i*t.size) t y):=by
 obtain ⟨A,c,rfl,hc,h⟩:=h;refine ⟨A,c,rfl,hc,?_⟩;rcases h with rfl| ⟨b,off,rfl,h⟩
 . exact .inl (by simp)
 exact .inr ⟨b,off,rfl,fun i y hy=>h i y (by rw [AN] at hy;split at hy;exact hy;cases hy)⟩
def ownPart(t:Ty)(k i n:Nat):SObj->Option (List t.den×Prop)
 |.row t' xs=>if h:t'=t then (if k=0 then some (cast (by rw [h]) ((xs.drop i).take n),i+n<=xs.length) else none)
  else match xs with
   | [x]=>match t'.arrAt x k with
    |some ⟨e,N,ys⟩=>if h:e=t then some (cast (by rw [h]) ((ys.drop i).take n),i+n<=N) else none
    |none=>none
   |_=>none
 |_=>none
def viewOf(t:Ty)(H:List SObj):SV->Option (List t.den×Prop)
 |.isl t' xs=>if h:t'=t then some (cast (by rw [h]) xs,True) else none
 |.fsl t' xs=>if h:t'=t then some (cast (by rw [h]) xs,True) else none
 |.raw (.slice none 0 0)=>some ([],True)
 |.bld h t' n=>if t'=t then (match H[h]? with
  |some o=>ownPart t 0 0 n o
  |none=>none) else none
 |.osl h t' off n=>if t'=t then (match H[h]? with
  |some o=>ownPart t 0 off n o
  |none=>none) else none
 |.csl h t' k i n=>if t'=t then (match H[h]? with
  |some o=>ownPart t k i n o
  |none=>none) else none
 |_=>none
variable {C:Cx}{t:Ty}{ys:List t.den}{p:Prop}
theorem q8L{h k i n:Nat}{o:SObj}(hw:Wd C H)(hH:H[h]?=some o)(ho:ownPart t k i n o=some (ys,p))(hp:p):
 ys.length=n∧∀b,C.ρ h=some b->∀ (j:Nat) y,ys[j]?=some y->Lies C.I C.w b (i*t.size+k+j*t.size) t y:=by
 unfold ownPart at ho;split at ho
 . rename_i t' xs;split at ho
   . rename_i e;subst e;split at ho
     . rename_i hk;subst hk;cases ho;simp only [cast_eq];refine ⟨by simp;omega,fun b hb j y hy=> ?_⟩;rw [AN] at hy;split at hy
       . rw [AA] at hy;obtain ⟨b',hb',hl⟩:=q1Q hw hH hy;rw [hb] at hb';cases hb';rwa [AB,<-Nat.add_mul]
       cases hy
     cases ho
   split at ho
   . rename_i x;split at ho
     . rename_i e N zs hz;split at ho
       . rename_i he;subst he;cases ho;simp only [cast_eq];obtain ⟨b0,hb0,hl⟩:=q1Q hw hH (i:=0) (x:=x) rfl;obtain ⟨g1,g2⟩:=q3U t' hz hl;obtain ⟨g3,g4⟩:=(q3v g2).1 g1;simp only at g2 g3 g4;refine ⟨by simp;omega,fun b hb j y hy=> ?_⟩;rw [hb] at hb0;cases hb0;rw [AN] at hy;split at hy
         . rw [AA] at hy;have:=g4 _ _ hy;rw [g2,AD,AD,show i+k+j=0*t'.size+k+ (i+j) by omega];exact this
         cases hy
       cases ho
     cases ho
   cases ho
 cases ho
variable {s:SV}{v:Value}
theorem j3Q(hw:Wd C H)(hs:viewOf t H s=some (ys,p))(hp:p)(hd:s.den C v):View C t v ys:=by
 unfold viewOf at hs;have isl:∀ {xs:List t.den},(Ty.slice t).rel C.I C.w xs [v]->View C t v xs:=by
  rintro xs ⟨A,n,c,e,rfl,hc,_,h⟩;cases e;refine ⟨A,c,rfl,hc,?_⟩;rcases h with rfl| ⟨b,off,rfl,_,h⟩
  . exact .inl rfl
  exact .inr ⟨b,off,rfl,fun i y hy=>h i y hy⟩
 have own:∀ {h k i n:Nat} {o:SObj},H[h]?=some o->ownPart t k i n o=some (ys,p)->(∃A c,v= .slice A n c∧n<=c∧(n=0∨∃b,C.ρ h=some b∧A=some ⟨b,i*t.size+k,none⟩))->View C t v ys:=by
  rintro h k i n o hH ho ⟨A,c,rfl,hc,h1⟩;obtain ⟨hl,h2⟩:=q8L hw hH ho hp;refine ⟨A,c,by rw [hl],by omega,?_⟩;rcases h1 with rfl| ⟨b,hb,rfl⟩
  . exact .inl (A5 hl)
  exact .inr ⟨b,_,rfl,fun j y hy=>h2 b hb j y hy⟩
 split at hs
 . split at hs
   . rename_i e;subst e;cases hs;rw [SV.den] at hd;exact isl hd
   cases hs
 . split at hs
   . rename_i e;subst e;cases hs;rw [SV.den] at hd;exact isl hd.1
   cases hs
 . cases hs;rw [SV.den] at hd;subst hd;exact ⟨none,0,rfl,Af _,.inl rfl⟩
 . split at hs
   . rename_i e;subst e;split at hs
     . rename_i hH;refine own hH hs ?_;rw [SV.den] at hd;obtain ⟨_,⟨_,rfl,rfl⟩ | ⟨b,c,m,hb,rfl,hc,_⟩⟩:=hd
       . exact ⟨_,_,rfl,Af _,.inl rfl⟩
       exact ⟨_,_,rfl,hc,.inr ⟨b,hb,by rw [BF]⟩⟩
     cases hs
   cases hs
 . split at hs
   . rename_i e;subst e;split at hs
     . rename_i hH;refine own hH hs ?_;rw [SV.den] at hd;obtain ⟨_,A,c,rfl,hc,h⟩:=hd;exact ⟨A,c,rfl,hc,orMap h id fun ⟨b,hb,hA⟩=>⟨b,hb,hA⟩⟩
     cases hs
   cases hs
 . split at hs
   . rename_i e;subst e;split at hs
     . rename_i hH;refine own hH hs ?_;rw [SV.den] at hd;obtain ⟨_,A,c,rfl,hc,h⟩:=hd;exact ⟨A,c,rfl,hc,h⟩
     cases hs
   cases hs
 cases hs
def z4C(h:View C t v ys)(n:Nat)(hn:n<=ys.length):∃news,relL C.I C.w t (ys.take n) news∧(Builtin.firstCells t.size n v).run P C.w= .ok news.toArray C.w:=by
 obtain ⟨A,c,rfl,_,hh⟩:=h.take n;have hl:(ys.take n).length=n:=by simp;omega
 obtain ⟨news,g1,g2⟩:=q1D (P:=P) (C:=C) (A:=A) (c:=c) (ys:=ys.take n) (by
  rcases hh with hh| ⟨b,off,rfl,hh⟩
  . exact .inl hh
  exact .inr ⟨b,off,rfl,fun i y hy=>hh i y hy⟩)
 refine ⟨news,g1,?_⟩;rw [hl] at g2;cases A<;>exact g2

def putPart(t:Ty)(k i:Nat)(ys:List t.den):SObj->Option (SObj×Prop)
 |.row t' xs=>if h:t'=t then (if k=0 then some (.row t' (splice xs i (cast (by rw [h]) ys)),i+ys.length<=xs.length∧0<xs.length) else none)
  else match xs with
   | [x]=>match t'.modR x k i t ys with
    |some (y,p)=>some (.row t' [y],p)
    |none=>none
   |_=>none
 |_=>none
theorem z0b{e:Ty}:∀ (t:Ty) {x:t.den} {k i:Nat} {ys:List e.den} {r:t.den×Prop},t.modR x k i e ys=some r->e.size=1
 |.prod a c,x,k,i,ys,r,h=>by
  simp only [Ty.modR] at h;split at h
  . split at h
    . exact z0b a (by assumption)
    cases h
  split at h
  . exact z0b c (by assumption)
  cases h
 |.arr n e',_,_,_,_,_,h=>by
  simp only [Ty.modR] at h;split at h
  . rename_i hc;rw [hc.2.1];exact hc.2.2
  cases h
 |.u8,_,_,_,_,_,h=>by cases h
 |.int _,_,_,_,_,_,h=>by cases h
 |.bool,_,_,_,_,_,h=>by cases h
 |.str,_,_,_,_,_,h=>by cases h
 |.slice _,_,_,_,_,_,h=>by cases h
 |.unit,_,_,_,_,_,h=>by cases h
 |.ptr _,_,_,_,_,_,h=>by cases h
 |.clo _ _,_,_,_,_,_,h=>by cases h
 |.clp _ _,_,_,_,_,_,h=>by cases h
 |.mbs _,_,_,_,_,_,h=>by cases h
def q8b{I:Nat->Prop}{w:World}:∀ {xs ys:List t.den} {us ws:List Value} {i:Nat},relL I w t xs us->relL I w t ys ws->i+ys.length<=xs.length->relL I w t (splice xs i ys) (splice us (i*t.size) ws):=by
 intro xs ys us ws i hx hy hi;have key:∀ (n:Nat) {xs:List t.den} {us:List Value},relL I w t xs us->n<=xs.length->relL I w t (xs.take n) (us.take (n*t.size))∧relL I w t (xs.drop n) (us.drop (n*t.size)):=by
  intro n;induction n with
  |zero=>intro xs us h _;simp only [BF,Cw,Av];exact ⟨rfl,h⟩
  |succ n ih=>
   intro xs us h hn;cases xs with
   |nil=>simp at hn
   |cons x xs=>
    obtain ⟨u1,u2,rfl,h1,h2⟩:=h;have hl:=t.rel_size _ _ h1;obtain ⟨g1,g2⟩:=ih h2 (by simpa using hn);have e:(n+1)*t.size=u1.length+n*t.size:=by rw [Nat.add_mul,Cb,hl,Bs]
    have t1:(u1++u2).take ((n+1)*t.size)=u1++u2.take (n*t.size):=by rw [e,Ch,Ad (l:=u1) (by omega)];congr 2;omega
    have t2:(u1++u2).drop ((n+1)*t.size)=u2.drop (n*t.size):=by rw [e,BZ,A2 (as:=u1) (by omega),Ax];congr 1;omega
    rw [t1,t2];exact ⟨⟨u1,_,rfl,h1,g1⟩,g2⟩
 obtain ⟨k1,_⟩:=key i hx (by omega);obtain ⟨_,k2⟩:=key (i+ys.length) hx hi;have hl:=q0Q hy;unfold splice;rw [hl,<-Nat.add_mul];exact q1B (q1B k1 hy) k2
theorem j0O{c:Call}{T T' e':TypeId}{x y:Operand}{h k i n m:Nat}{ob ob':SObj}{q:Prop}(hop:o.op= .call c)(hc:c.callee= .builtin .copy)(ha:c.args= #[x,y])(hty:c.argTypes= #[T,T'])
 (hT:P.underlying T=some (.slice e'))(hsz:(P.info? e').map (·.size)=some t.size)
 (hx:∀C v,(ev x).den C v->∃b c,C.ρ h=some b∧v= .slice (some ⟨b,i*t.size+k,none⟩) n c)(hy:viewOf t H (ev y)=some (ys,p))(hp:p)(hm:m=min ys.length n)(hH:H[h]?=some ob)(ho:putPart t k i (ys.take m) ob=some (ob',q))(hq:q)
 (hk:K (.ret (.raw (.int .i64 m))) (H.set h ob')):OpV P o ev H K:=by
 refine q0O (by rw [hop];intro c hc;cases hc) fun C e hw hv=> ?_;obtain ⟨b,cc,hb,h1⟩:=hx C _ (hv x (by rw [hop];simp [Op.operands,Call.operands,hc,ha]));have hvw:=j3Q hw hy hp (hv y (by rw [hop];simp [Op.operands,Call.operands,hc,ha]));have hm':m<=ys.length:=by rw [hm];exact Nat.min_le_left _ _
 obtain ⟨news,n1,n2⟩:=z4C (P:=P) hvw m hm';have htl:(ys.take m).length=m:=by simp;omega
 have hnl:=q0Q n1;rw [htl] at hnl;obtain ⟨A',c',hyv,_,_⟩:=hvw;have h1c:∀u∈news,u.oneCell'=true:=q8W n1;have main:∃C',(storeCells ⟨b,i*t.size+k,none⟩ news 0).run P C.w= .ok () C'.w∧Wd C' (H.set h ob')∧Ext ⟨C,H⟩ C' (H.set h ob')∧Evo C C':=by
  unfold putPart at ho;split at ho
  . rename_i t' xs;split at ho
    . rename_i et;subst et;split at ho
      . rename_i hk0;subst hk0;cases ho;simp only [cast_eq,AB];obtain ⟨q1,q2⟩:=hq;rw [htl] at q1;have:(i+m)*t'.size<=xs.length*t'.size:=A4 _ q1;rw [Nat.add_mul] at this;exact q5j (P:=P) hw hH hb (by intro h;simp [h] at q2) (q0u (by rw [htl];exact q1)) (by rw [hnl];exact this) h1c (fun us hu=>q8b hu n1 (by rw [htl];exact q1))
      cases ho
    split at ho
    . rename_i hne x0;split at ho
      . rename_i y0 p0 hmod;cases ho;have ht1:=z0b t' hmod;have hws:=(q3w ht1).1 n1;obtain ⟨b0,hb0,us0,hr0,_⟩:=q1Q hw hH (i:=0) (x:=x0) rfl;have hcap:=(q4i t' hmod hq hws hr0).2.1;rw [htl] at hcap;refine q5j (P:=P) hw hH hb (by simp) rfl (by simp only [Bx,Cb,ht1,AD,hnl];omega) h1c fun us hu=> ?_;rw [q3g] at hu⊢;have:=(q4i t' hmod hq hws hu).1;rwa [ht1,AD,Bs]
      cases ho
    cases ho
  cases ho
 obtain ⟨C',hrun,g1,g2,g3⟩:=main;refine ⟨_,.int .i64 m,_,C',hk,.inl ?_,g1,g2,by rw [SV.den]⟩;have e1:Nat.min ys.length n=m:=hm.symm;have hcp:(Builtin.copy_ #[T,T'] o.type #[e x,e y]).run P C.w= .ok (.int .i64 m) C'.w:=by rw [hyv] at n2;simp [Builtin.copy_,h1,hyv,run_underlying' hT,Builtin.lenOf,Result.andThen,q0m hsz,e1,n2,hrun,goInt]
 simp [execOp,hop,resolve,hc,ha,hty,invoke,builtin,hcp,Result.andThen]

variable {k:IntKind}{j:Int}
def z5y{T e':TypeId}{x i:Operand}{e:Ty}{n:Nat}{xs:List e.den}(hop:o.op= .index T x i)(ht:P.underlying T=some (.array n e'))(hag:aggOf P e'=some none)(hsz:(P.info? e').map (·.size)=some 1)(he:e.size=1)
 (hx:ev x= .dat (.arr n e) xs)(hi:ev i= .raw (.int k j))(h0:0<=j)(hb:j.toNat<n)(hs:e.cells (xs.getD j.toNat e.dflt)= [s])(hk:K (.ret s) H):OpV P o ev H K:=by
 refine q0l (by rw [hop];intro c hc;cases hc) (s:=s) (fun C ee hw hv=> ?_) hk;have h1:=hv x (by rw [hop];simp [Op.operands]);have h2:=hv i (by rw [hop];simp [Op.operands]);rw [hx,SV.den] at h1;rw [hi,SV.den] at h2;obtain ⟨vs,h1,hr⟩:=h1;obtain ⟨hn,hl,hr⟩:=(q0V he).1 hr;have hy:xs[j.toNat]?=some (xs.getD j.toNat e.dflt):=by rw [Aa,Ac (by omega)];rfl
 have hu:vs[j.toNat]?=some (vs[j.toNat]'(by omega)):=Ac (by omega);have hd:=e.cells_den _ _ (hr _ _ _ hy hu);rw [hs] at hd;obtain ⟨v,us,hv1,hd,_⟩:=q0d.1 hd;simp only [List.cons.injEq] at hv1;refine ⟨vs[j.toNat]'(by omega),?_,hv1.1▸hd⟩;have hlt:j< (n:Int):=by omega
 have hu':vs.toArray[j.toNat]?=some (vs[j.toNat]'(by omega)):=by simpa using hu
 have hjl:j.toNat<vs.length:=by omega
 simp [execOp,hop,h1,h2,Instr.index,asIntOf,run_underlying' ht,h0,hlt,q0m hsz,part,q2z hag,hjl,Result.andThen]

def q8O{T e':TypeId}{x i:Operand}{n m:Nat}{ag:Option Nat}{l:List SV}(hop:o.op= .index T x i)(ht:P.underlying T=some (.array n e'))(hag:aggOf P e'=some ag)(hsz:(P.info? e').map (·.size)=some m)
 (hx:ev x= .agg l)(hi:ev i= .raw (.int k j))(h0:0<=j)(hb:j.toNat<n)(hp:pick l (j.toNat*m) ag=some s)(hk:K (.ret s) H):OpV P o ev H K:=by
 refine q0l (by rw [hop];intro c hc;cases hc) (s:=s) (fun C ee hw hv=> ?_) hk;have h1:=hv x (by rw [hop];simp [Op.operands]);have h2:=hv i (by rw [hop];simp [Op.operands]);rw [hx,SV.den] at h1;rw [hi,SV.den] at h2;obtain ⟨vs,h1,hl⟩:=h1;have hlt:j< (n:Int):=by omega
 obtain ⟨v,g1,g2⟩:=q4T hag hl hp C.w;exact ⟨v,by simp [execOp,hop,h1,h2,Instr.index,asIntOf,run_underlying' ht,h0,hlt,q0m hsz,g1,Result.andThen],g2⟩

theorem z4H{T e':TypeId}{x i:Operand}{e:Ty}{n m:Nat}{xs:List e.den}(hop:o.op= .index T x i)(ht:P.underlying T=some (.array n e'))(hag:aggOf P e'=some (some m))(hsz:(P.info? e').map (·.size)=some m)(he:e.size=1)
 (hx:ev x= .dat (.arr (n*m) e) xs)(hi:ev i= .raw (.int k j))(h0:0<=j)(hb:j.toNat<n)(hk:K (.ret (.dat (.arr m e) ((xs.drop (j.toNat*m)).take m))) H):OpV P o ev H K:=by
 refine q0l (by rw [hop];intro c hc;cases hc) (s:=.dat (.arr m e) ((xs.drop (j.toNat*m)).take m)) (fun C ee hw hv=> ?_) hk;have h1:=hv x (by rw [hop];simp [Op.operands]);have h2:=hv i (by rw [hop];simp [Op.operands]);rw [hx,SV.den] at h1;rw [hi,SV.den] at h2;obtain ⟨vs,h1,hr⟩:=h1;obtain ⟨hn,hl,hr⟩:=(q0V he).1 hr;have hlt:j< (n:Int):=by omega
 have hle:j.toNat*m+m<=n*m:=by have:=A4 m (Nat.succ_le_of_lt hb);rwa [Nat.succ_mul] at this
 refine ⟨.agg ((vs.drop (j.toNat*m)).take m).toArray,?_,?_⟩
 . simp [execOp,hop,h1,h2,Instr.index,asIntOf,run_underlying' ht,h0,hlt,q0m hsz,part,q2z hag,Result.andThen]
 rw [SV.den];refine ⟨_,rfl,(q0V he).2 ⟨?_,?_,fun a y u hy hu=> ?_⟩⟩
 . rw [Ak,Aj];omega
 . rw [Ak,Aj];omega
 rw [AN] at hy hu;split at hy
 . rename_i ha;rw [if_pos ha] at hu;rw [AA] at hy hu;exact hr _ _ _ hy hu
 cases hy

def putAll(t:Ty)(pl:Nat->Option (Nat×Nat)):t.den->Prop->List (Nat×SV)->Option (t.den×Prop)
 |x,p,[]=>some (x,p)
 |x,p,(i,s) :: rest=>match pl i with
  |some (off,n)=>match t.putV x off n s with
   |some (y,q)=>putAll t pl y (p∧q) rest
   |none=>none
  |none=>none
def z4v{t:Ty}{pl:Nat->Option (Nat×Nat)}:∀ {ps:List (Nat×SV)} {x x':t.den} {p p':Prop},putAll t pl x p ps=some (x',p')->p'->p
 | [],_,_,_,_,h,hp=>by cases h;exact hp
 | (i,s) :: rest,x,x',p,p',h,hp=>by
  simp only [putAll] at h;split at h
  . split at h
    . exact (z4v h hp).1
    cases h
  cases h
theorem q8p{C:Cx}{t:Ty}{pl:Nat->Option (Nat×Nat)}:∀ {ps:List (Nat×SV)} {qs:List (Nat×Value)} {x x':t.den} {p p':Prop} {vs:List Value},t.rel C.I C.w x vs->
 (ps.map (·.1)=qs.map (·.1))->SV.denL C (ps.map (·.2)) (qs.map (·.2))->putAll t pl x p ps=some (x',p')->p'->∃us,Instr.fill pl vs.toArray qs=some us.toArray∧t.rel C.I C.w x' us
 | [],[],x,x',p,p',vs,hz,_,_,h,_=>by cases h;exact ⟨vs,rfl,hz⟩
 | [],_ :: _,_,_,_,_,_,_,h,_,_,_=>by simp at h
 |_ :: _,[],_,_,_,_,_,_,h,_,_,_=>by simp at h
 | (i,s) :: ps,(j,v) :: qs,x,x',p,p',vs,hz,hi,hd,h,hp=>by
  simp only [AC,List.cons.injEq] at hi;obtain ⟨rfl,hi⟩:=hi;simp only [AC] at hd;obtain ⟨v',us,e,hv,hd⟩:=q0d.1 hd;simp only [List.cons.injEq] at e;obtain ⟨rfl,rfl⟩:=e;simp only [putAll] at h;split at h
  . rename_i off n hpl;split at h
    . rename_i y q hy;obtain ⟨g1,g2,g3,g4⟩:=q4E t hy (z4v h hp).2 hv hz;obtain ⟨us,h1,h2⟩:=q8p g1 hi hd h hp;refine ⟨us,?_,h2⟩;have hsz:=t.rel_size _ _ hz;rw [Instr.fill];simp only [hpl];rw [if_neg (by simp only [AR,B4,decide_eq_true_eq,not_or];simp only [Au] at g3;omega)];have:(v.cells.zipIdx.foldl (fun cs x=>cs.setIfInBounds (off+x.2) x.1) vs.toArray)=(splice vs off v.cells.toList).toArray:=by have:=q7m v.cells.toList off 0 vs.toArray (by simp only [AR];simp only [Au] at g3⊢;omega);rw [AB] at this;rw [<-CO,Array.toList_zipIdx];apply Array.ext';rw [this]
      rw [<-h1,<-this]
    cases h
  cases h
theorem z5a{t:TypeId}{ty:Ty}{parts:Array (Nat×Operand)}{zs:List Value}{pl:PlaceK}{x:ty.den}(hop:o.op= .build t parts)(hz:(P.info? t).bind (fun i=>i.zero.map (·.cells.toList))=some zs)(hzt:ty.isZero zs=true)
 (hpl:placesOf P t=some pl)(hf:putAll ty pl.fn ty.dflt True (parts.toList.map fun p=>(p.1,ev p.2))=some (x,p))(hp:p)(hk:K (.ret (.dat ty x)) H):OpV P o ev H K:=by
 refine q0l (by rw [hop];intro c hc;cases hc) (fun C e _ hv=> ?_) hk;rw [hop] at hv;simp only [Op.operands] at hv;have hparts:SV.denL C ((parts.toList.map fun p=>(p.1,ev p.2)).map (·.2)) ((parts.toList.map fun p=>(p.1,e p.2)).map (·.2)):=by simp only [BS];have:=q1R (C:=C) (ev:=ev) (e:=e) (parts.toList.map (·.2)) (fun x hx=>hv x (by simpa using hx));simp only [BS] at this;exact this
 obtain ⟨us,h1,h2⟩:=q8p (C:=C) (qs:=parts.toList.map fun p=>(p.1,e p.2)) (Ty.isZero_rel hzt) (by simp) hparts hf hp;refine ⟨.agg us.toArray,?_,by rw [SV.den];exact ⟨us,rfl,h2⟩⟩;cases hi:P.info? t with
 |none=>simp [hi] at hz
 |some i=>
  cases hz0:i.zero with
  |none=>simp [hi,hz0] at hz
  |some z=>
   simp [hi,hz0] at hz;have hzz:z.cells=zs.toArray:=by rw [<-hz]
   have hzr:(zeroValue t).run P C.w= .ok z C.w:=by simp [zeroValue,typeInfo,hi,hz0]
   unfold placesOf at hpl;split at hpl
   . rename_i fs hu;cases hpl':(fs.toList.mapM (m:=Option) fun f=>(P.info? f.type).map fun i=>(f.offset,i.size)) with
     |none=>rw [hpl'] at hpl;cases hpl
     |some l=>
      rw [hpl'] at hpl;cases hpl;have hm:=q4w (P:=P) (w:=C.w) hpl';have hm':(fs.mapM (m:=Sem) fun f=>do pure (f.offset,<-sizeOf f.type)).run P C.w= .ok l.toArray C.w:=by rw [Ci];simp only [Sem.run_map];rw [hm];rfl
      have hfill:Instr.fill (l.toArray[·]?) zs.toArray (parts.map fun p=>(p.1,e p.2)).toList=some us.toArray:=by
       rw [<-h1];congr 1
       . funext j;simp [PlaceK.fn]
       simp
      simp only [execOp,hop,Sem.run_bind,Instr.build,hzr,Result.andThen,run_underlying' hu]
      erw [hm']
      simp only [hzz]
      erw [hfill]
      rfl
   . rename_i n e' hu;cases hie:P.info? e' with
     |none=>simp [hie] at hpl
     |some ie=>
      simp [hie] at hpl;subst hpl;have hse:(sizeOf e').run P C.w= .ok ie.size C.w:=q0m (by simp [hie]) C.w;have hfill:Instr.fill (fun i=>some (i*ie.size,ie.size)) zs.toArray (parts.map fun p=>(p.1,e p.2)).toList=some us.toArray:=by rw [<-h1];congr 1;simp
      simp only [execOp,hop,Sem.run_bind,Instr.build,hzr,Result.andThen,run_underlying' hu,hse,hzz]
      erw [hfill]
      rfl
   cases hpl
end
end Go.Sx