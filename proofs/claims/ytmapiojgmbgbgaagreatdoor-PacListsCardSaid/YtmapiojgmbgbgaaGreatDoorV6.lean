/- A part of the proof: a symbolic executor over abstract values, and its soundness. -/
import Derived.Test.YtmapiojgmbgbgaaGreatDoorV5
import Derived.Laws.IdiomStrings
import Derived.Laws.MakeOwn
import Derived.IntWalk
import Derived.Laws.StructEq
set_option linter.all false
namespace Go.Sx
open Go

variable [Ghost] {P:Program} {o:Oper} {ev:Operand→SV} {H:List SObj} {K:Out→List SObj→Prop} {t:Ty}

theorem OpV.weaken{ev':Operand→SV}(h:OpV P o ev' H K)(hle:∀x,SV.le (ev x) (ev' x)):OpV P o ev H K:=
 fun E C r n a next Q hw hg hv h1 h2=>h E C r n a next Q hw hg (fun x hx=>hle x C _ (hv x hx)) h1 h2

theorem q2w{α:Type}{vs us:List α}{o:Nat}(h:o+us.length≤vs.length)(j:Nat):
 (splice vs o us)[j]?=if j<o then vs[j]? else if j<o+us.length then us[j-o]? else vs[j]?:=by
 unfold splice;rcases AC j o with h1|h1
 · rw [if_pos h1,Ag (by simp;omega),Ag (by simp;omega),AH,if_pos h1]
 rw [if_neg (by omega)]
 rcases AC j (o+us.length) with h2|h2
 · rw [if_pos h2,Ag (by simp;omega),Ao (by simp;omega)]
   congr 1;simp;omega
 rw [if_neg (by omega),Ao (by simp;omega),AF]
 congr 1;simp;omega

theorem q7G{ty:TypeId}{x y:Operand}{h i kk n:Nat}{xs:List t.den}{ds:List SV}{d':t.den}{p:Prop}(hop:o.op= .store ty x y)(hs:(P.info? ty).map (·.size)=some n)(he:ev x= .rptr h t i kk)
 (hH:H[h]?=some (.row t xs))(hi:i<xs.length)(hf:(ev y).flat=some ds)(hn:ds.length=n)(hb:kk+n≤t.size)(h1:ones ds=true)
 (hr:t.rd (splice (t.cells (xs.getD i t.dflt)) kk ds)=some (d',p))(hp:p)(hk:K (.ret .any) (H.set h (.row t (xs.set i d')))):OpV P o ev H K:=by
 refine q0R (by rw [hop];intro c hc;cases hc) fun C e hw hv=> ?_
 have hx:=hv x (by rw [hop];simp [Op.operands])
 have hy:=q3l hf (hv y (by rw [hop];simp [Op.operands]))
 rw [he,SV.den] at hx;obtain ⟨_,b,hbb,hx⟩:=hx;rcases hw.obj h _ hH with ⟨_,h2⟩ | ⟨b',arr,T,fz,hb',hcell,hfz,hsz,hrow⟩
 · subst h2;simp at hi
 rw [hbb] at hb';cases hb';have hlen:(e y).cells.toList.length=n:=by rw [q0B hy,hn]
 have hin:i*t.size+kk+n≤arr.toList.length:=by
  rw [Av];have:(i+1)*t.size≤xs.length*t.size:=AX _ hi;rw [Nat.add_mul] at this;omega
 have hcell':C.w.heap[b]?=some (.cells arr.toList.toArray T fz):=by rw [hcell]
 have hrun:(storeCells ⟨b,i*t.size+kk,none⟩ (e y).cells.toList 0).run P C.w= .ok () (C.w.setCells b (i*t.size+kk+0) (e y).cells.toList):=run_storeCells_cells b (i*t.size+kk) _ 0 C.w
  (fun j hj=>by rw [q0g hcell'];rw [Ab (by omega)];rfl)
  (fun j hj=>by
   have:=hfz (i*t.size+kk+0+j) (by rw [Av] at hin;omega)
   simp only [World.frozen?,hcell];rw [By];simp only [decide_eq_false_iff_not]
   omega) (q4N h1 hy)
 rw [AK] at hrun;have hfit:i*t.size+kk+ (e y).cells.toList.length≤arr.toList.length:=by omega
 have hnew:=q1u (e y).cells.toList (i*t.size+kk) C.w arr.toList hcell' hfit;have hkeep:Keeps C.I C.I C.w (C.w.setCells b (i*t.size+kk) (e y).cells.toList):=fun b' hi'=>⟨hi',q0z (fun (eq:b'=b)=>(hw.own b ⟨h,_,hH,rfl,hbb⟩).1 (eq▸hi')) _ _ _⟩;have hbs:∀m,World.bsize C.w b=some m→World.bsize (C.w.setCells b (i*t.size+kk) (e y).cells.toList) b=some m:=fun m hm=>by
  unfold World.bsize at hm⊢;rw [hnew];rw [hcell] at hm;simp only [AO] at hm⊢;rw [q0s hfit,Av];exact hm
 have hev:Evo C {C with w:=C.w.setCells b (i*t.size+kk) (e y).cells.toList}:=⟨Ae _,fun _ _=>rfl,hkeep,fun b' m hm=>by
  by_cases hbb':b'=b
  · subst hbb';exact hbs m hm
  unfold World.bsize at hm⊢;rw [q0z hbb'];exact hm⟩
 obtain ⟨g1,g2,g3⟩:=z0P (so':=.row t (xs.set i d')) hw hH rfl rfl hbb (C.w.setCells b (i*t.size+kk) (e y).cells.toList) (fun b' hb'=>q0z hb' _ _ _) (q1c _ _ _)
  hbs (q1D _ _ _) (q1f _ _ _) (q0T _ _ _)
  (.inr ⟨b,_,T,fz,hbb,hnew,by rw [AO,q0s hfit,Av];exact hfz,by rw [A4];have:=q0s hfit;rw [Av] at this;simp only [AO,this];exact hsz,fun j d hd=>by
   by_cases hj:j=i
   · subst hj;rw [Ar hi] at hd;cases hd;have hold:xs[j]?=some (xs.getD j t.dflt):=by rw [Ad,Ab hi];rfl
     obtain ⟨us,r1,r2⟩:=hrow j _ hold;have hul:=Ty.rel_size _ _ _ r1;refine ⟨splice us kk (e y).cells.toList,?_,fun k u hu=> ?_⟩
     · refine Ty.rd_rel (C:={C with w:=C.w.setCells b (j*t.size+kk) (e y).cells.toList}) _ _ _ _ _ hr hp (q0f hev (q4m (Ty.cells_den _ _ _ r1) hy))
     have hlt:=(Aa.1 hu).1;rw [q0s (by omega)] at hlt
     rw [q0g hnew,q2w hfit];rw [q2w (by omega)] at hu
     rw [Ac];have hc:=fun u hu=>r2 k u hu;simp only [Ac] at hc;rw [q0g hcell'] at hc;split at hu
     · rw [if_pos (by omega)];exact hc u hu
     rw [if_neg (by omega)]
     split at hu
     · rw [if_pos (by omega),←hu];congr 1;omega
     rw [if_neg (by omega)];exact hc u hu
   rw [Aq (Ne.symm hj)] at hd;obtain ⟨us,r1,r2⟩:=hrow j d hd;have hul:=Ty.rel_size _ _ _ r1;refine ⟨us,Ty.rel_keep hkeep _ _ _ r1,fun k u hu=> ?_⟩;have hlt:=(Aa.1 hu).1;have hc:=r2 k u hu;simp only [Ac] at hc⊢;rw [q0g hcell'] at hc;rw [q0g hnew,q2w hfit];rcases Nat.lt_or_gt_of_ne hj with hj|hj
   · have:(j+1)*t.size≤i*t.size:=AX _ hj;rw [Nat.add_mul] at this;rw [if_pos (by omega)];exact hc
   have:(i+1)*t.size≤j*t.size:=AX _ hj;rw [Nat.add_mul] at this
   rw [if_neg (by omega),if_neg (by omega)];exact hc⟩)
 refine ⟨_,undef,_,_,hk,.inr ⟨?_,rfl⟩,g1,g2,by rw [SV.den];trivial⟩
 have hsz':(e y).cells.size=n:=by rw [←Av];exact hlen
 simp [execOp,hop,hx,Instr.storeAt,Instr.sureAddr,Result.andThen,storeVar,q0j hs,hsz',hrun]

theorem z0p{α:Type}(f:Nat→α)(s:Nat)(hf:∀j,f (s+j)=f j):∀n,(List.range ((n+1)*s)).map f=(List.range s).map f++(List.range (n*s)).map f:=by
 intro n;rw [Nat.add_mul,B3,Bm (n*s) s,List.range_add,CU,BO];congr 1;apply CC;intro j _;exact hf j
theorem q5h{I:Nat→Prop}{w:World}{d:t.den}{zl:List Value}(f:Nat→Value)(hz:(List.range t.size).map f=zl)(hf:∀j,f (t.size+j)=f j)(hd:t.rel I w d zl):∀n,relL I w t (List.replicate n d) ((List.range (n*t.size)).map f)
 |0=>by simp [relL]
 |n+1=>by
  rw [z0p f t.size hf,hz,Ca];exact ⟨_,_,rfl,hd,q5h f hz hf hd n⟩

def Ty.isZero:Ty→List Value→Bool
 |.u8,[.int .u8 n]=>n==0
 |.int k,[.int k' n]=>k==k'&& n==0
 |.bool,[.bool b]=> !b
 |.str,[.string s]=>s.size==0
 |.slice _,[.slice none 0 0]=>true
 |.prod a b,vs=>a.isZero (vs.take a.size) && b.isZero (vs.drop a.size)
 |.unit,[]=>true
 |.ptr _,[.pointer none]=>true
 |.arr n t,vs=>vs.length==n&& decide (t.size=1) && vs.all fun v=>t.isZero [v]
 |_,_=>false
theorem Ty.isZero_rel{I:Nat→Prop}{w:World}:∀ {t:Ty} {vs:List Value},t.isZero vs=true→t.rel I w t.dflt vs
 |.prod a b,vs,h=>by
  simp only [Ty.isZero,Aj] at h;exact ⟨_,_,(Bb a.size vs).symm,isZero_rel h.1,isZero_rel h.2⟩
 |.u8,vs,h=>by
  unfold Ty.isZero at h;split at h<;>first| (cases h;done) |skip
  all_goals simp_all [Ty.rel,Ty.dflt]
 |.int k,vs,h=>by
  unfold Ty.isZero at h;split at h<;>first| (cases h;done) |skip
  all_goals simp_all [Ty.rel,Ty.dflt]
 |.bool,vs,h=>by
  unfold Ty.isZero at h;split at h<;>first| (cases h;done) |skip
  all_goals simp_all [Ty.rel,Ty.dflt]
 |.str,vs,h=>by
  unfold Ty.isZero at h;split at h<;>first| (cases h;done) |skip
  all_goals simp_all [Ty.rel,Ty.dflt]
 |.slice t,vs,h=>by
  unfold Ty.isZero at h;split at h<;>first| (cases h;done) |skip
  all_goals simp_all [Ty.rel,Ty.dflt]
  all_goals exact ⟨_,_,_,⟨rfl,rfl,rfl⟩,rfl,Ae _,by omega⟩
 |.unit,vs,h=>by
  unfold Ty.isZero at h;split at h<;>first| (cases h;done) |skip
  all_goals simp_all [Ty.rel,Ty.dflt]
 |.arr n t,vs,h=>by
  simp only [Ty.isZero,Aj,beq_iff_eq,decide_eq_true_eq,Ba] at h;obtain ⟨⟨h1,_⟩,h3⟩:=h;refine ⟨by simp [Ty.dflt],vs.map fun v=>[v],?_,by simp [Ty.dflt,h1],fun i x us hx hu=> ?_⟩
  · clear h1 h3;induction vs with
    |nil=>rfl
    |cons v vs ih=>rw [AT,AD,←ih];rfl
  simp only [Ty.dflt] at hx;obtain ⟨hi,rfl⟩:=Aa.1 hx;rw [AN] at hu;rw [List.getElem_replicate];cases hv:vs[i]? with
  |none=>simp [hv] at hu
  |some v=>
   simp [hv] at hu;subst hu;exact isZero_rel (h3 v (BC hv))
 |.ptr t,vs,h=>by
  unfold Ty.isZero at h;split at h<;>first| (cases h;done) |skip
  all_goals simp_all [Ty.rel,Ty.dflt]
 |.clo f t,vs,h=>by simp [Ty.isZero] at h
 |.clp f t,vs,h=>by simp [Ty.isZero] at h
 |.mbs t,vs,h=>by simp [Ty.isZero] at h

theorem q8O{T e:TypeId}{x y:Operand}{i:TypeInfo}{z:Value}{k1 k2:IntKind}{n c:Int}(hop:o.op= .makeSlice T x y)(ht:P.underlying T=some (.slice e))(hi:P.info? e=some i)(hz:i.zero=some z)(hsz:i.size=t.size)(hzs:z.cells.size=t.size)(hpos:0<t.size)
 (hx:ev x= .raw (.int k1 n))(hy:ev y= .raw (.int k2 c))(h0:0≤n)(hnc:n≤c)(hc:c.toNat*i.bytes≤140737488355328)(hc2:c≤1125899906842624)(hd:t.isZero z.cells.toList=true)
 (hk:K (.ret (.bld H.length t n.toNat)) (H++ [.row t (List.replicate n.toNat t.dflt)])):OpV P o ev H K:=by
 refine q0R (by rw [hop];intro c hc;cases hc) fun C e' hw hv=> ?_
 have h1:=hv x (by rw [hop];simp [Op.operands])
 have h2:=hv y (by rw [hop];simp [Op.operands])
 rw [hx,SV.den] at h1;rw [hy,SV.den] at h2
 let f:Nat→Value:=fun j=>z.cells[j%z.cells.size]!
 have hf0:(List.range t.size).map f=z.cells.toList:=by
  apply AP
  · simp [hzs]
  intro j h1 h2;simp only [AZ,AU,f];have hj:j<z.cells.size:=by simpa using h2
  rw [AL hj,getElem!_pos z.cells j hj];simp
 have hf1:∀j,f (t.size+j)=f j:=fun j=>by simp only [f,hzs];rw [Nat.add_mod_left]
 have hsplit:(List.range (c.toNat*t.size)).map f=(List.range (n.toNat*t.size)).map f++((List.range ((c.toNat-n.toNat)*t.size)).map (n.toNat*t.size+ ·)).map f:=by
  rw [←CU,←List.range_add,←Nat.add_mul];congr 3;omega
 have hr:=q5h (I:=C.I) (w:=C.w) f hf0 hf1 (Ty.isZero_rel hd) n.toNat
 obtain ⟨q1,q2,q3⟩:=q4q (T:=e) (rest:=((List.range ((c.toNat-n.toNat)*t.size)).map (n.toNat*t.size+ ·)).map f) hw (n:=n.toNat) (c:=c.toNat) hr (by simp) (by omega) (by
  simp only [A5,B2,←Nat.add_mul]
  exact AX _ (by omega))
 refine ⟨_,_,_,_,hk,.inl ?_,q1,q2,q3⟩;have hbig:(i.bytes:Int)*c≤281474976710656:=by
  have:((c.toNat*i.bytes:Nat):Int)=(i.bytes:Int)*c:=by
   rw [Int.natCast_mul,Int.toNat_of_nonneg (by omega),Int.mul_comm]
  omega
 have harr:madeCells z.cells (c.toNat*i.size)=((List.range (n.toNat*t.size)).map f++((List.range ((c.toNat-n.toNat)*t.size)).map (n.toNat*t.size+ ·)).map f).toArray:=by
  rw [←hsplit,hsz];apply Array.ext';simp [madeCells,f]
 have hrun:=run_make C.w T e i z ht hi hz k1 k2 n c h0 hnc hbig (by omega)
 rw [harr] at hrun;simp only [execOp,hop,Sem.run_bind,h1,h2,hrun,Result.andThen,Sem.run_pure];rfl

theorem z8q{C:Cx}(hw:Wd C H){xs:List t.den}{vs rest:List Value}{T:TypeId}{n c:Nat}{fz:Nat×Nat}(hr:relL C.I C.w t xs vs)(hnc:n≤c)(hc:c*t.size≤vs.length+rest.length)(hfz:∀i,i< (vs++rest).length→¬(fz.1≤i∧i<fz.2)):
 Wd (C.grow (.cells (vs++rest).toArray T fz)) (H++ [.row t xs])∧Ext ⟨C,H⟩ (C.grow (.cells (vs++rest).toArray T fz)) (H++ [.row t xs])∧
  (SV.bld H.length t n).den (C.grow (.cells (vs++rest).toArray T fz)) (.slice (some ⟨C.w.heap.size,0,none⟩) n c):=by
 have he:=q6p hw.imm (.cells (vs++rest).toArray T fz);have hl:=q0S hr
 obtain ⟨g1,g2⟩:=q5u hw (.cells (vs++rest).toArray T fz) (.row t xs) (by
  refine .inr ⟨C.w.heap.size,(vs++rest).toArray,T,fz,by simp [Cx.grow],q1y _ _,by simpa using hfz,by simp [←hl],?_⟩
  refine q3U (q2S he.I hr) fun j u hu=> ?_;have:(C.grow (.cells (vs++rest).toArray T fz)).w.heap[C.w.heap.size]?=some (.cells (vs++rest).toArray T fz):=q1y _ _;rw [Ac,q0g this,Ag (Aa.1 hu).1]
  exact hu)
 refine ⟨g1,g2,?_⟩;rw [SV.den];refine ⟨by simp [Cx.grow,hw.n],.inr ⟨C.w.heap.size,c,(vs++rest).length,by simp [Cx.grow,hw.n],rfl,hnc,?_,by simpa using hc⟩⟩
 unfold World.bsize;rw [show (C.grow (.cells (vs++rest).toArray T fz)).w.heap[C.w.heap.size]?=some (.cells (vs++rest).toArray T fz) from q1y _ _]
 simp

theorem z1h{src dst e:TypeId}{x:Operand}{s:ByteArray}(hop:o.op= .convert src dst x)(hs:P.underlying src=some .string)(hd:P.underlying dst=some (.slice e))(he:P.underlying e=some (.int .u8))(hx:ev x= .raw (.string s))
 (hk:K (.ret (.bld H.length .u8 s.size)) (H++ [.row .u8 (bytesOf s)])):OpV P o ev H K:=by
 refine q0R (by rw [hop];intro c hc;cases hc) fun C e' hw hv=> ?_
 have h1:=hv x (by rw [hop];simp [Op.operands])
 rw [hx,SV.den] at h1;have hrun:=run_bytes_of_string (P:=P) C.w src dst e s hs hd he;have hcap:s.size≤grownCap C.w s.size 0 e:=by simp [grownCap,Question.cut]
 have harr:bytesRow s (grownCap C.w s.size 0 e)=((bytesOf s).map (fun b:UInt8=>Value.int .u8 b.toNat)++List.replicate (grownCap C.w s.size 0 e-s.size) (Value.int .u8 0)).toArray:=by
  apply Array.ext';simp [bytesRow,bytesOf]
 have hbl:(bytesOf s).length=s.size:=Av;obtain ⟨q1,q2,q3⟩:=z8q (t:=.u8) (T:=e) (H:=H) (fz:=((bytesRow s (grownCap C.w s.size 0 e)).size,(bytesRow s (grownCap C.w s.size 0 e)).size+1)) (rest:=List.replicate (grownCap C.w s.size 0 e-s.size) (Value.int .u8 0)) (q3m hw) (n:=s.size) (c:=grownCap C.w s.size 0 e)
  (q5K C.drew.I C.drew.w (bytesOf s)) hcap (by simp [Ty.size,hbl];omega) (by
   intro i hi;rw [harr];simp only [AO]
   omega)
 refine ⟨_,_,_,_,hk,.inl ?_,q1,(q2l C H).trans q2,q3⟩;simp only [execOp,hop,h1,Sem.run_bind,hrun,Result.andThen,Sem.run_pure];rw [←harr];rfl

theorem j1I{xs:List t.den}:SV.le (.fsl t xs) (.isl t xs):=fun C v h=>by simp only [SV.den] at h⊢;exact h.1
def SV.wk:SV→SV
 |.fsl t xs=>.isl t xs
 |s=>s
theorem z8L(s:SV):SV.le s s.wk:=by
 cases s<;>first|exact SV.le_refl _|exact j1I

theorem z5f{C:Cx}(hw:Wd C H){xs:List t.den}{vs rest:List Value}{T:TypeId}{c:Nat}(hr:relL C.I C.w t xs vs)(hc:xs.length≤c)(hlen:xs.length≤1125899906842624):
 ∃C',C'.w=C.w.alloc (.cells (vs++rest).toArray T)∧Wd C' H∧Ext ⟨C,H⟩ C' H∧(SV.isl t xs).den C' (.slice (some ⟨C.w.heap.size,0,none⟩) xs.length c):=by
 let D:Cx:={C with I:=fun b=>C.I b∨b=C.w.heap.size,w:=C.w.alloc (.cells (vs++rest).toArray T)}
 have hsz:D.w.heap.size=C.w.heap.size+1:=by show (C.w.heap.push _).size=_;simp
 have hk:Keeps C.I D.I C.w D.w:=fun b hb=>⟨.inl hb,q1x _ _ (hw.imm b hb)⟩
 have hev:Evo C D:=⟨Ae _,fun _ _=>rfl,hk,fun b m hm=>by
  have:=q9s hm;unfold World.bsize at hm⊢
  rw [q1x _ _ this];exact hm⟩
 have hnew:D.w.heap[C.w.heap.size]?=some (.cells (vs++rest).toArray T):=q1y _ _;refine ⟨D,rfl,⟨hw.n,fun h o ho=> ?_,fun b hb=> ?_,hw.inj,?_⟩,⟨hev,by rw [hsz];exact CL _,rfl,rfl,rfl,fun b hb _=>q1x _ _ hb,?_,fun b hb=>.inr hb,fun _ _ h=>h⟩,?_⟩
 · by_cases hl:o.live=true
   · exact q0C (C':=D) hk h rfl (fun b hb=>q1x _ _ (hw.own b ⟨h,o,ho,hl,hb⟩).2) (q0f hev) (hw.obj h o ho)
   cases o<;>first|trivial|simp [SObj.live] at hl
 · have:=hw.own b hb;exact ⟨fun hi=>hi.elim this.1 (by omega),by omega⟩
 · rintro b (hb|rfl)
   · have:=hw.imm b hb;omega
   omega
 · rintro b (hb|rfl)
   · exact .inl hb
   exact .inr ⟨.inl (Ae _),fun c T fz hc=>by rw [hnew] at hc;cases hc;simp⟩
 rw [SV.den];refine ⟨_,_,_,rfl,rfl,hc,hlen,.inr ⟨C.w.heap.size,0,rfl,.inr rfl,?_⟩⟩;refine q3U (q2S hk hr) fun j u hu=> ?_;rw [Ac,q0g hnew,Ag (Aa.1 hu).1];exact hu

theorem q7x{w:World}{tS tX ty e:TypeId}{i:TypeInfo}{A:Option Addr}{n c:Nat}{xv:Value}(ht:P.underlying tS=some (.slice e)){bb:Bool}(hx:srcType P tX=some bb)(hi:P.info? e=some i)(hlen:(Builtin.lenOf xv).run P w= .ok 0 w)(hnc:n≤c)
 (hfc:(Builtin.firstCells i.size 0 xv).run P w= .ok #[] w):
 (Builtin.append_ #[tS,tX] ty #[.slice A n c,xv]).run P w= .ok (.slice A n c) w:=by
 rcases q2n hx with ⟨e',hd⟩ |hd<;>clear hx<;>have hd:=run_underlying' hd
 all_goals cases A<;>simp [Builtin.append_,run_underlying' ht,sizeOf,typeInfo,hi,hd,hlen,hfc,hnc,storeCells]

theorem q7H{c:Call}{x y:Operand}{tS tX e:TypeId}{bb:Bool}{i:TypeInfo}{z:Value}{xs ys:List t.den}{p:Prop}(hop:o.op= .call c)(hc:c.callee= .builtin .append)(ha:c.args= #[x,y])(hty:c.argTypes= #[tS,tX])
 (ht:P.underlying tS=some (.slice e))(hx:srcType P tX=some bb)(hi:P.info? e=some i)(hsz:i.size=t.size)(hz:i.zero=some z)
 (hdst:ev x= .fsl t xs)(hsrc:srcS t H (ev y)=some (ys,p))(hp:p)
 (h63:xs.length+ys.length≤1125899906842624)(hb:(xs.length+ys.length)*i.bytes≤140737488355328)
 (hk:K (.ret (.isl t (xs++ys))) H):OpV P o ev H K:=by
 refine q0R (by rw [hop];intro c hc;cases hc) fun C e' hw hv=> ?_
 have h0:=hv x (by rw [hop];simp [Op.operands,Call.operands,hc,ha])
 have h1:=hv y (by rw [hop];simp [Op.operands,Call.operands,hc,ha])
 rw [hdst,SV.den] at h0;obtain ⟨h0,A,hv0⟩:=h0;obtain ⟨news,hr,hlen,hfc⟩:=z2B hw h1 hsrc hp;obtain ⟨news',hr',hlen',hfc'⟩:=z2B (q3m hw) (q0Z (q2q C) h1) hsrc hp;rw [←hsz] at hfc hfc';have fin:∀r C',(Builtin.append_ #[tS,tX] o.type #[e' x,e' y]).run P C.w= .ok r C'.w→Wd C' H→Ext ⟨C,H⟩ C' H→(SV.isl t (xs++ys)).den C' r→
  ∃s v H' C',K (.ret s) H'∧((execOp e' o).run P C.w= .ok (.value v) C'.w∨((execOp e' o).run P C.w= .ok .skip C'.w∧v=undef))∧Wd C' H'∧Ext ⟨C,H⟩ C' H'∧s.den C' v:=fun r C' hrun g1 g2 g3=>
  ⟨_,r,_,C',hk,.inl (by simp [execOp,hop,resolve,hc,ha,hty,invoke,builtin,hrun,Result.andThen]),g1,g2,g3⟩
 by_cases hy:ys.length=0
 · obtain rfl:ys= []:=A7 hy;obtain rfl:news= []:=by cases hr;rfl
   refine fin (e' x) C ?_ hw (Ext.refl _ _) ?_
   · rw [hv0];exact q7x ht hx hi hlen (Ae _) (by simpa using hfc)
   rw [Ai,SV.den];exact h0
 obtain ⟨vs,v1,v2⟩:∃vs,relL C.drew.I C.drew.w t xs vs∧(Builtin.firstCells t.size xs.length (.slice A xs.length xs.length)).run P C.drew.w= .ok vs.toArray C.drew.w:=by
  refine q1g (P:=P) (C:=C.drew) (A:=A) (c:=xs.length) (ys:=xs) ?_;obtain ⟨A',n,c',e1,hn,_,_,hd⟩:=h0;rw [hv0] at e1;simp only [List.cons.injEq,Value.slice.injEq,and_true] at e1;obtain ⟨rfl,_,_⟩:=e1;rcases hd with hd| ⟨b,off,rfl,_,hd⟩
  · exact .inl hd
  refine .inr ⟨b,off,rfl,fun j d hj=> ?_⟩;obtain ⟨us,a1,a2⟩:=hd j d hj;exact ⟨us,Ty.rel_keep (q2q C).I _ _ _ a1,a2⟩
 rw [←hsz] at v2;obtain ⟨cap,hcap,hrun⟩:=q3w (P:=P) (w:=C.w) (ty:=o.type) ht hx hi hz hlen (sLen:=xs.length) (sCap:=xs.length) (by omega) (by omega) hb v2 hfc'
 obtain ⟨C',hC',g1,g2,g3⟩:=z5f (T:=e) (rest:=(Builtin.zeroCells z.cells (cap- (xs.length+ys.length))).toList) (q3m hw) (q1C v1 hr') (c:=cap) (by simpa using hcap) (by simpa using h63)
 refine fin _ C' ?_ g1 ((q2l C H).trans g2) g3;rw [hv0,hrun,hC'];simp only [Af];rfl

theorem q5j{w:World}{tS tX ty e:TypeId}{i:TypeInfo}{kk:IntKind}{A:Option Addr}{c:Nat}(ht:P.underlying tS=some (.slice e))(hx:P.underlying tX=some (.int kk))(hi:P.info? e=some i):
 (Builtin.append_ #[tS,tX] ty #[.slice A c c,.int .i64 0]).run P w= .ok (.slice A c c) w:=by
 have hd:=run_underlying' hx;have hwr:IntKind.i64.wrap 0=0:=by decide
 cases A<;>simp [Builtin.append_,run_underlying' ht,sizeOf,typeInfo,hi,hd,asInt,asIntOf,hwr,storeCells]

theorem q6e{w:World}{tS tX ty e:TypeId}{i:TypeInfo}{z:Value}{kk:IntKind}{base:Option Addr}{old:List Value}{sLen sCap n:Nat}(ht:P.underlying tS=some (.slice e))(hx:P.underlying tX=some (.int kk))(hi:P.info? e=some i)(hz:i.zero=some z)
 (hpos:0<n*i.size)(hroom:sCap<sLen+n)(h63:sLen+n≤1125899906842624)(hb:(sLen+n)*i.bytes≤140737488355328)
 (hold:(Builtin.firstCells i.size sLen (.slice base sLen sCap)).run P w.drew= .ok old.toArray w.drew):
 ∃cap,sLen+n≤cap∧(Builtin.append_ #[tS,tX] ty #[.slice base sLen sCap,.int .i64 n]).run P w= .ok (.slice (some ⟨w.heap.size,0,none⟩) (sLen+n) cap) (w.drew.alloc (.cells (old++(Builtin.zeroCells z.cells n).toList++(Builtin.zeroCells z.cells (cap- (sLen+n))).toList).toArray e)):=by
 refine ⟨(Question.appendCap (sLen+n) sCap e).cut (w.tape w.drawn (.appendCap (sLen+n) sCap e)),by simp [Question.cut],?_⟩
 have hfit:=growslice_fits hroom hb;have hn1:¬(sLen+n≤sCap):=by omega
 have hn2':¬((9223372036854775807:Int) < (sLen:Int)+ (n:Int)):=by omega
 have hn3:¬(281474976710656<Builtin.nextslicecap (sLen+n) sCap*i.bytes):=by omega
 have hmax:IntKind.i64.max=9223372036854775807:=by decide
 have hwr:IntKind.i64.wrap (n:Int)=n:=IntWalk.i64_in n (by omega)
 have hng:¬((n:Int) <0):=by omega
 have hbig:¬((281474976710656:Int) < (n:Int)* (i.bytes:Int)):=by
  have h1:n*i.bytes≤(sLen+n)*i.bytes:=AX _ (by omega)
  have h2:((n*i.bytes:Nat):Int)=(n:Int)* (i.bytes:Int):=Int.natCast_mul _ _;omega
 have hnz:¬(n*i.size=0):=by omega
 have hd:=run_underlying' hx;simp [Builtin.append_,run_underlying' ht,sizeOf,typeInfo,hi,hd,asInt,asIntOf,hwr,hng,hbig,hn1,hmax,hn2',hn3,Question.forced,hold,zeroValue,hz,newRow];rw [if_neg hnz];congr 2;apply congrArg (fun a=>Obj.cells a e);apply Array.ext';simp

theorem z9v{c:Call}{x y:Operand}{tS tX e:TypeId}{kk:IntKind}{i:TypeInfo}{z:Value}{xs:List t.den}{m:Int}(hop:o.op= .call c)(hc:c.callee= .builtin .append)(ha:c.args= #[x,y])(hty:c.argTypes= #[tS,tX])
 (ht:P.underlying tS=some (.slice e))(hx:P.underlying tX=some (.int kk))(hi:P.info? e=some i)(hsz:i.size=t.size)(hz:i.zero=some z)(hzs:z.cells.size=t.size)(hpos:0<t.size)(hd:t.isZero z.cells.toList=true)
 (hdst:ev x= .fsl t xs)(hsrc:ev y= .raw (.int .i64 m))(h0:0≤m)
 (h63:xs.length+m.toNat≤1125899906842624)(hb:(xs.length+m.toNat)*i.bytes≤140737488355328)
 (hk:K (.ret (.isl t (xs++List.replicate m.toNat t.dflt))) H):OpV P o ev H K:=by
 refine q0R (by rw [hop];intro c hc;cases hc) fun C e' hw hv=> ?_
 have h1:=hv x (by rw [hop];simp [Op.operands,Call.operands,hc,ha])
 have h2:=hv y (by rw [hop];simp [Op.operands,Call.operands,hc,ha])
 rw [hdst,SV.den] at h1;rw [hsrc,SV.den] at h2;obtain ⟨h1,A,hv0⟩:=h1;obtain ⟨n,rfl⟩:∃n:Nat,m=n:=⟨m.toNat,(Int.toNat_of_nonneg h0).symm⟩;rw [BP] at h63 hb hk;have fin:∀r C',(Builtin.append_ #[tS,tX] o.type #[e' x,e' y]).run P C.w= .ok r C'.w→Wd C' H→Ext ⟨C,H⟩ C' H→(SV.isl t (xs++List.replicate n t.dflt)).den C' r→
  ∃s v H' C',K (.ret s) H'∧((execOp e' o).run P C.w= .ok (.value v) C'.w∨((execOp e' o).run P C.w= .ok .skip C'.w∧v=undef))∧Wd C' H'∧Ext ⟨C,H⟩ C' H'∧s.den C' v:=fun r C' hrun g1 g2 g3=>
  ⟨_,r,_,C',hk,.inl (by simp [execOp,hop,resolve,hc,ha,hty,invoke,builtin,hrun,Result.andThen]),g1,g2,g3⟩
 by_cases hy:n=0
 · subst hy;refine fin (e' x) C ?_ hw (Ext.refl _ _) ?_
   · rw [hv0,h2];exact q5j ht hx hi
   rw [List.replicate_zero,Ai,SV.den];exact h1
 obtain ⟨vs,v1,v2⟩:∃vs,relL C.drew.I C.drew.w t xs vs∧(Builtin.firstCells t.size xs.length (.slice A xs.length xs.length)).run P C.drew.w= .ok vs.toArray C.drew.w:=by
  refine q1g (P:=P) (C:=C.drew) (A:=A) (c:=xs.length) (ys:=xs) ?_;obtain ⟨A',n',c',e1,hn,_,_,hd⟩:=h1;rw [hv0] at e1;simp only [List.cons.injEq,Value.slice.injEq,and_true] at e1;obtain ⟨rfl,_,_⟩:=e1;rcases hd with hd| ⟨b,off,rfl,_,hd⟩
  · exact .inl hd
  refine .inr ⟨b,off,rfl,fun j d hj=> ?_⟩;obtain ⟨us,a1,a2⟩:=hd j d hj;exact ⟨us,Ty.rel_keep (q2q C).I _ _ _ a1,a2⟩
 rw [←hsz] at v2
 let f:Nat→Value:=fun j=>z.cells[j%z.cells.size]!
 have hf0:(List.range t.size).map f=z.cells.toList:=by
  apply AP
  · simp [hzs]
  intro j h1 h2;simp only [AZ,AU,f];have hj:j<z.cells.size:=by simpa using h2
  rw [AL hj,getElem!_pos z.cells j hj];simp
 have hf1:∀j,f (t.size+j)=f j:=fun j=>by simp only [f,hzs];rw [Nat.add_mod_left]
 have hr:=q5h (I:=C.drew.I) (w:=C.drew.w) f hf0 hf1 (Ty.isZero_rel hd) n;have hzc:(Builtin.zeroCells z.cells n).toList=(List.range (n*t.size)).map f:=by
  simp [Builtin.zeroCells,f,hzs]
 rw [←hzc] at hr;obtain ⟨cap,hcap,hrun⟩:=q6e (P:=P) (w:=C.w) (ty:=o.type) (base:=A) ht hx hi hz (sLen:=xs.length) (sCap:=xs.length) (n:=n) (Nat.mul_pos (by omega) (by omega)) (by omega) h63 hb v2
 obtain ⟨C',hC',g1,g2,g3⟩:=z5f (T:=e) (rest:=(Builtin.zeroCells z.cells (cap- (xs.length+n))).toList) (q3m hw) (q1C v1 hr) (c:=cap) (by simpa using hcap) (by simpa using h63)
 refine fin _ C' ?_ g1 ((q2l C H).trans g2) g3;rw [hv0,h2,hrun,hC'];simp only [Af,BM];rfl

theorem q3R{C:Cx}{e:Operand→Value}{lo:Option Operand}{hi mx:Operand}{a:Option Int}{b m:Int}{isS:Bool}{len cap:Nat}(hlo:∀x∈lo,(ev x).den C (e x))(hhi:(ev hi).den C (e hi))(hmx:(ev mx).den C (e mx))
 (h1:bndV ev lo=some a)(h2:bndV ev (some hi)=some (some b))(h3:bndV ev (some mx)=some (some m))(w:World)(g0:0≤loOf a)(g1:loOf a≤b)(g2:b≤m)(g3:m≤(cap:Int)):
 (Instr.sliceBounds isS len cap (lo.map e) (some (e hi)) (some (e mx))).run P w= .ok ((loOf a).toNat,b.toNat,m.toNat) w:=by
 have hm:=q5N (P:=P) hmx h3 cap (if isS then .slice3Acap else .slice3Alen) w (by omega) (by omega)
 have hh:=q5N (P:=P) hhi h2 m.toNat (.slice3B) w (by omega) (by omega)
 cases lo with
 |none=>
  simp only [bndV,Option.some.injEq] at h1;subst h1;simp [Instr.sliceBounds,loOf,hm,hh]
 |some x=>
  cases a with
  |none=>simp only [bndV] at h1;split at h1<;>simp at h1
  |some n=>
   simp only [loOf] at*;have:=q5N (P:=P) (hlo x rfl) h1 b.toNat (.slice3C) w g0 (by omega)
   simp [Instr.sliceBounds,hm,hh,this]

def fullS(f:Bool):SV→SV
 |.isl t xs=>if f then .fsl t xs else .isl t xs
 |s=>s
theorem z4B{T:TypeId}{x hi mx:Operand}{lo:Option Operand}{a:Option Int}{b m:Int}{s:SV}{f:Bool}(hop:o.op= .slice T x lo (some hi) (some mx))(hk0:sliceKind P T (ev x)=true)(h1:bndV ev lo=some a)(h2:bndV ev (some hi)=some (some b))(h3:bndV ev (some mx)=some (some m))
 (g0:0≤loOf a)(g1:loOf a≤b)(g2:b≤m)(g3:m≤(lenOfS (ev x):Int))(hf:f=true→b=m)(hne:∀str,ev x≠ .raw (.string str))(hs:sliceTo (loOf a).toNat b.toNat (ev x)=some s)(hk:K (.ret (fullS f s)) H):OpV P o ev H K:=by
 refine q0i (by rw [hop];intro c hc;cases hc) (s:=fullS f s) (fun C e _ hv=> ?_) hk
 rw [hop] at hv;have hx:=hv x (by simp [Op.operands])
 have hlo:∀y∈lo,(ev y).den C (e y):=fun y hy=>hv y (by simp [Op.operands];cases hy;simp)
 have hhi:(ev hi).den C (e hi):=hv hi (by simp [Op.operands])
 have hmx:(ev mx).den C (e mx):=hv mx (by simp [Op.operands])
 have hexec:∀r:Value,(Instr.sliceAt T (e x) (lo.map e) (some (e hi)) (some (e mx))).run P C.w= .ok r C.w→(execOp e o).run P C.w= .ok (.value r) C.w:=fun r hr=>by
  simp [execOp,hop,hr]
 generalize hsx:ev x=sx at*;unfold sliceKind at hk0;split at hk0
 · exact absurd rfl (hne _)
 · rename_i ty xs;obtain ⟨el,hu,hsz⟩:=q2i hk0;simp only [sliceTo,Option.some.injEq] at hs;subst hs;simp only [lenOfS] at*;rw [SV.den] at hx;obtain ⟨A,n,c,e0,hn,hc,hlim,hd⟩:=hx;simp only [List.cons.injEq,and_true] at e0;subst hn;have hb:=q3R (P:=P) (C:=C) (e:=e) (isS:=true) (len:=xs.length) (cap:=c) hlo hhi hmx h1 h2 h3 C.w g0 g1 g2 (by omega)
   have hden:(SV.isl ty ((xs.take b.toNat).drop (loOf a).toNat)).den C (.slice (if m.toNat=(loOf a).toNat then A else A.map (·.add ((loOf a).toNat*ty.size))) (b.toNat- (loOf a).toNat) (m.toNat- (loOf a).toNat)):=by
    rw [SV.den];refine ⟨_,_,_,rfl,by simp;omega,by omega,by omega,?_⟩
    by_cases hz:b.toNat- (loOf a).toNat=0
    · exact .inl (A7 (by simp;omega))
    rcases hd with rfl| ⟨blk,off,rfl,hI,hd⟩
    · simp at g3;omega
    refine .inr ⟨blk,off+ (loOf a).toNat*ty.size,?_,hI,fun i x hx=> ?_⟩
    · rw [if_neg (by omega)];simp [q0J]
    rw [AF,AH] at hx;split at hx
    · obtain ⟨us,h1,h2⟩:=hd ((loOf a).toNat+i) x hx;exact ⟨us,h1,fun k u hu=>by rw [←h2 k u hu,Nat.add_mul];congr 2;omega⟩
    cases hx
   refine ⟨.slice (if m.toNat=(loOf a).toNat then A else A.map (·.add ((loOf a).toNat*ty.size))) (b.toNat- (loOf a).toNat) (m.toNat- (loOf a).toNat),hexec _ (by simp [Instr.sliceAt,run_underlying' hu,Instr.slice,e0,hb,q0j hsz]),?_⟩
   cases f with
   |false=>exact hden
   |true=>
    have hbm:=hf rfl;subst hbm;simp only [fullS,if_true];simp only [SV.den] at hden⊢;have hl:((xs.take b.toNat).drop (loOf a).toNat).length=b.toNat- (loOf a).toNat:=by simp;omega
    refine ⟨hden,if b.toNat=(loOf a).toNat then A else A.map (·.add ((loOf a).toNat*ty.size)),?_⟩
    rw [hl]
 · rename_i h ty n;obtain ⟨el,hu,hsz⟩:=q2i hk0;simp only [sliceTo,Option.some.injEq] at hs;subst hs;simp only [lenOfS] at*;have hx:=q5O hx;rw [SV.den] at hx;obtain ⟨hn,A,c,e0,hc,hd⟩:=hx;have hb:=q3R (P:=P) (C:=C) (e:=e) (isS:=true) (len:=n) (cap:=c) hlo hhi hmx h1 h2 h3 C.w g0 g1 g2 (by omega)
   refine ⟨.slice (if m.toNat=(loOf a).toNat then A else A.map (·.add ((loOf a).toNat*ty.size))) (b.toNat- (loOf a).toNat) (m.toNat- (loOf a).toNat),hexec _ ?_,?_⟩
   · simp [Instr.sliceAt,run_underlying' hu,Instr.slice,e0,hb,q0j hsz]
   simp only [fullS];rw [SV.den];refine ⟨hn,_,_,rfl,by omega,?_⟩
   by_cases hz:b.toNat- (loOf a).toNat=0
   · exact .inl hz
   rcases hd with h0| ⟨blk,hblk,rfl⟩
   · omega
   refine .inr ⟨blk,hblk,?_⟩;rw [if_neg (by omega)]
   simp [q0J]
 · rename_i h ty off n;obtain ⟨el,hu,hsz⟩:=q2i hk0;simp only [sliceTo,Option.some.injEq] at hs;subst hs;simp only [lenOfS] at*;rw [SV.den] at hx;obtain ⟨hn,A,c,e0,hc,hd⟩:=hx;have hb:=q3R (P:=P) (C:=C) (e:=e) (isS:=true) (len:=n) (cap:=c) hlo hhi hmx h1 h2 h3 C.w g0 g1 g2 (by omega)
   refine ⟨.slice (if m.toNat=(loOf a).toNat then A else A.map (·.add ((loOf a).toNat*ty.size))) (b.toNat- (loOf a).toNat) (m.toNat- (loOf a).toNat),hexec _ ?_,?_⟩
   · simp [Instr.sliceAt,run_underlying' hu,Instr.slice,e0,hb,q0j hsz]
   simp only [fullS];rw [SV.den];refine ⟨hn,_,_,rfl,by omega,?_⟩
   by_cases hz:b.toNat- (loOf a).toNat=0
   · exact .inl hz
   rcases hd with h0| ⟨blk,hblk,rfl⟩
   · omega
   refine .inr ⟨blk,hblk,?_⟩;rw [if_neg (by omega)]
   simp [q0J,Nat.add_mul]
 · split at hk0
   · rename_i el hu;simp only [sliceTo,Option.some.injEq] at hs;subst hs;simp only [lenOfS] at*;rw [SV.den] at hx;have hb:=q3R (P:=P) (C:=C) (e:=e) (isS:=true) (len:=0) (cap:=0) hlo hhi hmx h1 h2 h3 C.w g0 g1 g2 g3;have e1:(loOf a).toNat=0:=by omega
     have e2:b.toNat=0:=by omega
     have e3:m.toNat=0:=by omega
     rw [e1,e2,e3] at hb;obtain ⟨i,hi'⟩:=Ci.1 hk0;refine ⟨_,hexec (.slice none 0 0) ?_,by simp only [fullS];rw [SV.den]⟩
     simp [Instr.sliceAt,run_underlying' hu,Instr.slice,hx,hb,sizeOf,typeInfo,hi']
   cases hk0
 · rename_i h ty k0 off n;obtain ⟨el,hu,hsz⟩:=q2i hk0;simp only [sliceTo,Option.some.injEq] at hs;subst hs;simp only [lenOfS] at*;rw [SV.den] at hx;obtain ⟨hn,A,c,e0,hc,hd⟩:=hx;have hb:=q3R (P:=P) (C:=C) (e:=e) (isS:=true) (len:=n) (cap:=c) hlo hhi hmx h1 h2 h3 C.w g0 g1 g2 (by omega)
   refine ⟨.slice (if m.toNat=(loOf a).toNat then A else A.map (·.add ((loOf a).toNat*ty.size))) (b.toNat- (loOf a).toNat) (m.toNat- (loOf a).toNat),hexec _ ?_,?_⟩
   · simp [Instr.sliceAt,run_underlying' hu,Instr.slice,e0,hb,q0j hsz]
   simp only [fullS];rw [SV.den];refine ⟨hn,_,_,rfl,by omega,?_⟩
   by_cases hz:b.toNat- (loOf a).toNat=0
   · exact .inl hz
   rcases hd with h0| ⟨blk,hblk,rfl⟩
   · omega
   refine .inr ⟨blk,hblk,?_⟩;rw [if_neg (by omega)]
   simp only [q0J,CT,Nat.add_mul];congr 2;omega
 cases hk0
end Go.Sx
namespace Go.Sx
open Go

variable [Ghost] {P:Program} {o:Oper} {ev:Operand→SV} {H:List SObj} {K:Out→List SObj→Prop}

def plainK(P:Program)(t:TypeId):Option Nat:=match P.underlying t with
 |some (.int _)=>some 0
 |some .string=>some 1
 |some .bool=>some 2
 |_=>none
def flatK(P:Program):List Field→Nat→Option (List Nat)
 | [],_=>some []
 |f :: fs,i=>match plainK P f.type,flatK P fs (i+1) with
  |some k,some ks=>if f.name≠ "_" ∧f.offset=i∧aggOf P f.type=some none then some (k :: ks) else none
  |_,_=>none
def structK(P:Program)(t:TypeId):Option (List Nat):=match P.underlying t with
 |some (.struct fs)=>if P.stoodInHeld t=false∧P.eqGuardType P.depth t=false then flatK P fs.toList 0 else none
 |_=>none
def eqR:Nat→SV→SV→Option Bool
 |0,.raw (.int k a),.raw (.int k' b)=>if k=k' then some (decide (a=b)) else none
 |1,.raw (.string a),.raw (.string b)=>some (decide (a=b))
 |2,.raw (.bool a),.raw (.bool b)=>some (decide (a=b))
 |_,_,_=>none
def eqRs:List Nat→List SV→List SV→Option Bool
 | [],[],[]=>some true
 |k :: ks,a :: l,b :: l'=>match eqR k a b,eqRs ks l l' with
  |some r,some s=>some (r&& s)
  |_,_=>none
 |_,_,_=>none

theorem j2L{C:Cx}{t:TypeId}{k d:Nat}{a b:SV}{u v:Value}{r:Bool}(hk:plainK P t=some k)(h:eqR k a b=some r)(ha:a.den C u)(hb:b.den C v)(w:World):(Op.equalIn (d+1) t u v).run P w= .ok r w:=by
 unfold plainK at hk;unfold eqR at h;split at h
 · rename_i k1 x k2 y;split at h
   · rename_i e;subst e;cases h;rw [SV.den] at ha hb;subst ha hb;split at hk<;>first| (cases hk;done) |skip
     rw [run_equalIn_int w d t _ _ _ _ (by assumption)];rfl
   cases h
 · cases h;rw [SV.den] at ha hb;subst ha hb;split at hk<;>first| (cases hk;done) |skip
   rw [run_equalIn_string w d t _ _ (by assumption),q8P]
 · cases h;rw [SV.den] at ha hb;subst ha hb;split at hk<;>first| (cases hk;done) |skip
   rw [run_equalIn_bool' w d t _ _ (by assumption)];rfl
 cases h

theorem q6B{t:TypeId}{pre vs:List Value}{v:Value}(h:aggOf P t=some none)(w:World):(part t (pre++v :: vs).toArray pre.length).run P w= .ok v w:=by
 simp [part,q2C h]

theorem q6c{C:Cx}{d:Nat}(w:World):∀ (fs:List Field) (i:Nat) (ks:List Nat) (l l':List SV) (vs us pre pre':List Value) (r:Bool),flatK P fs i=some ks→eqRs ks l l'=some r→SV.denL C l vs→SV.denL C l' us→pre.length=i→pre'.length=i→
 (Op.eqFields (d+1) (pre++vs).toArray (pre'++us).toArray fs).run P w= .ok r w
 | [],i,ks,l,l',vs,us,pre,pre',r,hf,he,hl,hl',h1,h2=>by
  cases hf;cases l with
  |nil=>
   cases l' with
   |nil=>cases he;simp [Op.eqFields]
   |cons _ _=>simp [eqRs] at he
  |cons _ _=>cases l'<;>simp [eqRs] at he
 |f :: fs,i,ks,l,l',vs,us,pre,pre',r,hf,he,hl,hl',h1,h2=>by
  unfold flatK at hf;split at hf
  · rename_i k ks' hk hks;split at hf
    · rename_i hc;cases hf;obtain ⟨hn,ho,ha⟩:=hc;cases l with
      |nil=>cases l'<;>simp [eqRs] at he
      |cons a l=>
       cases l' with
       |nil=>simp [eqRs] at he
       |cons b l'=>
        obtain ⟨v,vs,rfl,dv,dl⟩:=q0c.1 hl;obtain ⟨u,us,rfl,du,dl'⟩:=q0c.1 hl';simp only [eqRs] at he;split at he
        · rename_i r1 r2 he1 he2;cases he;have ih:=q6c (d:=d) w fs (i+1) ks' l l' vs us (pre++ [v]) (pre'++ [u]) r2 hks he2 dl dl' (by simp [h1]) (by simp [h2])
          rw [List.append_assoc,List.append_assoc,List.singleton_append,List.singleton_append] at ih;have p1:(part f.type (pre++v :: vs).toArray f.offset).run P w= .ok v w:=by rw [ho,←h1];exact q6B ha w
          have p2:(part f.type (pre'++u :: us).toArray f.offset).run P w= .ok u w:=by rw [ho,←h2];exact q6B ha w
          have p3:=j2L (d:=d) hk he1 dv du w;simp only [Op.eqFields];rw [if_pos hn];simp only [Sem.run_bind,p1,p2,p3,Result.andThen_ok,Sem.run_ite];cases r1
          · simp
          simpa using ih
        cases he
    cases hf
  cases hf

theorem z6h{op:BinOp}{t t':TypeId}{x y:Operand}{ks:List Nat}{l l':List SV}{r:Bool}(hop:o.op= .binOp op t x y t')(ho:op= .eql∨op= .neq)(hs:structK P t=some ks)(hx:ev x= .agg l)(hy:ev y= .agg l')(h:eqRs ks l l'=some r)
 (hk:K (.ret (.raw (.bool (if op= .eql then r else !r)))) H):OpV P o ev H K:=by
 refine q0i (by rw [hop];intro c hc;cases hc) (fun C e _ hv=> ?_) hk
 have h0:=hv x (by rw [hop];simp [Op.operands])
 have h1:=hv y (by rw [hop];simp [Op.operands])
 rw [hx,SV.den] at h0;rw [hy,SV.den] at h1;obtain ⟨vs,h0,hl⟩:=h0;obtain ⟨us,h1,hl'⟩:=h1;refine ⟨.bool (if op= .eql then r else !r),?_,by rw [SV.den]⟩
 unfold structK at hs;split at hs
 · rename_i fs hu;split at hs
   · rename_i hc;have hfo:P.fieldsOf t=fs:=by simp [Program.fieldsOf,hu]
     have hr:(Op.equalIn 10000 t (.agg vs.toArray) (.agg us.toArray)).run P C.w= .ok r C.w:=by
      rw [show (10000:Nat)=9999+1 from rfl,run_equalIn_struct C.w 9999 t _ _ (by rw [hfo];exact hu) hc.1,hfo]
      exact q6c (d:=9998) C.w fs.toList 0 ks l l' vs us [] [] r hs h hl hl' rfl rfl
     have hg:=run_eqGuard_agg C.w op t x y vs.toArray us.toArray hc.2;rcases ho with rfl|rfl
     · simp [execOp,hop,h0,h1,hg,run_eql_struct,hr,Result.andThen]
     simp [execOp,hop,h0,h1,hg,run_neq_struct,hr,Result.andThen]
   cases hs
 cases hs

def kSlice(P:Program)(t:TypeId):Bool:=match P.underlying t with|some (.slice _)=>true|_=>false
theorem z7f{t:TypeId}(h:kSlice P t=true):∃e,P.underlying t=some (.slice e):=by
 unfold kSlice at h;split at h;exact ⟨_,by assumption⟩;cases h
def SV.emp:SV→Option Prop
 |.isl _ xs=>some (xs= [])
 |.bld _ _ n=>some (n=0)
 |.osl _ _ _ n=>some (n=0)
 |_=>none
theorem j1f{C:Cx}{s:SV}{v:Value}{E:Prop}(h:s.emp=some E)(hd:s.den C v):∃A n c,v= .slice A n c∧(A=none→E):=by
 unfold SV.emp at h;split at h<;>cases h<;>rw [SV.den] at hd
 · obtain ⟨A,n,c,hv,_,_,_,hx⟩:=hd;cases hv;refine ⟨A,n,c,rfl,fun ha=> ?_⟩;rcases hx with rfl| ⟨b,off,rfl,_⟩
   · rfl
   cases ha
 · obtain ⟨_,⟨_,rfl,rfl⟩ | ⟨b,c,m,_,rfl,_⟩⟩:=hd
   · exact ⟨none,0,0,rfl,fun _=>rfl⟩
   exact ⟨_,_,c,rfl,fun h=>by cases h⟩
 obtain ⟨_,A,c,rfl,_,hx⟩:=hd;refine ⟨A,_,c,rfl,fun ha=> ?_⟩;rcases hx with rfl| ⟨b,_,rfl⟩
 · rfl
 cases ha
theorem j2k{t e:TypeId}(hu:P.underlying t=some (.slice e))(A:Option Addr)(n c k:Nat)(w:World):(Op.equalIn (k+1) t (.slice A n c) (.slice none 0 0)).run P w= .ok A.isNone w:=by
 have:(underlying t).run P w= .ok (.slice e) w:=by simp [underlying,hu]
 cases A<;>simp [Op.equalIn,this]
theorem z3s{t:TypeId}(hs:kSlice P t=true)(A:Option Addr)(n c:Nat)(w:World):
 (binOp .eql t (.slice A n c) (.slice none 0 0)).run P w= .ok (.bool A.isNone) w∧(binOp .neq t (.slice A n c) (.slice none 0 0)).run P w= .ok (.bool !A.isNone) w:=by
 obtain ⟨e,hu⟩:=z7f hs;have hr:(Op.equal t (.slice A n c) (.slice none 0 0)).run P w= .ok A.isNone w:=j2k hu A n c 9999 w;cases A<;>simp [binOp,hr]
theorem z3z{op:BinOp}{t t':TypeId}{x y:Operand}{E:Prop}(hop:o.op= .binOp op t x y t')(ho:op= .eql∨op= .neq)(hs:kSlice P t=true)(hx:(ev x).emp=some E)(hy:ev y= .raw (.slice none 0 0))
 (hk:∀b:Bool,(b=true→E)→K (.ret (.raw (.bool (if op= .eql then b else !b)))) H):OpV P o ev H K:=by
 refine q0R (by rw [hop];intro c hc;cases hc) fun C e hw hv=> ?_
 have h0:=hv x (by rw [hop];simp [Op.operands])
 have h1:=hv y (by rw [hop];simp [Op.operands])
 rw [hy,SV.den] at h1;obtain ⟨A,n,c,h0,hE⟩:=j1f hx h0;obtain ⟨g1,g2⟩:=z3s hs A n c C.w;have hgd:(eqGuard op t x y (.slice A n c) (.slice none 0 0)).run P C.w= .ok () C.w:=by unfold eqGuard;split<;>simp
 refine ⟨_,.bool (if op= .eql then A.isNone else !A.isNone),H,C,hk A.isNone (fun h=>hE (by simpa using h)),.inl ?_,hw,Ext.refl _ _,by rw [SV.den]⟩
 rcases ho with rfl|rfl
 · simp [execOp,hop,h0,h1,hgd,g1,Result.andThen]
 simp [execOp,hop,h0,h1,hgd,g2,Result.andThen]
theorem q8e{op:BinOp}{t t':TypeId}{x y:Operand}(hop:o.op= .binOp op t x y t')(ho:op= .eql∨op= .neq)(hs:kSlice P t=true)(hx:ev x= .raw (.slice none 0 0))(hy:ev y= .raw (.slice none 0 0))
 (hk:K (.ret (.raw (.bool (if op= .eql then true else false)))) H):OpV P o ev H K:=by
 refine q0i (by rw [hop];intro c hc;cases hc) (fun C e _ hv=> ?_) hk
 have h0:=hv x (by rw [hop];simp [Op.operands])
 have h1:=hv y (by rw [hop];simp [Op.operands])
 rw [hx,SV.den] at h0;rw [hy,SV.den] at h1;obtain ⟨g1,g2⟩:=z3s hs none 0 0 C.w;have hgd:(eqGuard op t x y (.slice none 0 0) (.slice none 0 0)).run P C.w= .ok () C.w:=by unfold eqGuard;split<;>simp
 refine ⟨.bool (if op= .eql then true else false),?_,by rw [SV.den]⟩
 rcases ho with rfl|rfl
 · simp [execOp,hop,h0,h1,hgd,g1,Result.andThen]
 simp [execOp,hop,h0,h1,hgd,g2,Result.andThen]
theorem j0A{C:Cx}{s:SV}{v:Value}{b:Bool}(h:s.den C v):(SV.tup [s,.raw (.bool b)]).den C (.tuple #[v,.bool b]):=by
 rw [SV.den];exact ⟨[v,.bool b],rfl,q0c.2 ⟨_,_,rfl,h,q0c.2 ⟨_,_,rfl,by rw [SV.den],q0p.2 rfl⟩⟩⟩
theorem q6Q{P:Program}{T:TypeId}(h:notIface P T=true):∃d,P.underlying T=some d∧∀ms,d≠ .interface ms:=by
 unfold notIface at h;split at h
 · cases h
 · rename_i d hne hd;exact ⟨d,hd,fun ms e=>hne ms e⟩
 cases h
theorem z4F{P:Program}{o:Oper}{ev:Operand→SV}{H:List SObj}{K:Out→List SObj→Prop}{x:Operand}{xT T:TypeId}{y:SV}(hop:o.op= .typeAssert x xT T true)(hn:notIface P T=true)(hx:ev x= .iface T y)(hk:K (.ret (.tup [y,.raw (.bool true)])) H):OpV P o ev H K:=by
 refine q0i (by rw [hop];intro c hc;cases hc) (fun C e _ hv=> ?_) hk
 have h1:=hv x (by rw [hop];simp [Op.operands])
 rw [hx,SV.den] at h1;obtain ⟨u,h1,h2⟩:=h1;refine ⟨.tuple #[u,.bool true],?_,j0A h2⟩;obtain ⟨d,hd,hni⟩:=q6Q hn;cases d<;>first|exact absurd rfl (hni _) |simp [execOp,hop,h1,Instr.typeAssert,run_underlying' hd,Result.andThen]
theorem z1d{P:Program}{o:Oper}{ev:Operand→SV}{H:List SObj}{K:Out→List SObj→Prop}{x:Operand}{xT T:TypeId}{z:Value}(hop:o.op= .typeAssert x xT T true)(hn:notIface P T=true)(hz:zeroOf P T=some z)(hx:ev x= .raw .nilIface∨∃T' y,T'≠T∧ev x= .iface T' y)(hk:K (.ret (.tup [.ofV z,.raw (.bool false)])) H):OpV P o ev H K:=by
 refine q0i (by rw [hop];intro c hc;cases hc) (fun C e _ hv=> ?_) hk
 have h1:=hv x (by rw [hop];simp [Op.operands])
 refine ⟨.tuple #[z,.bool false],?_,j0A (z6s z)⟩;have hzr:=q8i hz C.w;obtain ⟨d,hd,hni⟩:=q6Q hn;rcases hx with hx| ⟨T',y,hne,hx⟩ <;>rw [hx,SV.den] at h1
 · cases d<;>first|exact absurd rfl (hni _) |simp [execOp,hop,h1,Instr.typeAssert,run_underlying' hd,hzr,Result.andThen]
 obtain ⟨u,h1,_⟩:=h1;cases d<;>first|exact absurd rfl (hni _) |simp [execOp,hop,h1,Instr.typeAssert,run_underlying' hd,hzr,hne,Result.andThen]
end Go.Sx
namespace Go.Sx
open Go

variable [Ghost] {P:Program} {o:Oper} {ev:Operand→SV} {H:List SObj} {K:Out→List SObj→Prop}

theorem z7i{I:Nat→Prop}{w:World}{t:Ty}:∀ {zs:List Value},zs.all (fun v=>t.isZero [v])=true→relL I w t (List.replicate zs.length t.dflt) zs
 | [],_=>rfl
 |z :: zs,h=>by
  rw [Bt,Aj] at h;exact ⟨[z],zs,rfl,Ty.isZero_rel h.1,z7i h.2⟩
theorem j1x{T:TypeId}{t:Ty}{zs:List Value}(hop:o.op= .alloc T)(hz:(P.info? T).bind (fun i=>i.zero.map (·.cells.toList))=some zs)(ht:t.size=1)(hd:zs.all (fun v=>t.isZero [v])=true)
 (hk:K (.ret (.rptr H.length t 0 0)) (H++ [.row t (List.replicate zs.length t.dflt)])):OpV P o ev H K:=by
 refine q0R (by rw [hop];intro c hc;cases hc) fun C e hw _=> ?_
 obtain ⟨g1,g2,_⟩:=q4q (T:=T) (rest:=[]) hw (n:=zs.length) (c:=zs.length) (z7i hd) (by simp) (Ae _) (by rw [ht];simp)
 rw [Ai] at g1 g2;refine ⟨_,.pointer (some ⟨C.w.heap.size,0,none⟩),_,_,hk,.inl ?_,g1,g2,?_⟩
 · cases hi:P.info? T with
   |none=>simp [hi] at hz
   |some i=>
    cases hz0:i.zero with
    |none=>simp [hi,hz0] at hz
    |some z=>
     simp [hi,hz0] at hz;simp [execOp,hop,Instr.alloc,zeroValue,typeInfo,hi,hz0,Result.andThen,newVar,newRow,Cx.grow,←hz]
 rw [SV.den];exact ⟨by simp [Cx.grow,hw.n],C.w.heap.size,by simp [Cx.grow,hw.n],by simp⟩

def addA(sz n:Nat):SV→Option SV
 |.ptr h off=>some (.ptr h (off+n*sz))
 |.iptr t x k=>some (.iptr t x (k+n*sz))
 |.rptr h t i k=>if k=0∧sz=t.size then some (.rptr h t (i+n) 0) else some (.rptr h t i (k+n*sz))
 |.raw v=>(SV.raw v).add (n*sz)
 |_=>none
def slA(sz lo n:Nat):SV→Option SV
 |.rptr h t i k=>if k=0∧sz=t.size then some (.osl h t (i+lo) n) else none
 |_=>none
theorem q6C{src dst:TypeId}{x:Operand}{e':TypeId}{h off n:Nat}{xs:List UInt8}(hop:o.op= .convert src dst x)(hs:P.underlying src=some (.slice e'))(ht:P.underlying dst=some .string)(he:P.underlying e'=some (.int .u8))(hx:ev x= .osl h .u8 off n)
 (hH:H[h]?=some (.row .u8 xs))(hn:off+n≤xs.length)(hlen:xs.length≤1125899906842624)(hk:K (.ret (.raw (.string (strOf ((xs.drop off).take n))))) H):OpV P o ev H K:=by
 refine q0i (by rw [hop];intro c hc;cases hc) (fun C e hw hv=> ?_) hk
 have h0:=hv x (by rw [hop];simp [Op.operands])
 rw [hx] at h0;have h1:=q5A hw hH hlen hn h0;have hb:=q1X (P:=P) h1;rw [SV.den] at h1;obtain ⟨A,n',c,e0,_⟩:=h1;simp only [List.cons.injEq,and_true] at e0;rw [e0] at hb;have hb':(Conv.bytesToString (.slice A n' c)).run P C.w= .ok (.string (strOf ((xs.drop off).take n))) C.w:=hb;exact ⟨.string (strOf ((xs.drop off).take n)),by simp [execOp,hop,e0,convert,run_underlying' hs,run_underlying' ht,run_underlying' he,hb',Result.andThen],by rw [SV.den]⟩
end Go.Sx
