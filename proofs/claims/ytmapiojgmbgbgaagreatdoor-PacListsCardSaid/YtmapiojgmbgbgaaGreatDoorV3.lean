/- A part of the proof: a symbolic executor over abstract values, and its soundness. -/
import Derived.Test.YtmapiojgmbgbgaaGreatDoorV2
import Derived.Laws.BytesString
set_option linter.all false
namespace Go.Sx
open Go

variable {H:List SObj}
variable {I:Nat→Prop} {w:World} {b off:Nat}
theorem Lies.fst{a c:Ty}{x:(Ty.prod a c).den}(h:Lies I w b off (.prod a c) x):Lies I w b off a x.1:=by
 obtain ⟨us,⟨v1,v2,rfl,h1,_⟩,hc⟩:=h;exact ⟨v1,h1,fun j u hu=>hc j u (by rw [Ag (Aa.1 hu).1];exact hu)⟩
theorem Lies.snd{a c:Ty}{x:(Ty.prod a c).den}(h:Lies I w b off (.prod a c) x):Lies I w b (off+a.size) c x.2:=by
 obtain ⟨us,⟨v1,v2,rfl,h1,h2⟩,hc⟩:=h;have hl:=a.rel_size _ _ h1;refine ⟨v2,h2,fun j u hu=> ?_⟩;rw [Nat.add_assoc];refine hc (a.size+j) u ?_;rw [Ao (by omega),←hu]
 congr 1;omega

theorem q7a{α:Type}:∀ {vss:List (List α)},(∀us∈vss,us.length=1)→∀i:Nat,vss.flatten[i]?=(vss[i]?).bind fun (l:List α)=>l[0]?
 | [],_,i=>by simp
 |us :: vss,h,i=>by
  obtain ⟨u,rfl⟩:=Bv.1 (h us (Cm ..));cases i with
  |zero=>simp
  |succ i=>
   have:=q7a (vss:=vss) (fun x hx=>h x (AW _ hx)) i;simpa using this
theorem q0W{n:Nat}{e:Ty}{ys:List e.den}{us:List Value}(he:e.size=1):(Ty.arr n e).rel I w ys us ↔ ys.length=n∧us.length=n∧∀ (i:Nat) y u,ys[i]?=some y→us[i]?=some u→e.rel I w y [u]:=by
 constructor
 · rintro ⟨hn,vss,rfl,hl,h⟩;have h1:∀us∈vss,us.length=1:=fun us hu=>by
    obtain ⟨i,hi,rfl⟩:=AV hu;rw [←he];exact e.rel_size _ _ (h i (ys[i]'(by omega)) _ (Ab _) (Ab hi))
   refine ⟨hn,by rw [flat_len h1,hl,hn,AM],fun i y u hy hu=> ?_⟩
   rw [q7a h1] at hu;cases hv:vss[i]? with
   |none=>simp [hv] at hu
   |some us=>
    have h2:=h1 us (BC hv);obtain ⟨u',rfl⟩:=Bv.1 h2;simp [hv] at hu;subst hu;exact h i y _ hy hv
 rintro ⟨hn,hl,h⟩;refine ⟨hn,us.map fun u=>[u],?_,by simp;omega,fun i y u hy hu=> ?_⟩
 · clear h hl;induction us with
   |nil=>rfl
   |cons u us ih=>rw [AT,AD,←ih];rfl
 rw [AN] at hu;cases hv:us[i]? with
 |none=>simp [hv] at hu
 |some v=>simp [hv] at hu;subst hu;exact h i y v hy hv
theorem q3q{n:Nat}{e:Ty}{ys:List e.den}(he:e.size=1):Lies I w b off (.arr n e) ys ↔ ys.length=n∧∀ (i:Nat) y,ys[i]?=some y→Lies I w b (off+i) e y:=by
 constructor
 · rintro ⟨us,hr,hc⟩;obtain ⟨hn,hl,h⟩:=(q0W he).1 hr;refine ⟨hn,fun i y hy=> ?_⟩;have hi:i<us.length:=by have:=(Aa.1 hy).1;omega
   have hu:us[i]?=some us[i]:=Ab hi;refine ⟨[us[i]],h i y _ hy hu,fun j u hj=> ?_⟩;cases j with
   |zero=>simp at hj;subst hj;exact hc i _ hu
   |succ j=>simp at hj
 rintro ⟨hn,h⟩;have key:∀ (ys:List e.den) (off:Nat),(∀ (i:Nat) y,ys[i]?=some y→Lies I w b (off+i) e y)→∃us:List Value,us.length=ys.length∧(∀ (i:Nat) y u,ys[i]?=some y→us[i]?=some u→e.rel I w y [u])∧∀j u,us[j]?=some u→w.cell? ⟨b,off+j,none⟩=some u:=by
  intro ys;induction ys with
  |nil=>intro off _;exact ⟨[],rfl,fun i y u h=>by simp at h,fun j u h=>by simp at h⟩
  |cons y ys ih=>
   intro off h;obtain ⟨us,h1,h2,h3⟩:=ih (off+1) fun i y hy=>by rw [Nat.add_assoc,Bm 1 i];exact h (i+1) y (by simpa using hy)
   obtain ⟨vs,g1,g2⟩:=h 0 y rfl;have:=e.rel_size _ _ g1;rw [he] at this;obtain ⟨v,rfl⟩:=Bv.1 this;refine ⟨v :: us,by simp [h1],fun i y' u hy hu=> ?_,fun j u hj=> ?_⟩
   · cases i with
     |zero=>simp at hy hu;subst hy hu;exact g1
     |succ i=>exact h2 i y' u (by simpa using hy) (by simpa using hu)
   cases j with
   |zero=>simp at hj;subst hj;exact g2 0 _ rfl
   |succ j=>rw [Bm j 1,←Nat.add_assoc];exact h3 j u (by simpa using hj)
 obtain ⟨us,h1,h2,h3⟩:=key ys off h;exact ⟨us,(q0W he).2 ⟨hn,by omega,h2⟩,h3⟩
theorem Lies.elem{n i:Nat}{e:Ty}{ys:List e.den}(he:e.size=1)(h:Lies I w b off (.arr n e) ys)(hi:i<n):Lies I w b (off+i) e (ys.getD i e.dflt):=by
 obtain ⟨hn,h⟩:=(q3q he).1 h;exact h i _ (by rw [Ad,Ab (by omega)];rfl)
theorem Lies.part{n i m:Nat}{e:Ty}{ys:List e.den}(he:e.size=1)(h:Lies I w b off (.arr n e) ys)(hi:i+m≤n):Lies I w b (off+i) (.arr m e) ((ys.drop i).take m):=by
 obtain ⟨hn,h⟩:=(q3q he).1 h;refine (q3q he).2 ⟨by simp;omega,fun j y hy=> ?_⟩
 rw [AH] at hy;split at hy
 · rw [AF] at hy;rw [Nat.add_assoc];exact h _ _ hy
 cases hy

theorem q1Q{C:Cx}{h i:Nat}{t:Ty}{xs:List t.den}{x:t.den}(hw:Wd C H)(hH:H[h]?=some (.row t xs))(hx:xs[i]?=some x):∃b,C.ρ h=some b∧Lies C.I C.w b (i*t.size) t x:=by
 rcases hw.obj h _ hH with ⟨h1,h2⟩ | ⟨b',arr,T,fz,hb',hcell,hfz,hsz,hrow⟩
 · subst h2;simp at hx
 obtain ⟨us,h1,h2⟩:=hrow i x hx;exact ⟨b',hb',us,h1,fun j u hj=>by have:=h2 j u hj;rwa [Ac] at this⟩
theorem q8L{C:Cx}{h i m:Nat}{t:Ty}{xs:List t.den}(hw:Wd C H)(hH:H[h]?=some (.row t xs))(ht:t.size=1)(hi:i+m≤xs.length)(hm:0<m):∃b,C.ρ h=some b∧Lies C.I C.w b i (.arr m t) ((xs.drop i).take m):=by
 have h0:xs[i]?=some xs[i]:=Ab (by omega)
 obtain ⟨b,hb,_⟩:=q1Q hw hH h0;refine ⟨b,hb,(q3q ht).2 ⟨by simp;omega,fun j y hy=> ?_⟩⟩
 rw [AH] at hy;split at hy
 · rw [AF] at hy;obtain ⟨b',hb',hl⟩:=q1Q hw hH hy;rw [hb] at hb';cases hb';rwa [ht,AM] at hl
 cases hy
end Go.Sx
namespace Go.Sx
open Go

variable [Ghost] {P:Program} {o:Oper} {ev:Operand→SV} {H:List SObj} {K:Out→List SObj→Prop}

def splice{α:Type}(vs:List α)(o:Nat)(us:List α):List α:=vs.take o++us++vs.drop (o+us.length)
theorem q0s{α:Type}{vs us:List α}{o:Nat}(h:o+us.length≤vs.length):(splice vs o us).length=vs.length:=by simp [splice];omega
theorem q4m{C:Cx}{cs ds:List SV}{vs us:List Value}{o:Nat}(h:SV.denL C cs vs)(k:SV.denL C ds us):SV.denL C (splice cs o ds) (splice vs o us):=by
 unfold splice;rw [q0B k];exact q0x.2 ⟨_,_,rfl,q0x.2 ⟨_,_,rfl,q4V o h,k⟩,q5e _ h⟩
theorem q6S{α:Type}{vs:List α}{o:Nat}{u:α}{us:List α}(h:o<vs.length):splice vs o (u :: us)=splice (vs.set o u) (o+1) us:=by
 unfold splice;apply Bc;intro i;rcases CM i o with hi|hi|hi
 · rw [Ag (by simp;omega),Ag (by simp;omega),Ag (by simp;omega),Ag (by simp;omega)]
   rw [AH,AH,if_pos hi,if_pos (by omega),Aq (by omega)]
 · subst hi;rw [Ag (by simp;omega),Ao (by simp;omega)]
   rw [Ag (by simp;omega),Ag (by simp;omega),AH,if_pos (by omega),Ar h]
   simp [Bf (Nat.le_of_lt h)]
 rcases AC i (o+ (us.length+1)) with h2|h2
 · rw [Ag (by simp;omega),Ao (by simp;omega)]
   rw [Ag (by simp;omega),Ao (by simp;omega)]
   simp only [Aw,A4,Bf (Nat.le_of_lt h)];rw [show min (o+1) vs.length=o+1 from Bf h,show i-o=(i- (o+1))+1 from by omega,List.getElem?_cons_succ]
 rw [Ao (by simp;omega),Ao (by simp;omega)]
 simp only [Af,Aw,A4,AB,AF,Bf (Nat.le_of_lt h)];rw [show min (o+1) vs.length=o+1 from Bf h,Aq (by omega)]
 congr 1;omega

theorem z0r{w:World}{b o:Nat}{vs:List Value}{T:TypeId}{fz:Nat×Nat}(h:w.heap[b]?=some (.cells vs.toArray T fz))(u:Value):(w.setCell ⟨b,o,none⟩ u).heap[b]?=some (.cells (vs.set o u).toArray T fz):=by
 have:((w.heap.modify b fun|.cells c elem frozen=>.cells (if (none:Option Nat).isSome then c else c.setIfInBounds o u) elem frozen|o=>o))[b]?=some (.cells (vs.set o u).toArray T fz):=by
  rw [Array.getElem?_modify,if_pos rfl,h];simp
 exact this
theorem q9d{w:World}{b o b':Nat}(u:Value)(h:b'≠b):(w.setCell ⟨b,o,none⟩ u).heap[b']?=w.heap[b']?:=by
 unfold World.setCell;simp only [Array.getElem?_modify];rw [if_neg (fun e=>h e.symm)]

theorem q1u{b:Nat}{T:TypeId}{fz:Nat×Nat}:∀ (us:List Value) (o:Nat) (w:World) (vs:List Value),w.heap[b]?=some (.cells vs.toArray T fz)→o+us.length≤vs.length→
 (w.setCells b o us).heap[b]?=some (.cells (splice vs o us).toArray T fz)
 | [],o,w,vs,h,_=>by simp only [World.setCells];rw [h];simp [splice]
 |u :: us,o,w,vs,h,hl=>by
  simp only [AB] at hl;simp only [World.setCells];rw [q1u us (o+1) _ (vs.set o u) (z0r h u) (by rw [A4];omega),q6S (by omega)]
theorem q0z{b b':Nat}(h:b'≠b):∀ (us:List Value) (o:Nat) (w:World),(w.setCells b o us).heap[b']?=w.heap[b']?
 | [],_,_=>rfl
 |u :: us,o,w=>by simp only [World.setCells];rw [q0z h us (o+1),q9d u h]
theorem q1c{b:Nat}:∀ (us:List Value) (o:Nat) (w:World),(w.setCells b o us).heap.size=w.heap.size
 | [],_,_=>rfl
 |u :: us,o,w=>by simp only [World.setCells];rw [q1c us (o+1)];simp
theorem q1D{b:Nat}:∀ (us:List Value) (o:Nat) (w:World),(w.setCells b o us).os=w.os
 | [],_,_=>rfl
 |u :: us,o,w=>by simp only [World.setCells];rw [q1D us (o+1)];rfl
theorem q1f{b:Nat}:∀ (us:List Value) (o:Nat) (w:World),(w.setCells b o us).tape=w.tape
 | [],_,_=>rfl
 |u :: us,o,w=>by simp only [World.setCells];rw [q1f us (o+1)];rfl
theorem q0T{b:Nat}:∀ (us:List Value) (o:Nat) (w:World),(w.setCells b o us).output=w.output
 | [],_,_=>rfl
 |u :: us,o,w=>by simp only [World.setCells];rw [q0T us (o+1)];rfl

def SV.one:SV→Bool
 |.any|.agg _|.tup _|.dat _ _=>false
 |.raw v=>v.oneCell'
 |_=>true
theorem z7I{C:Cx}:∀ {s:SV} {v:Value},s.one=true→s.den C v→v.oneCell'=true
 |.any,_,h,_=>by simp [SV.one] at h
 |.agg _,_,h,_=>by simp [SV.one] at h
 |.tup _,_,h,_=>by simp [SV.one] at h
 |.dat _ _,_,h,_=>by simp [SV.one] at h
 |.raw u,v,h,d=>by rw [SV.den] at d;subst d;simpa [SV.one] using h
 |.isl t xs,v,_,d=>by rw [SV.den] at d;obtain ⟨A,n,c,e,_⟩:=d;cases e;rfl
 |.fsl t xs,v,_,d=>by rw [SV.den] at d;obtain ⟨_,A,rfl⟩:=d;rfl
 |.iptr ..,v,_,d=>by rw [SV.den] at d;obtain ⟨_,_,_,rfl,_⟩:=d;rfl
 |.ptr ..,v,_,d=>by rw [SV.den] at d;obtain ⟨_,_,_,rfl⟩:=d;rfl
 |.rptr ..,v,_,d=>by rw [SV.den] at d;obtain ⟨_,_,_,rfl⟩:=d;rfl
 |.bld ..,v,_,d=>by rw [SV.den] at d;obtain ⟨_,⟨_,_,rfl⟩ | ⟨_,_,_,_,rfl,_⟩⟩:=d<;>rfl
 |.osl ..,v,_,d=>by rw [SV.den] at d;obtain ⟨_,_,_,rfl,_⟩:=d;rfl
 |.csl ..,v,_,d=>by rw [SV.den] at d;obtain ⟨_,_,_,rfl,_⟩:=d;rfl
 |.fn ..,v,_,d=>by rw [SV.den] at d;obtain ⟨_,_,rfl,_⟩:=d;rfl
 |.iface ..,v,_,d=>by rw [SV.den] at d;obtain ⟨_,rfl,_⟩:=d;rfl
 |.mp _,v,_,d=>by rw [SV.den] at d;obtain ⟨_,_,_,rfl⟩:=d;rfl
 |.imap ..,v,_,d=>by rw [SV.den] at d;obtain ⟨_,rfl,_⟩:=d;rfl

def ones:List SV→Bool
 | []=>true
 |s :: l=>s.one&& ones l
theorem q4N{C:Cx}:∀ {l:List SV} {vs:List Value},ones l=true→SV.denL C l vs→∀v∈vs,v.oneCell'=true
 | [],_,_,h,v,hv=>by rw [q0p] at h;subst h;cases hv
 |s :: l,_,ho,h,v,hv=>by
  obtain ⟨u,us,rfl,h1,h2⟩:=q0c.1 h;simp [ones] at ho;rcases Bz.1 hv with rfl|hv
  · exact z7I ho.1 h1
  exact q4N ho.2 h2 v hv

def SV.flat:SV→Option (List SV)
 |.any|.tup _=>none
 |.agg l=>some l
 |.raw v=>some (rawL v.cells.toList)
 |.dat t x=>some (t.cells x)
 |s=>some [s]
theorem q3l{C:Cx}{s:SV}{v:Value}{cs:List SV}(hf:s.flat=some cs)(h:s.den C v):SV.denL C cs v.cells.toList:=by
 have one:∀ (s:SV),s.one=true→s.flat=some [s]→s.den C v→SV.denL C [s] v.cells.toList:=fun s h1 h2 hd=>by
  have:=z7I h1 hd;have hc:v.cells= #[v]:=by cases v<;>first|rfl|simp [Value.oneCell'] at this
  rw [hc];exact q0c.2 ⟨v,[],rfl,hd,q0p.2 rfl⟩
 cases s with
 |any=>simp [SV.flat] at hf
 |tup l=>simp [SV.flat] at hf
 |agg l=>
  cases hf;rw [SV.den] at h;obtain ⟨vs,rfl,hl⟩:=h;simpa [Value.cells] using hl
 |raw u=>
  cases hf;rw [SV.den] at h;subst h;exact q1e _
 |dat t x=>
  cases hf;rw [SV.den] at h;obtain ⟨vs,rfl,hr⟩:=h;simpa [Value.cells] using t.cells_den _ _ hr
 |_=>cases hf;exact one _ rfl rfl h

theorem z2V{x:Operand}(hop:o.op= .move x∨o.op= .assign x)(hk:K (.ret (ev x)) H):OpV P o ev H K:=by
 refine q0i (by rcases hop with h|h<;> (rw [h];intro c hc;cases hc)) (s:=ev x) (fun C e _ hv=> ?_) hk
 have hx:=hv x (by rcases hop with h|h<;> (rw [h];simp [Op.operands]))
 exact ⟨e x,by rcases hop with h|h<;>simp [execOp,h],hx⟩

theorem z8z{c x y:Operand}{b:Bool}(hop:o.op= .pick c x y)(hc:ev c= .raw (.bool b))(hk:K (.ret (if b then ev x else ev y)) H):OpV P o ev H K:=by
 refine q0i (by rw [hop];intro c hc;cases hc) (fun C e _ hv=> ?_) hk
 have h0:=hv c (by rw [hop];simp [Op.operands])
 have h1:=hv x (by rw [hop];simp [Op.operands])
 have h2:=hv y (by rw [hop];simp [Op.operands])
 rw [hc,SV.den] at h0;refine ⟨if b then e x else e y,by simp [execOp,hop,h0,asBool],?_⟩
 cases b<;>simpa

def SV.nonNil:SV→Bool
 |.ptr .. |.iptr .. |.rptr .. |.fn .. =>true
 |.raw (.pointer (some _))=>true
 |_=>false
theorem z0J{x:Operand}(hop:o.op= .nilCheck x)(hn:(ev x).nonNil=true)(hk:K (.ret (ev x)) H):OpV P o ev H K:=by
 refine q0i (by rw [hop];intro c hc;cases hc) (s:=ev x) (fun C e _ hv=> ?_) hk
 have hx:=hv x (by rw [hop];simp [Op.operands])
 refine ⟨e x,?_,hx⟩;generalize hs:ev x=s at hx hn;unfold SV.nonNil at hn;split at hn<;>first| (cases hn;done) |rw [SV.den] at hx
 · obtain ⟨_,_,_,hv⟩:=hx;simp [execOp,hop,hv]
 · obtain ⟨_,_,_,hv,_⟩:=hx;simp [execOp,hop,hv]
 · obtain ⟨_,_,_,hv⟩:=hx;simp [execOp,hop,hv]
 · obtain ⟨_,_,hv,_⟩:=hx;simp [execOp,hop,hv]
 simp [execOp,hop,hx]

theorem z2e{x:Operand}{i:Nat}{l:List SV}{s:SV}(hop:o.op= .extract x i)(hx:ev x= .tup l)(hs:l[i]?=some s)(hk:K (.ret s) H):OpV P o ev H K:=by
 refine q0i (by rw [hop];intro c hc;cases hc) (s:=s) (fun C e _ hv=> ?_) hk
 have h0:=hv x (by rw [hop];simp [Op.operands])
 rw [hx,SV.den] at h0;obtain ⟨vs,h0,hl⟩:=h0;obtain ⟨v,h1,h2⟩:=q1B hl hs;exact ⟨v,by simp [execOp,hop,h0,Instr.extract,h1],h2⟩

theorem q2f{C:Cx}{ev:Operand→SV}{e:Operand→Value}:∀ (xs:List Operand),(∀x∈xs,(ev x).den C (e x))→SV.denL C (xs.map ev) (xs.map e)
 | [],_=>by simp [SV.denL]
 |x :: xs,h=>by
  simp only [AT];exact q0c.2 ⟨_,_,rfl,h x (by simp),q2f xs fun y hy=>h y (by simp [hy])⟩

theorem q9Y{T:TypeId}{nm:String}{fi ca:Array Operand}(hop:o.op= .makeFunc (.methodOf T nm) fi ca)(h1:fi.size=0)(h2:ca.size=0)(hk:K (.ret (.raw (.func (.methodOf T nm) #[] #[]))) H):OpV P o ev H K:=by
 obtain rfl:=A3 h1;obtain rfl:=A3 h2;refine q0i (by rw [hop];intro c hc;cases hc) (fun C e _ hv=> ?_) hk
 exact ⟨.func (.methodOf T nm) #[] #[],by simp [execOp,hop,Instr.makeFunc],by rw [SV.den]⟩
theorem z0v{f:Nat}{fi ca:Array Operand}(hop:o.op= .makeFunc (.func f) fi ca)(hk:K (.ret (.fn f (fi.toList.map ev) (ca.toList.map ev))) H):OpV P o ev H K:=by
 refine q0i (by rw [hop];intro c hc;cases hc) (fun C e _ hv=> ?_) hk
 rw [hop] at hv;simp only [Op.operands,Array.mem_append] at hv;refine ⟨.func (.func f) (fi.map e) (ca.map e),by simp [execOp,hop,Instr.makeFunc],?_⟩
 rw [SV.den];refine ⟨fi.toList.map e,ca.toList.map e,by simp [←Array.toList_map],q2f _ fun x hx=>hv x (.inl (by simpa using hx)),q2f _ fun x hx=>hv x (.inr (by simpa using hx))⟩

def notIface(P:Program)(t:TypeId):Bool:=match P.underlying t with
 |some (.interface _)=>false
 |some _=>true
 |none=>false
theorem q5L{T:TypeId}{x:Operand}(hop:o.op= .makeInterface T x)(ht:notIface P T=true)(hk:K (.ret (.iface T (ev x))) H):OpV P o ev H K:=by
 refine q0i (by rw [hop];intro c hc;cases hc) (fun C e _ hv=> ?_) hk
 have h0:=hv x (by rw [hop];simp [Op.operands])
 refine ⟨.iface T (e x),?_,by rw [SV.den];exact ⟨_,rfl,h0⟩⟩
 unfold notIface at ht;cases hu:P.underlying T with
 |none=>simp [hu] at ht
 |some d=>cases d<;>simp [hu] at ht<;>simp [execOp,hop,Instr.makeInterface,underlying,Result.andThen,hu]

theorem q5E{C:Cx}(hi:∀b,C.I b→b<C.w.heap.size)(T:TypeId){cs:List SV}{vs:List Value}(h:SV.denL C cs vs):objDen (C.grow (.cells vs.toArray T)) C.n (.cells T cs):=
 ⟨C.w.heap.size,vs,by simp [Cx.grow],q1y _ _,q0f (q6p hi _) h⟩

theorem z6d{T:TypeId}{zs:List Value}(hop:o.op= .alloc T)(hz:(P.info? T).bind (fun i=>i.zero.map (·.cells.toList))=some zs)(hk:K (.ret (.ptr H.length 0)) (H++ [.cells T (rawL zs)])):OpV P o ev H K:=by
 refine q0R (by rw [hop];intro c hc;cases hc) fun C e hw _=> ?_
 obtain ⟨g1,g2⟩:=q5u hw (.cells zs.toArray T) (.cells T (rawL zs)) (q5E hw.imm T (q1e zs));refine ⟨_,.pointer (some ⟨C.w.heap.size,0,none⟩),_,_,hk,.inl ?_,g1,g2,?_⟩
 · cases hi:P.info? T with
   |none=>simp [hi] at hz
   |some i=>
    cases hz0:i.zero with
    |none=>simp [hi,hz0] at hz
    |some z=>
     simp [hi,hz0] at hz;simp [execOp,hop,Instr.alloc,zeroValue,typeInfo,hi,hz0,Result.andThen,newVar,newRow,Cx.grow,←hz]
 rw [SV.den];exact ⟨by simp [Cx.grow,hw.n],C.w.heap.size,by simp [Cx.grow,hw.n],rfl⟩

theorem j2f{T:TypeId}{x:Operand}{cs:List SV}(hop:o.op= .box T x)(hf:(ev x).flat=some cs)(hk:K (.ret (.ptr H.length 0)) (H++ [.cells T cs])):OpV P o ev H K:=by
 refine q0R (by rw [hop];intro c hc;cases hc) fun C e hw hv=> ?_
 have hd:=q3l hf (hv x (by rw [hop];simp [Op.operands]))
 obtain ⟨g1,g2⟩:=q5u hw (.cells (e x).cells T) (.cells T cs) (by have:=q5E hw.imm T hd;simpa using this)
 refine ⟨_,.pointer (some ⟨C.w.heap.size,0,none⟩),_,_,hk,.inl ?_,g1,g2,?_⟩
 · simp [execOp,hop,Instr.box,Result.andThen,newVar,newRow,Cx.grow]
 rw [SV.den];exact ⟨by simp [Cx.grow,hw.n],C.w.heap.size,by simp [Cx.grow,hw.n],rfl⟩

theorem q8T{T ty:TypeId}{x y:Operand}{h off n:Nat}{cs ds:List SV}(hop:o.op= .store ty x y)(hs:(P.info? ty).map (·.size)=some n)(he:ev x= .ptr h off)(hH:H[h]?=some (.cells T cs))
 (hf:(ev y).flat=some ds)(hn:ds.length=n)(hb:off+n≤cs.length)(h1:ones ds=true)(hk:K (.ret .any) (H.set h (.cells T (splice cs off ds)))):OpV P o ev H K:=by
 refine q0R (by rw [hop];intro c hc;cases hc) fun C e hw hv=> ?_
 have hx:=hv x (by rw [hop];simp [Op.operands])
 have hy:=q3l hf (hv y (by rw [hop];simp [Op.operands]))
 rw [he,SV.den] at hx;obtain ⟨_,b,hbb,hx⟩:=hx;obtain ⟨b',vs,hb',hcell,hd⟩:=hw.obj h _ hH;rw [hbb] at hb';cases hb';have hlen:(e y).cells.toList.length=n:=by rw [q0B hy,hn]
 have hvl:vs.length=cs.length:=q0B hd;have hrun:(storeCells ⟨b,off,none⟩ (e y).cells.toList 0).run P C.w= .ok () (C.w.setCells b (off+0) (e y).cells.toList):=run_storeCells_cells b off _ 0 C.w
  (fun j hj=>by rw [q0g hcell];rw [Ab (by omega)];rfl)
  (fun j _=>by simp [World.frozen?,hcell]) (q4N h1 hy)
 rw [AK] at hrun;have hnew:=q1u (e y).cells.toList off C.w vs hcell (by omega)
 obtain ⟨g1,g2,g3⟩:=z0P (so':=.cells T (splice cs off ds)) hw hH rfl rfl hbb (C.w.setCells b off (e y).cells.toList) (fun b' hb'=>q0z hb' _ _ _) (q1c _ _ _)
  (fun m hm=>by
   unfold World.bsize at hm⊢;rw [hnew];rw [hcell] at hm;simp at hm⊢
   rw [q0s (by omega)];exact hm)
  (q1D _ _ _) (q1f _ _ _) (q0T _ _ _)
  ⟨b,_,hbb,hnew,by
   have he:Evo C {C with w:=C.w.setCells b off (e y).cells.toList}:=⟨Ae _,fun _ _=>rfl,fun b' hi=>⟨hi,q0z (fun (eq:b'=b)=>(hw.own b ⟨h,_,hH,rfl,hbb⟩).1 (eq▸hi)) _ _ _⟩,fun b' m hm=>by
    by_cases hbb':b'=b
    · subst hbb';unfold World.bsize at hm⊢;rw [hnew];rw [hcell] at hm;simp at hm⊢;rw [q0s (by omega)];exact hm
    unfold World.bsize at hm⊢;rw [q0z hbb'];exact hm⟩
   exact q0f he (q4m hd hy)⟩
 refine ⟨_,undef,_,_,hk,.inr ⟨?_,rfl⟩,g1,g2,by rw [SV.den];trivial⟩
 have hsz:(e y).cells.size=n:=by rw [←Av];exact hlen
 simp [execOp,hop,hx,Instr.storeAt,Instr.sureAddr,Result.andThen,storeVar,q0j hs,hsz,hrun]
def ZSt(E:EnD)(C:Cx)(H:List SObj)(b off:Nat)(us:List Value):Prop:=∃ (vs:List Value) (T:TypeId) (fz:Nat×Nat),C.w.heap[b]?=some (.cells vs.toArray T fz)∧off+us.length≤vs.length∧(∀j,j<us.length→¬(fz.1≤off+j∧off+j<fz.2))∧
 Wd {C with w:=C.w.setCells b off us} H∧Stp E C H {C with w:=C.w.setCells b off us} H
theorem j2C{ty:TypeId}{x y:Operand}{b off n:Nat}{ds:List SV}(hop:o.op= .store ty x y)(hs:(P.info? ty).map (·.size)=some n)(he:ev x= .raw (.pointer (some ⟨b,off,none⟩)))
 (hf:(ev y).flat=some ds)(hn:ds.length=n)(h1:ones ds=true)(h:∀E C us,Wd C H→Ghost.inv E C H→SV.denL C ds us→ZSt E C H b off us)(hk:K (.ret .any) H):OpV P o ev H K:=by
 refine z2Q (by rw [hop];intro c hc;cases hc) fun E C e hw hg hv=> ?_
 have hx:=hv x (by rw [hop];simp [Op.operands])
 have hy:=q3l hf (hv y (by rw [hop];simp [Op.operands]))
 rw [he,SV.den] at hx;have hlen:(e y).cells.toList.length=n:=by rw [q0B hy,hn]
 obtain ⟨vs,T,fz,hcell,hfit,hfz,g1,g2⟩:=h E C _ hw hg hy;have hrun:(storeCells ⟨b,off,none⟩ (e y).cells.toList 0).run P C.w= .ok () (C.w.setCells b (off+0) (e y).cells.toList):=run_storeCells_cells b off _ 0 C.w
  (fun j hj=>by rw [q0g hcell];rw [Ab (by omega)];rfl)
  (fun j hj=>by
   have:=hfz j hj;simp only [World.frozen?,hcell];rw [By];simp only [decide_eq_false_iff_not]
   omega) (q4N h1 hy)
 rw [AK] at hrun;refine ⟨.any,undef,H,_,hk,.inr ⟨?_,rfl⟩,g1,g2,by rw [SV.den];trivial⟩
 have hsz:(e y).cells.size=n:=by rw [←Av];exact hlen
 simp [execOp,hop,hx,Instr.storeAt,Instr.sureAddr,Result.andThen,storeVar,q0j hs,hsz,hrun]
end Go.Sx
namespace Go.Sx
open Go

variable [Ghost] {P:Program} {o:Oper} {ev:Operand→SV} {H:List SObj} {K:Out→List SObj→Prop}

theorem q8P(x y:ByteArray):(x.toList==y.toList)=decide (x=y):=by
 rw [BF];simp only [beq_iff_eq,decide_eq_true_eq,ByteArray.toList_eq];constructor
 · intro h;cases x;cases y;simp at h;simp [h]
 rintro rfl;rfl

def xorK(k:IntKind)(a b:Int):Int:=k.wrap ((BitVec.ofInt k.bits a^^^ BitVec.ofInt k.bits b).toNat:Int)
def orK(k:IntKind)(a b:Int):Int:=k.wrap ((BitVec.ofInt k.bits a|||BitVec.ofInt k.bits b).toNat:Int)
def andK(k:IntKind)(a b:Int):Int:=k.wrap ((BitVec.ofInt k.bits a&&& BitVec.ofInt k.bits b).toNat:Int)
def binV(op:BinOp):Value→Value→Option (Value×Prop)
 |.int k a,.int k' b=>match op with
  |.shl=>some (.int k (k.wrap (a*2^ min b.toNat k.bits)),0≤b)
  |.shr=>some (.int k (a.fdiv (2^ min b.toNat k.bits)),0≤b)
  |.add=>if k=k' then some (.int k (k.wrap (a+b)),True) else none
  |.sub=>if k=k' then some (.int k (k.wrap (a-b)),True) else none
  |.mul=>if k=k' then some (.int k (k.wrap (a*b)),True) else none
  |.quo=>if k=k' then some (.int k (k.wrap (a.tdiv b)),b≠0) else none
  |.rem=>if k=k' then some (.int k (a.tmod b),b≠0) else none
  |.and=>if k=k' then some (.int k (andK k a b),True) else none
  |.or=>if k=k' then some (.int k (orK k a b),True) else none
  |.xor=>if k=k' then some (.int k (xorK k a b),True) else none
  |.andNot=>if k=k' then some (.int k (k.wrap (BitVec.ofInt k.bits a&&& ~~~(BitVec.ofInt k.bits b)).toNat),True) else none
  |.eql=>if k=k' then some (.bool (decide (a=b)),True) else none
  |.neq=>if k=k' then some (.bool (!decide (a=b)),True) else none
  |.lss=>if k=k' then some (.bool (decide (a<b)),True) else none
  |.leq=>if k=k' then some (.bool (decide (a≤b)),True) else none
  |.gtr=>if k=k' then some (.bool (decide (b<a)),True) else none
  |.geq=>if k=k' then some (.bool (decide (b≤a)),True) else none
 |.string a,.string b=>match op with
  |.eql=>some (.bool (decide (a=b)),True)
  |.neq=>some (.bool (!decide (a=b)),True)
  |.add=>some (.string (a++b),a.size+b.size≤9223372036854775807)
  |_=>none
 |_,_=>none

theorem z7Z{op:BinOp}{x y v:Value}{p:Prop}{t:TypeId}(h:binV op x y=some (v,p))(hp:p)(w:World):(binOp op t x y).run P w= .ok v w:=by
 unfold binV at h;split at h
 · rename_i k a k' b;have hn:¬(k'≠k'):=fun h=>h rfl;split at h<;> (try split at h) <;>first| (cases h;done) |skip
   all_goals (first|subst_vars|skip)
   all_goals (cases h)
   all_goals (first| (simp [binOp,Op.intArith,Op.intDiv,Op.intBits,Op.intCmp,xorK,andK,orK,hp];done) | (simp [binOp,Op.shift,CZ.2 hp];done) | (simp only [binOp];rw [if_neg hn];rfl))
 · rename_i a b;split at h
   · cases h;simp [binOp,Op.stringOp,q8P]
   · cases h;simp [binOp,Op.stringOp,q8P]
   · cases h;have:¬(((a.size+b.size:Nat):Int) >IntKind.i64.max):=by
      have:IntKind.i64.max=9223372036854775807:=by decide
      rw [this];omega
     simp only [binOp,Op.stringOp];rw [if_neg this];rfl
   cases h
 cases h

theorem q9b{op:BinOp}{t:TypeId}{x y:Operand}{a b v:Value}{p:Prop}(h:binV op a b=some (v,p))(w:World):(eqGuard op t x y a b).run P w= .ok () w:=by
 unfold binV at h;split at h
 · unfold eqGuard;split<;>simp
 · unfold eqGuard;split<;>simp
 cases h

theorem j2w{op:BinOp}{t t':TypeId}{x y:Operand}{a b v:Value}{p:Prop}(hop:o.op= .binOp op t x y t')(hx:ev x= .raw a)(hy:ev y= .raw b)(h:binV op a b=some (v,p))(hp:p)(hk:K (.ret (.raw v)) H):OpV P o ev H K:=by
 refine q0i (by rw [hop];intro c hc;cases hc) (fun C e _ hv=> ?_) hk
 have h0:=hv x (by rw [hop];simp [Op.operands])
 have h1:=hv y (by rw [hop];simp [Op.operands])
 rw [hx,SV.den] at h0;rw [hy,SV.den] at h1;refine ⟨v,?_,by rw [SV.den]⟩
 simp [execOp,hop,h0,h1,q9b h,z7Z h hp,Result.andThen]

def eqV:SV→SV→Option Bool
 |.ptr ..,.raw (.pointer none)=>some false
 |.iptr ..,.raw (.pointer none)=>some false
 |.rptr ..,.raw (.pointer none)=>some false
 |.raw (.pointer none),.raw (.pointer none)=>some true
 |.fn ..,.raw .nilFunc=>some false
 |.raw .nilFunc,.raw .nilFunc=>some true
 |.raw (.bool a),.raw (.bool b)=>some (decide (a=b))
 |_,_=>none
def kPtr(P:Program)(t:TypeId):Bool:=match P.underlying t with|some (.pointer _)=>true|_=>false
def kFunc(P:Program)(t:TypeId):Bool:=match P.underlying t with|some (.func _ _ _)=>true|_=>false
def kBool(P:Program)(t:TypeId):Bool:=match P.underlying t with|some .bool=>true|_=>false
def eqKind(P:Program)(t:TypeId):SV→Bool
 |.raw (.pointer none)=>kPtr P t
 |.raw .nilFunc=>kFunc P t
 |.raw (.bool _)=>kBool P t
 |_=>false
theorem q9j{t:TypeId}(h:kPtr P t=true):∃e,P.underlying t=some (.pointer e):=by
 unfold kPtr at h;split at h;exact ⟨_,by assumption⟩;cases h
theorem z2x{t:TypeId}(h:kFunc P t=true):∃a b c,P.underlying t=some (.func a b c):=by
 unfold kFunc at h;split at h;exact ⟨_,_,_,by assumption⟩;cases h
theorem z8b{t:TypeId}(h:kBool P t=true):P.underlying t=some .bool:=by
 unfold kBool at h;split at h;assumption;cases h


theorem j2e{t:TypeId}{s u:SV}{r:Bool}{C:Cx}{x y:Value}(hx:s.den C x)(hy:u.den C y)(h:eqV s u=some r)(ht:eqKind P t u=true)(w:World)(n:Nat):(Op.equalIn (n+1) t x y).run P w= .ok r w:=by
 have key:∀ {d:TypeDesc},P.underlying t=some d→(underlying t).run P w= .ok d w:=fun hd=>by simp [underlying,hd]
 unfold eqV at h;split at h<;>cases h<;>simp only [eqKind] at ht<;>simp only [SV.den] at hx hy
 · obtain ⟨_,b,_,rfl⟩:=hx;subst hy;obtain ⟨d,hu⟩:=q9j ht;simp [Op.equalIn,key hu]
 · obtain ⟨b,off,vs,rfl,_⟩:=hx;subst hy;obtain ⟨d,hu⟩:=q9j ht;simp [Op.equalIn,key hu]
 · obtain ⟨_,b,_,rfl⟩:=hx;subst hy;obtain ⟨d,hu⟩:=q9j ht;simp [Op.equalIn,key hu]
 · subst hx hy;obtain ⟨d,hu⟩:=q9j ht;simp [Op.equalIn,key hu]
 · obtain ⟨_,_,rfl,_⟩:=hx;subst hy;obtain ⟨_,_,_,hu⟩:=z2x ht;simp [Op.equalIn,key hu]
 · subst hx hy;obtain ⟨_,_,_,hu⟩:=z2x ht;simp [Op.equalIn,key hu]
 subst hx hy;have hu:=z8b ht;simp [Op.equalIn,key hu];rfl

theorem q7s{op:BinOp}{t:TypeId}{x y:Operand}{s u:SV}{r:Bool}{C:Cx}{a b:Value}(hx:s.den C a)(hy:u.den C b)(h:eqV s u=some r)(w:World):(eqGuard op t x y a b).run P w= .ok () w:=by
 unfold eqV at h;split at h<;>cases h<;>simp only [SV.den] at hx hy
 · obtain ⟨_,b,_,rfl⟩:=hx;subst hy;unfold eqGuard;split<;>simp
 · obtain ⟨b,off,vs,rfl,_⟩:=hx;subst hy;unfold eqGuard;split<;>simp
 · obtain ⟨_,b,_,rfl⟩:=hx;subst hy;unfold eqGuard;split<;>simp
 · subst hx hy;unfold eqGuard;split<;>simp
 · obtain ⟨_,_,rfl,_⟩:=hx;subst hy;unfold eqGuard;split<;>simp
 · subst hx hy;unfold eqGuard;split<;>simp
 subst hx hy;unfold eqGuard;split<;>simp

theorem q9w{t:TypeId}{s u:SV}{r:Bool}{C:Cx}{x y:Value}(hx:s.den C x)(hy:u.den C y)(h:eqV s u=some r)(ht:eqKind P t u=true)(w:World):
 (binOp .eql t x y).run P w= .ok (.bool r) w∧(binOp .neq t x y).run P w= .ok (.bool !r) w:=by
 have hr:(Op.equal t x y).run P w= .ok r w:=j2e hx hy h ht w 9999;unfold eqV at h;split at h<;>cases h<;>simp only [SV.den] at hx hy
 · obtain ⟨_,b,_,rfl⟩:=hx;subst hy;simp [binOp,hr]
 · obtain ⟨b,off,vs,rfl,_⟩:=hx;subst hy;simp [binOp,hr]
 · obtain ⟨_,b,_,rfl⟩:=hx;subst hy;simp [binOp,hr]
 · subst hx hy;simp [binOp,hr]
 · obtain ⟨_,_,rfl,_⟩:=hx;subst hy;simp [binOp,hr]
 · subst hx hy;simp [binOp,hr]
 subst hx hy;simp [binOp,hr]

theorem z6b{op:BinOp}{t t':TypeId}{x y:Operand}{r:Bool}(hop:o.op= .binOp op t x y t')(ho:op= .eql∨op= .neq)(h:eqV (ev x) (ev y)=some r)(ht:eqKind P t (ev y)=true)
 (hk:K (.ret (.raw (.bool (if op= .eql then r else !r)))) H):OpV P o ev H K:=by
 refine q0i (by rw [hop];intro c hc;cases hc) (fun C e _ hv=> ?_) hk
 have h0:=hv x (by rw [hop];simp [Op.operands])
 have h1:=hv y (by rw [hop];simp [Op.operands])
 refine ⟨.bool (if op= .eql then r else !r),?_,by rw [SV.den]⟩
 obtain ⟨g1,g2⟩:=q9w h0 h1 h ht C.w;rcases ho with rfl|rfl
 · simp [execOp,hop,q7s h0 h1 h,g1,Result.andThen]
 simp [execOp,hop,q7s h0 h1 h,g2,Result.andThen]

def unV(op:UnOp):Value→Option Value
 |.bool b=>match op with|.not=>some (.bool !b) |_=>none
 |.int k n=>match op with
  |.neg=>some (.int k (k.wrap (0-n)))
  |.xor=>some (.int k (k.wrap (BitVec.ofInt k.bits (if k.signed then -1 else k.max) ^^^ BitVec.ofInt k.bits n).toNat))
  |_=>none
 |_=>none
theorem j1F{op:UnOp}{x v:Value}(h:unV op x=some v)(w:World):(Op.unary op x).run P w= .ok v w:=by
 unfold unV at h;split at h
 · split at h<;>cases h;simp [Op.unary]
 · split at h<;>cases h
   · simp [Op.unary,Op.intArith]
   simp [Op.unary,Op.intBits]
 cases h
theorem j4a{op:UnOp}{t:TypeId}{x:Operand}{a v:Value}(hop:o.op= .unOp op t x)(hx:ev x= .raw a)(h:unV op a=some v)(hk:K (.ret (.raw v)) H):OpV P o ev H K:=by
 refine q0i (by rw [hop];intro c hc;cases hc) (fun C e _ hv=> ?_) hk
 have h0:=hv x (by rw [hop];simp [Op.operands])
 rw [hx,SV.den] at h0;exact ⟨v,by simp [execOp,hop,h0,j1F h,Result.andThen],by rw [SV.den]⟩

theorem run_underlying'{t:TypeId}{d:TypeDesc}(h:P.underlying t=some d)(w:World):(underlying t).run P w= .ok d w:=by simp [underlying,h]

theorem z0x{src dst:TypeId}{x:Operand}{k k':IntKind}{d:TypeDesc}{n:Int}(hop:o.op= .convert src dst x)(hs:P.underlying src=some d)(ht:P.underlying dst=some (.int k))(hx:ev x= .raw (.int k' n))
 (hk:K (.ret (.raw (.int k (k.wrap n)))) H):OpV P o ev H K:=by
 refine q0i (by rw [hop];intro c hc;cases hc) (fun C e _ hv=> ?_) hk
 have h0:=hv x (by rw [hop];simp [Op.operands])
 rw [hx,SV.den] at h0;exact ⟨.int k (k.wrap n),by simp [execOp,hop,h0,convert,run_underlying' hs,run_underlying' ht,Conv.intToInt,Result.andThen],by rw [SV.den]⟩

theorem z0M{src dst:TypeId}{x:Operand}{d:TypeDesc}{s:ByteArray}(hop:o.op= .convert src dst x)(hs:P.underlying src=some d)(ht:P.underlying dst=some .string)(hx:ev x= .raw (.string s))
 (hk:K (.ret (.raw (.string s))) H):OpV P o ev H K:=by
 refine q0i (by rw [hop];intro c hc;cases hc) (fun C e _ hv=> ?_) hk
 have h0:=hv x (by rw [hop];simp [Op.operands])
 rw [hx,SV.den] at h0;exact ⟨.string s,by simp [execOp,hop,h0,convert,run_underlying' hs,run_underlying' ht,Result.andThen],by rw [SV.den]⟩

def strOf(xs:List UInt8):ByteArray:=⟨xs.toArray⟩

end Go.Sx
namespace Go.Sx
open Go

variable [Ghost] {P:Program} {o:Oper} {ev:Operand→SV} {H:List SObj} {K:Out→List SObj→Prop}

theorem q7S:∀ (xs:List UInt8) (acc:ByteArray),(xs.map fun c=>(c.toNat:Int)).foldl (fun r n=>r.push (UInt8.ofNat n.toNat)) acc=⟨acc.data++xs.toArray⟩
 | [],acc=>by cases acc;simp
 |c :: xs,acc=>by
  simp only [AT,Bl];rw [q7S xs];simp [ByteArray.push]

theorem q1X{xs:List UInt8}{C:Cx}{v:Value}(h:(SV.isl .u8 xs).den C v):(Conv.bytesToString v).run P C.w= .ok (.string (strOf xs)) C.w:=by
 rw [SV.den] at h;obtain ⟨A,n,c,e,rfl,_,_,h⟩:=h;cases e;rcases h with rfl| ⟨b,off,rfl,_,h⟩
 · cases A with
   |none=>simp [Conv.bytesToString,strOf];rfl
   |some a=> 
    have:=run_bytesToString (P:=P) C.w a 0 c [] (by simp [loadCells,loadCellsFrom])
    rw [show strOf []=ByteArray.empty from rfl]
    simpa using this
 have hl:(loadCells ⟨b,off,none⟩ xs.length).run P C.w= .ok ((xs.map fun c=>(c.toNat:Int)).map (Value.int .u8)).toArray C.w:=by
  have:=run_loadCells_list (P:=P) C.w ⟨b,off,none⟩ ((xs.map fun c=>(c.toNat:Int)).map (Value.int .u8)) (fun j v hj=>by
   rw [q0J];simp only [BO,AN] at hj;cases hx:xs[j]? with
   |none=>simp [hx] at hj
   |some x=>
    simp [hx] at hj;obtain ⟨us,hr,hc⟩:=h j x hx;simp only [Ty.rel] at hr;subst hr;have:=hc 0 _ rfl;simp only [Ty.size,AM,AK] at this
    rw [this,hj])
  simpa using this
 rw [run_bytesToString C.w _ _ _ _ hl,q7S];simp [strOf]

theorem q7J{src dst:TypeId}{x:Operand}{e':TypeId}{xs:List UInt8}(hop:o.op= .convert src dst x)(hs:P.underlying src=some (.slice e'))(ht:P.underlying dst=some .string)(he:P.underlying e'=some (.int .u8))(hx:ev x= .isl .u8 xs)
 (hk:K (.ret (.raw (.string (strOf xs)))) H):OpV P o ev H K:=by
 refine q0i (by rw [hop];intro c hc;cases hc) (fun C e _ hv=> ?_) hk
 have h0:=hv x (by rw [hop];simp [Op.operands])
 rw [hx] at h0;have hb:=q1X (P:=P) h0;rw [SV.den] at h0;obtain ⟨A,n,c,e0,_⟩:=h0;simp only [List.cons.injEq,and_true] at e0;rw [e0] at hb;exact ⟨.string (strOf xs),by simp [execOp,hop,e0,convert,run_underlying' hs,run_underlying' ht,run_underlying' he,hb,Result.andThen],by rw [SV.den]⟩

theorem q6P{src dst:TypeId}{x:Operand}{e':TypeId}(hop:o.op= .convert src dst x)(hs:P.underlying src=some (.slice e'))(ht:P.underlying dst=some .string)(he:P.underlying e'=some (.int .u8))(hx:ev x= .raw (.slice none 0 0))
 (hk:K (.ret (.raw (.string (strOf [])))) H):OpV P o ev H K:=by
 refine q0i (by rw [hop];intro c hc;cases hc) (fun C e _ hv=> ?_) hk
 have h0:=hv x (by rw [hop];simp [Op.operands])
 rw [hx,SV.den] at h0;exact ⟨.string (strOf []),by simp [execOp,hop,h0,convert,run_underlying' hs,run_underlying' ht,run_underlying' he,Conv.bytesToString,Result.andThen];rfl,by rw [SV.den]⟩

def fieldOf(P:Program)(t:TypeId)(f:Nat):Option (Nat×TypeId):=
 match P.underlying t with
 |some (.struct fs)=>(fs[f]?).map fun x=>(x.offset,x.type)
 |_=>none
theorem q5C{t:TypeId}{f off:Nat}{ft:TypeId}(h:fieldOf P t f=some (off,ft)):∃fs x,P.underlying t=some (.struct fs)∧fs[f]?=some x∧x.offset=off∧x.type=ft:=by
 unfold fieldOf at h;split at h
 · rename_i fs hu;cases hx:fs[f]? with
   |none=>simp [hx] at h
   |some x=>simp [hx] at h;exact ⟨fs,x,hu,hx,h.1,h.2⟩
 cases h

def SV.add:SV→Nat→Option SV
 |.ptr h off,n=>some (.ptr h (off+n))
 |.iptr t x k,n=>some (.iptr t x (k+n))
 |.rptr h t i k,n=>some (.rptr h t i (k+n))
 |.raw (.pointer (some ⟨b,o,none⟩)),n=>some (.raw (.pointer (some ⟨b,o+n,none⟩)))
 |_,_=>none
theorem q6J{C:Cx}{s s':SV}{n:Nat}{v:Value}(h:s.add n=some s')(hd:s.den C v):∃b o,v= .pointer (some ⟨b,o,none⟩)∧s'.den C (.pointer (some ⟨b,o+n,none⟩)):=by
 unfold SV.add at h;split at h<;>cases h<;>rw [SV.den] at hd
 · obtain ⟨hn,b,hb,rfl⟩:=hd;exact ⟨b,_,rfl,by rw [SV.den];exact ⟨hn,b,hb,rfl⟩⟩
 · obtain ⟨b,off,vs,rfl,h1,h2,h3⟩:=hd;exact ⟨b,_,rfl,by rw [SV.den];exact ⟨b,off,vs,by rw [Nat.add_assoc],h1,h2,h3⟩⟩
 · obtain ⟨hn,b,hb,rfl⟩:=hd;exact ⟨b,_,rfl,by rw [SV.den];exact ⟨hn,b,hb,by rw [Nat.add_assoc]⟩⟩
 subst hd;exact ⟨_,_,rfl,by rw [SV.den]⟩

theorem q8t{t:TypeId}{x:Operand}{f off n:Nat}{ft:TypeId}{s:SV}(hop:o.op= .fieldAddr t x f)(hf:fieldOf P t f=some (off,ft))(hs:(P.info? ft).map (·.size)=some (n+1))(ha:(ev x).add off=some s)(hk:K (.ret s) H):OpV P o ev H K:=by
 refine q0i (by rw [hop];intro c hc;cases hc) (fun C e _ hv=> ?_) hk
 obtain ⟨b,p,hx,hd⟩:=q6J ha (hv x (by rw [hop];simp [Op.operands]))
 obtain ⟨fs,y,hu,hy,rfl,rfl⟩:=q5C hf;exact ⟨_,by simp [execOp,hop,hx,Instr.fieldAt,run_underlying' hu,hy,Instr.sureAddr,fieldPlace,q0j hs,q0J,Result.andThen],hd⟩

theorem q6t{t:TypeId}{ag:Option Nat}(ht:aggOf P t=some ag){C:Cx}{cs:List SV}{vs:List Value}{off:Nat}{s:SV}(hd:SV.denL C cs vs)(hp:pick cs off ag=some s)(w:World):∃v,(part t vs.toArray off).run P w= .ok v w∧s.den C v:=by
 cases ag with
 |none=>
  simp only [pick] at hp;obtain ⟨v,hv,hs⟩:=q1B hd hp;exact ⟨v,by simp [part,q2C ht,hv,Result.andThen],hs⟩
 |some n=>
  simp only [pick] at hp;split at hp
  · cases hp;refine ⟨.agg ((vs.drop off).take n).toArray,?_,by rw [SV.den];exact ⟨_,rfl,q4V n (q5e off hd)⟩⟩
    simp [part,q2C ht,q0j (q7V ht),Result.andThen,List.take_drop]
  cases hp

theorem z7r{t:TypeId}{x:Operand}{f off:Nat}{ft:TypeId}{ag:Option Nat}{l:List SV}{s:SV}(hop:o.op= .field t x f)(hf:fieldOf P t f=some (off,ft))(ht:aggOf P ft=some ag)(hx:ev x= .agg l)(hp:pick l off ag=some s)(hk:K (.ret s) H):OpV P o ev H K:=by
 refine q0i (by rw [hop];intro c hc;cases hc) (s:=s) (fun C e _ hv=> ?_) hk
 have h0:=hv x (by rw [hop];simp [Op.operands])
 rw [hx,SV.den] at h0;obtain ⟨vs,h0,hl⟩:=h0;obtain ⟨fs,y,hu,hy,rfl,rfl⟩:=q5C hf;obtain ⟨v,h1,h2⟩:=q6t ht hl hp C.w;exact ⟨v,by simp [execOp,hop,h0,Instr.field,run_underlying' hu,hy,asAgg,h1,Result.andThen],h2⟩

theorem q9r{t:TypeId}{x i:Operand}{s:ByteArray}{k:IntKind}{n:Int}(hop:o.op= .index t x i)(ht:P.underlying t=some .string)(hx:ev x= .raw (.string s))(hi:ev i= .raw (.int k n))(h0:0≤n)(hb:n.toNat<s.size)
 (hk:K (.ret (.raw (.int .u8 (s.data.toList.getD n.toNat 0).toNat))) H):OpV P o ev H K:=by
 refine q0i (by rw [hop];intro c hc;cases hc) (fun C e _ hv=> ?_) hk
 have h1:=hv x (by rw [hop];simp [Op.operands])
 have h2:=hv i (by rw [hop];simp [Op.operands])
 rw [hx,SV.den] at h1;rw [hi,SV.den] at h2;refine ⟨.int .u8 (s.data.toList.getD n.toNat 0).toNat,?_,by rw [SV.den]⟩
 have hg:s[n.toNat]?=some (s.data.toList.getD n.toNat 0):=by
  rw [getElem?_pos s n.toNat hb];have:n.toNat<s.data.size:=hb;simp only [Ad,Cv,Bx this];rfl
 simp [execOp,hop,h1,h2,Instr.index,asIntOf,run_underlying' ht,h0,hg,Result.andThen]

theorem q5q{t:TypeId}{x i:Operand}{ty:Ty}{xs:List ty.den}{k:IntKind}{n:Int}{e':TypeId}(hop:o.op= .indexAddr t x i)(ht:P.underlying t=some (.slice e'))(hs:(P.info? e').map (·.size)=some ty.size)(hx:ev x= .isl ty xs)(hi:ev i= .raw (.int k n))
 (h0:0≤n)(hb:n.toNat<xs.length)(hk:ty.ok (xs.getD n.toNat ty.dflt)→K (.ret (.iptr ty (xs.getD n.toNat ty.dflt) 0)) H):OpV P o ev H K:=by
 refine q0R (by rw [hop];intro c hc;cases hc) fun C e hw hv=> ?_
 have h1:=hv x (by rw [hop];simp [Op.operands])
 have h2:=hv i (by rw [hop];simp [Op.operands])
 rw [hx,SV.den] at h1;rw [hi,SV.den] at h2;obtain ⟨A,m,c,e0,rfl,hc,hm,h1⟩:=h1;simp only [List.cons.injEq,and_true] at e0;have hg:xs[n.toNat]?=some (xs.getD n.toNat ty.dflt):=by rw [Ad,Ab hb];rfl
 rcases h1 with rfl| ⟨b,off,rfl,hI,h1⟩
 · simp at hb
 obtain ⟨us,hr,hcell⟩:=h1 _ _ hg;refine ⟨_,.pointer (some ⟨b,off+n.toNat*ty.size,none⟩),H,C,hk (Ty.rel_ok _ _ _ hr),.inl ?_,hw,Ext.refl _ _,?_⟩
 · have hlt:n< (xs.length:Int):=by omega
   simp [execOp,hop,e0,h2,Instr.indexAt,asIntOf,run_underlying' ht,h0,hlt,q0j hs,q0J,Result.andThen]
 rw [SV.den];exact ⟨b,off+n.toNat*ty.size,us,rfl,hI,hr,hcell⟩

theorem q5D{t:TypeId}{x i:Operand}{b off m c sz:Nat}{k:IntKind}{n:Int}{e':TypeId}(hop:o.op= .indexAddr t x i)(ht:P.underlying t=some (.slice e'))(hs:(P.info? e').map (·.size)=some sz)
 (hx:ev x= .raw (.slice (some ⟨b,off,none⟩) m c))(hi:ev i= .raw (.int k n))(h0:0≤n)(hb:n.toNat<m)(hk:K (.ret (.raw (.pointer (some ⟨b,off+n.toNat*sz,none⟩)))) H):OpV P o ev H K:=by
 refine q0i (by rw [hop];intro c hc;cases hc) (fun C e _ hv=> ?_) hk
 have h1:=hv x (by rw [hop];simp [Op.operands])
 have h2:=hv i (by rw [hop];simp [Op.operands])
 rw [hx,SV.den] at h1;rw [hi,SV.den] at h2;refine ⟨.pointer (some ⟨b,off+n.toNat*sz,none⟩),?_,by rw [SV.den]⟩
 have hlt:n< (m:Int):=by omega
 simp [execOp,hop,h1,h2,Instr.indexAt,asIntOf,run_underlying' ht,h0,hlt,q0j hs,q0J,Result.andThen]

theorem q2T{t:TypeId}{x i:Operand}{ty:Ty}{h off m:Nat}{k:IntKind}{n:Int}{e':TypeId}(hop:o.op= .indexAddr t x i)(ht:P.underlying t=some (.slice e'))(hs:(P.info? e').map (·.size)=some ty.size)
 (hx:ev x= .osl h ty off m∨(ev x= .bld h ty m∧off=0))(hi:ev i= .raw (.int k n))
 (h0:0≤n)(hb:n.toNat<m)(hk:K (.ret (.rptr h ty (off+n.toNat) 0)) H):OpV P o ev H K:=by
 refine q0i (by rw [hop];intro c hc;cases hc) (fun C e _ hv=> ?_) hk
 have h1:=hv x (by rw [hop];simp [Op.operands])
 have h2:=hv i (by rw [hop];simp [Op.operands])
 rw [hi,SV.den] at h2;have h1:h<C.n∧∃b c,C.ρ h=some b∧e x= .slice (some ⟨b,off*ty.size,none⟩) m c:=by
  rcases hx with hx| ⟨hx,rfl⟩ <;>rw [hx,SV.den] at h1
  · obtain ⟨hn,A,c,hv',_,h1⟩:=h1;rcases h1 with rfl| ⟨b,hb',rfl⟩
    · omega
    exact ⟨hn,b,c,hb',hv'⟩
  obtain ⟨hn,⟨_,rfl,_⟩ | ⟨b,c,_,hb',hv',_⟩⟩:=h1
  · omega
  exact ⟨hn,b,c,hb',by rw [hv',Be]⟩
 obtain ⟨hn,b,c,hb',hv'⟩:=h1;refine ⟨.pointer (some ⟨b,(off+n.toNat)*ty.size+0,none⟩),?_,by rw [SV.den];exact ⟨hn,b,hb',rfl⟩⟩
 have hlt:n< (m:Int):=by omega
 simp [execOp,hop,hv',h2,Instr.indexAt,asIntOf,run_underlying' ht,h0,hlt,q0j hs,q0J,Nat.add_mul,Result.andThen]

def SV.len:SV→Option Int
 |.isl _ xs=>some xs.length
 |.bld _ _ n=>some n
 |.osl _ _ _ n=>some n
 |.csl _ _ _ _ n=>some n
 |.raw (.slice _ n _)=>some n
 |.raw (.string s)=>some s.size
 |_=>none
def lenKind(P:Program)(t:TypeId):SV→Bool
 |.raw (.string _)=>match P.underlying t with|some .string=>true|_=>false
 |_=>match P.underlying t with|some (.slice _)=>true|_=>false
theorem j1c{c:Call}{t:TypeId}{x:Operand}{n:Int}(hop:o.op= .call c)(hc:c.callee= .builtin .len)(ha:c.args= #[x])(hty:c.argTypes= #[t])(hl:(ev x).len=some n)(hkd:lenKind P t (ev x)=true)
 (hk:K (.ret (.raw (.int .i64 n))) H):OpV P o ev H K:=by
 refine q0i (by rw [hop];intro c hc;cases hc) (fun C e _ hv=> ?_) hk
 have h0:=hv x (by rw [hop];simp [Op.operands,Call.operands,hc,ha])
 refine ⟨.int .i64 n,?_,by rw [SV.den]⟩
 have hrun:(Builtin.len_ #[t] o.type #[e x]).run P C.w= .ok (.int .i64 n) C.w:=by
  generalize ev x=s at*;unfold SV.len at hl;split at hl<;>cases hl<;>unfold lenKind at hkd<;>simp only at hkd<;> (split at hkd<;>first| (cases hkd;done) |skip) <;>rename_i hu<;>rw [SV.den] at h0
  · obtain ⟨A,m,c,e0,rfl,_⟩:=h0;simp only [List.cons.injEq,and_true] at e0;simp [Builtin.len_,e0,run_underlying' hu,goInt,Result.andThen]
  · obtain ⟨_,⟨_,rfl,e0⟩ | ⟨_,_,_,_,e0,_⟩⟩:=h0<;>simp [Builtin.len_,e0,run_underlying' hu,goInt,Result.andThen]
  · obtain ⟨_,_,_,e0,_⟩:=h0;simp [Builtin.len_,e0,run_underlying' hu,goInt,Result.andThen]
  · obtain ⟨_,_,_,e0,_⟩:=h0;simp [Builtin.len_,e0,run_underlying' hu,goInt,Result.andThen]
  · simp [Builtin.len_,h0,run_underlying' hu,goInt,Result.andThen]
  simp [Builtin.len_,h0,run_underlying' hu,goInt,Result.andThen]
 simp [execOp,hop,resolve,hc,ha,hty,invoke,builtin,hrun,Result.andThen]

def enters(P:Program)(f:FuncId):Bool:=match P.funcs[f]? with
 |some fn=> !(fn.name== "runtime.NumGoroutine") && fn.body.isSome
 |none=>false
theorem q2U{f:FuncId}(h:enters P f=true)(args:Array Value)(w:World):(callFunc f args).run P w= .ok (.enter f args) w:=by
 unfold enters at h;cases hf:P.funcs[f]? with
 |none=>simp [hf] at h
 |some fn=>
  simp [hf] at h;have hb:fn.body.isNone=false:=by simp [h.2]
  have hb':¬fn.body=none:=by intro hn;simp [hn] at h
  simp [callFunc,hf,h.1,hb']

theorem j0a{c:Call}{f:FuncId}{g:Operand}{fi ca:List SV}(hop:o.op= .call c)(hc:c.callee= .value g)(hg:ev g= .fn f fi ca)(hf:enters P f=true)
 (h:VCallG P f (fi++c.args.toList.map ev++ca) H K):OpV P o ev H K:=by
 intro E C r n a next Q hw hgh hv h1 h2
 have h0:=hv g (by rw [hop];simp [Op.operands,Call.operands,hc])
 rw [hg,SV.den] at h0;obtain ⟨v1,v2,h0,d1,d2⟩:=h0;have da:SV.denL C (c.args.toList.map ev) (c.args.toList.map a.eval):=q2f _ fun x hx=>hv x (by rw [hop];simp [Op.operands,Call.operands];exact .inr (by simpa using hx))
 refine ⟨fun f _=>q4r r f,?_⟩;rw [Oper.semAt_eq _ _ _ (by rw [hop];intro c hc;cases hc)]
 have hrun:(execOp a.eval o).run P C.w= .ok (.enter f (v1++c.args.toList.map a.eval++v2).toArray) C.w:=by
  simp [execOp,hop,resolve,hc,h0,Deferred.ofValue,invoke,q2U hf]
 rw [hrun];refine ⟨(fun hd=>by cases hd),q3O ?_⟩
 refine (h E C _ hw hgh (q0x.2 ⟨_,_,rfl,q0x.2 ⟨_,_,rfl,d1,da⟩,d2⟩)).mono ?_;rintro e w' ⟨out,H',C',hk,rfl,hw',hx,hd⟩;cases out with
 |ret s=>
  obtain ⟨v,rfl,hs⟩:=hd;exact h1 s v H' C' hk hw' hx hs
 |pan s=>
  obtain ⟨v,rfl,hs⟩:=hd;exact h2 s v H' C' hk hw' hx hs

theorem z5L{x:Operand}{T:TypeId}{s:SV}(hop:o.op= .panic x)(hx:ev x= .iface T s)(hk:K (.pan (.iface T s)) H):OpV P o ev H K:=by
 intro E C r n a next Q hw _ hv h1 h2
 have h0:=hv x (by rw [hop];simp [Op.operands])
 rw [hx] at h0;have h0':=h0;rw [SV.den] at h0;obtain ⟨u,h0,_⟩:=h0;refine ⟨fun f _=>q4r r f,?_⟩;rw [Oper.semAt_eq _ _ _ (by rw [hop];intro c hc;cases hc)]
 have hrun:(execOp a.eval o).run P C.w= .halt (.panic (.iface T u)) C.w:=by
  simp [execOp,hop,h0,Instr.panic,Result.andThen]
 rw [hrun];rw [h0] at h0';exact h2 _ _ H C hk hw (.of (Ext.refl _ _)) h0'

def mxV(b:Bool)(x y:Int):Int:=if b then (if y>x then y else x) else (if y<x then y else x)
theorem j0C{c:Call}{b:Bool}{x y:Operand}{k:IntKind}{m n:Int}(hop:o.op= .call c)(hc:c.callee= .builtin (if b then .max else .min))(ha:c.args= #[x,y]){k':IntKind}(hx:ev x= .raw (.int k m))(hy:ev y= .raw (.int k' n))
 (hk:K (.ret (.raw (.int k (mxV b m n)))) H):OpV P o ev H K:=by
 refine q0i (by rw [hop];intro c hc;cases hc) (fun C e _ hv=> ?_) hk
 have h0:=hv x (by rw [hop];simp [Op.operands,Call.operands,hc,ha])
 have h1:=hv y (by rw [hop];simp [Op.operands,Call.operands,hc,ha])
 rw [hx,SV.den] at h0;rw [hy,SV.den] at h1;refine ⟨.int k (mxV b m n),?_,by rw [SV.den]⟩
 cases b
 · simp [execOp,hop,resolve,hc,ha,h0,h1,invoke,builtin,Builtin.min_,Builtin.min2,mxV,Result.andThen]
 simp [execOp,hop,resolve,hc,ha,h0,h1,invoke,builtin,Builtin.max_,Builtin.max2,mxV,Result.andThen]

def isYld:Value→Option Nat
 |.func (.yield l) a b=>if a.size=0∧b.size=0 then some l else none
 |_=>none
theorem z8C{v:Value}{l:Nat}(h:isYld v=some l):v= .func (.yield l) #[] #[]:=by
 unfold isYld at h;split at h
 · split at h
   · rename_i hs;cases h;rw [A3 hs.1,A3 hs.2]
   cases h
 cases h
def VYld(P:Program)(l:Nat)(args:List SV)(H:List SObj)(K:Out→List SObj→Prop):Prop:=
 ∀ (E:EnD) (C:Cx) (vs:List Value),Wd C H→Ghost.inv E C H→SV.denL C args vs→
  ∃f tmps assign body,(Instr.yield l vs.toArray).run P C.w= .ok (.round l f tmps assign body) C.w∧
   ∀ (r:Option Nat) (n:Nat),RoundIn (Fw r) n P l f tmps assign body C.w fun e w'=>∃s H' C' v,e= .returned v∧K (.ret s) H'∧C'.w=w'∧Wd C' H'∧Stp E C H C' H'∧s.den C' v
theorem j1t{c:Call}{l:Nat}{g:Operand}{v:Value}(hop:o.op= .call c)(hc:c.callee= .value g)(hg:ev g= .raw v)(hy:isYld v=some l)
 (h:VYld P l (c.args.toList.map ev) H K):OpV P o ev H K:=by
 intro E C r n a next Q hw hgh hv h1 h2
 have h0:=hv g (by rw [hop];simp [Op.operands,Call.operands,hc])
 rw [hg,SV.den,z8C hy] at h0;have da:SV.denL C (c.args.toList.map ev) (c.args.toList.map a.eval):=q2f _ fun x hx=>hv x (by rw [hop];simp [Op.operands,Call.operands];exact .inr (by simpa using hx))
 obtain ⟨f,tmps,assign,body,hrun,hround⟩:=h E C _ hw hgh da;refine ⟨fun f _=>q4r r f,?_⟩;rw [Oper.semAt_eq _ _ _ (by rw [hop];intro c hc;cases hc)]
 have hrun':(execOp a.eval o).run P C.w= .ok (.round l f tmps assign body) C.w:=by
  have e:(List.map a.eval c.args.toList).toArray=Array.map a.eval c.args:=by rw [←Array.toList_map]
  rw [e] at hrun;simp [execOp,hop,resolve,hc,h0,Deferred.ofValue,invoke];exact hrun
 rw [hrun'];refine ⟨(fun hd=>by cases hd),(hround r _).mono ?_⟩
 rintro e w' ⟨s,H',C',v,rfl,hk,rfl,hw',hx,hs⟩;exact h1 s v H' C' hk hw' hx hs
def isFn:Value→Option (Nat×List Value×List Value)
 |.func (.func f) a b=>some (f,a.toList,b.toList)
 |_=>none
theorem z5Q{c:Call}{f:FuncId}{g:Operand}{v:Value}{fi ca:List Value}(hop:o.op= .call c)(hc:c.callee= .value g)(hg:ev g= .raw v)(hv:isFn v=some (f,fi,ca))(hf:enters P f=true)
 (h:VCallG P f (rawL fi++c.args.toList.map ev++rawL ca) H K):OpV P o ev H K:=by
 obtain rfl:v= .func (.func f) fi.toArray ca.toArray:=by
  unfold isFn at hv;split at hv
  · cases hv;simp
  cases hv
 intro E C r n a next Q hw hgh hv h1 h2
 have h0:=hv g (by rw [hop];simp [Op.operands,Call.operands,hc])
 rw [hg,SV.den] at h0;have da:SV.denL C (c.args.toList.map ev) (c.args.toList.map a.eval):=q2f _ fun x hx=>hv x (by rw [hop];simp [Op.operands,Call.operands];exact .inr (by simpa using hx))
 refine ⟨fun f _=>q4r r f,?_⟩;rw [Oper.semAt_eq _ _ _ (by rw [hop];intro c hc;cases hc)]
 have hrun:(execOp a.eval o).run P C.w= .ok (.enter f (fi++c.args.toList.map a.eval++ca).toArray) C.w:=by
  simp [execOp,hop,resolve,hc,h0,Deferred.ofValue,invoke,q2U hf]
 rw [hrun];refine ⟨(fun hd=>by cases hd),q3O ?_⟩
 refine (h E C _ hw hgh (q0x.2 ⟨_,_,rfl,q0x.2 ⟨_,_,rfl,q1e fi,da⟩,q1e ca⟩)).mono ?_;rintro e w' ⟨out,H',C',hk,rfl,hw',hx,hd⟩;cases out with
 |ret s=>
  obtain ⟨v,rfl,hs⟩:=hd;exact h1 s v H' C' hk hw' hx hs
 |pan s=>
  obtain ⟨v,rfl,hs⟩:=hd;exact h2 s v H' C' hk hw' hx hs
attribute [go_sem] isYld isFn
end Go.Sx
