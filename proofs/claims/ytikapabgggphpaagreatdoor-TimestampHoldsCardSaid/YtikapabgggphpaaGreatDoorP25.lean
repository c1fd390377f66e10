/- A part of the proof: a symbolic executor over abstract values, and its soundness. -/
import Derived.Test.YtikapabgggphpaaGreatDoorP24
import Derived.Lib.MakeNoZero
import Derived.Laws.Externs
import Derived.Test.YtikapabgggphpaaGreatDoorP19
set_option linter.all false
set_option linter.unusedSectionVars false
namespace Go.Sx
open Go

variable {P:Program} {AQ:Ex→List SV→List SObj→Prop} {k0:Nat}

def mofP (P:Program) (T:TypeId) (nm:String):Option (FuncId×Nat):=match (P.info? T).bind fun i=>i.methods.find? (·.name==nm) with
 |some m=>match m.path.toList,m.func with
  | [s],some (g,true)=>if s.deref=true then none else match P.underlying s.struct with
   |some (.struct fs)=>match fs[s.index]? with
    |some y=>match P.underlying y.type,aggOf P y.type with
     |some (.pointer _),some none=>match P.underlying T with
      |some (.struct _)=>if enters P g=true then some (g,y.offset) else none
      |_=>none
     |_,_=>none
    |none=>none
   |_=>none
  |_,_=>none
 |none=>none
theorem j1Z {T:TypeId} {nm:String} {g:FuncId} {off:Nat} (h:mofP P T nm=some (g,off)) {C:Cx} {cs:List SV} {vs:List Value} {s:SV} (hd:SV.denL C cs vs) (hp:cs[off]?=some s) (w:World) (fuel:Nat):
 ∃v,(method (fuel+1) T (.agg vs.toArray) nm).run P w= .ok (g,v) w∧s.den C v∧enters P g=true∧∃fs,P.underlying T=some (.struct fs):=by
 unfold mofP at h
 split at h
 · rename_i m hm
   split at h
   · rename_i st g' hpath hfn
     split at h
     · cases h
     rename_i hder
     split at h
     · rename_i fs hu
       split at h
       · rename_i y hy
         split at h
         · rename_i el hpt hag
           split at h
           · rename_i fs' hT
             split at h
             · rename_i hen
               cases h
               obtain ⟨v,h1,h2⟩:=q5O hag hd (off:=y.offset) (s:=s) (by simpa [pick] using hp) w
               rw [Option.bind_eq_some_iff] at hm
               obtain ⟨ti,hti,hm⟩:=hm
               refine ⟨v,?_,h2,hen,fs',hT⟩
               have hder:st.deref=false:=by simpa using hder
               simp only [method,typeInfo,receiverAt,Place.get]
               simp [hti,hm,hpath,hfn,follow,run_underlying' hu,hy,hder,h1,run_underlying' hpt,Result.andThen]
             cases h
           cases h
         cases h
       cases h
     cases h
   cases h
 cases h

theorem z5q [Ghost] {o:Oper} {ev:Operand→SV} {H:List SObj} {K:Out→List SObj→Prop} {c:Call} {f:FuncId} {g x:Operand} {rest:List Operand} {T:TypeId} {nm:String} {off:Nat} {l:List SV} {s:SV} (hop:o.op= .call c) (hc:c.callee= .value g) (hg:ev g= .raw (.func (.methodOf T nm) #[] #[]))
 (ha:c.args.toList=x :: rest) (hx:ev x= .agg l) (hp:l[off]?=some s) (hm:mofP P T nm=some (f,off)) (h:VCallG P f (s :: rest.map ev) H K):OpV P o ev H K:=by
 intro E C r n a next Q hw hgh hv h1 h2
 have h0:=hv g (by rw [hop];simp [Op.operands,Call.operands,hc])
 have hmem:∀y∈x :: rest,y∈o.op.operands:=fun y hy=>by
  rw [hop];simp [Op.operands,Call.operands];exact .inr (by rw [←Array.mem_toList_iff,ha];exact hy)
 have hx0:=hv x (hmem x (by simp))
 rw [hg,SV.den] at h0
 rw [hx,SV.den] at hx0
 obtain ⟨vs,hx0,hl⟩:=hx0
 obtain ⟨v,hrun,hsv,hen,fs,hT⟩:=j1Z hm hl hp C.w (P.types.size+Made.depth-1)
 have da:SV.denL C (rest.map ev) (rest.map a.eval):=q1z _ fun y hy=>hv y (hmem y (by simp [hy]))
 refine ⟨fun f _=>q5k r f,?_⟩
 rw [Oper.semAt_eq _ _ _ (by rw [hop];intro c hc;cases hc)]
 have hargs:c.args.map a.eval=(.agg vs.toArray :: rest.map a.eval).toArray:=by
  rw [←Array.toList_inj];simp [ha,hx0]
 have hrun:(execOp a.eval o).run P C.w= .ok (.enter f (v :: rest.map a.eval).toArray) C.w:=by
  have hd:P.types.size+Made.depth=P.types.size+Made.depth-1+1:=by simp [Made.depth]
  rw [←hd] at hrun
  simp [execOp,hop,resolve,hc,h0,Deferred.ofValue,invoke,hargs,run_underlying' hT,callMethod,hrun,q2E hen,Result.andThen]
  exact List.take_of_length_le (by simp)
 rw [hrun]
 refine ⟨(fun hd=>by cases hd),q3j ?_⟩
 refine (h E C _ hw hgh (q0b.2 ⟨_,_,rfl,hsv,da⟩)).mono ?_
 rintro e w' ⟨out,H',C',hk,rfl,hw',hx,hd⟩
 cases out with
 |ret s=>
  obtain ⟨v,rfl,hs⟩:=hd
  exact h1 s v H' C' hk hw' hx hs
 |pan s=>
  obtain ⟨v,rfl,hs⟩:=hd
  exact h2 s v H' C' hk hw' hx hs
theorem z3d {op:Op} {f:Operand} {args:List Operand} (h:compOp P op=some (.call f args)):∃c:Call,op= .call c∧c.callee= .value f∧c.args.toList=args:=by
 unfold compOp at h
 repeat' split at h
 all_goals first
  |contradiction
  | (simp only [Option.some.injEq,IOp.call.injEq] at h;obtain ⟨rfl,rfl⟩:=h;exact ⟨_,rfl,by assumption,rfl⟩)
  | (simp only [Option.bind_eq_some_iff,Option.map_eq_some_iff,Option.some.injEq,reduceCtorEq,and_false,exists_false] at h;done)
  | (simp [Option.bind_eq_some_iff] at h;done)
theorem z2D [Ghost] {f:FuncId} {g x:Operand} {rest:List Operand} {d:Option Tmp} {l:List OpI} {td:List IT} {T:TypeId} {nm:String} {off:Nat} {cs tm:List SV} {H:List SObj} {s:SV} (hg:evT tm g= .raw (.func (.methodOf T nm) #[] #[])) (hx:evT tm x= .agg cs) (hp:cs[off]?=some s) (hm:mofP P T nm=some (f,off))
 (h:CallI P AQ f (s :: rest.map (evT tm)) d ⟨k0,.ops l :: td,tm,H⟩):SoundI P AQ ⟨k0,.ops (⟨d,.call g (x :: rest),none⟩ :: l) :: td,tm,H⟩:=q0c (fun td' hr=>by
 obtain ⟨all,idx,r,rfl,ho,hr⟩:=hr
 cases idx with
 |nil=>exact ho.elim
 |cons i idx=>
  obtain ⟨⟨o,ho1,ho2⟩,ho⟩:=ho
  obtain ⟨hc,hd⟩:=q0z ho2
  simp only at hc hd
  obtain ⟨c,hop,hcal,ha⟩:=z3d hc
  refine q5B (k0:=k0) (k:=r) ho1 ((q0n ho2).1 rfl) ?_
  refine z5q hop hcal hg ha hx hp hm (h.2.mono fun out H' hK=> ?_)
  cases out with
  |ret s=>
   have hK':SoundI P AQ ⟨k0,.ops l :: td,putT tm d s,H'⟩:=hK
   rw [hd] at hK'
   exact q0e hK' ⟨all,idx,r,rfl,ho,hr⟩
  |pan s=>exact hK) rfl
theorem j3W {g:FG} {f:FuncId} {args:List SV} {H:List SObj} {K:Out→List SObj→Prop} (h: @VCG (fgG g) P f args H K): @VCG (topG g []) P f args H K:=
 ⟨h.1,fun E C vs hw hg hv=>(h.2 E C vs hw ⟨hg.1,hg.2.1⟩ hv).mono fun _ _ ⟨o,H',C',k1,k2,k3,k4,k5⟩=>
  ⟨o,H',C',k1,k2,k3, @Stp.mk (topG g []) _ _ _ _ _ (@Stp.evo (fgG g) _ _ _ _ _ k4) (@Stp.ext (fgG g) _ _ _ _ _ k4) (fun hi=>
   have h9:= @Stp.inv (fgG g) _ _ _ _ _ k4 ⟨hi.1,hi.2.1⟩
   ⟨h9.1,h9.2,hi.2.2.1,fun D hD=>absurd hD (by simp)⟩),k5⟩⟩

theorem q9k:∀ (n t:Nat) (acc:Array Value),∃xs:List UInt8,xs.length=n∧Extern.BytealgMakeNoZero.digits n t acc=acc++(xs.map fun b=>Value.int .u8 b.toNat).toArray
 |0,_,acc=>⟨[],rfl,by simp [Extern.BytealgMakeNoZero.digits]⟩
 |n+1,t,acc=>by
  obtain ⟨xs,hl,h⟩:=q9k n (t / 256) (acc.push (.int .u8 (Int.ofNat (t%256))))
  refine ⟨UInt8.ofNat (t%256) :: xs,by simp [hl],?_⟩
  have h9:(UInt8.ofNat (t%256)).toNat=t%256:=by simp
  rw [Extern.BytealgMakeNoZero.digits,h,List.map_cons,h9]
  apply Array.ext'
  simp
theorem j1t (w:World) (ps:Array TypeId) {t e:TypeId} (ht:P.underlying t=some (.slice e)) {n:Nat} (hn:n≤140737488355328):
 ∃ (c:Nat) (xs rest:List UInt8),xs.length=n∧c=n+rest.length∧(Extern.BytealgMakeNoZero.makeNoZero ps #[t] #[.int .i64 n]).run P w= .ok (.slice (some ⟨w.heap.size,0,none⟩) n c) (w.drew.drew.alloc (.cells ((xs.map fun b=>Value.int .u8 b.toNat)++(rest.map fun b=>Value.int .u8 b.toNat)).toArray e)):=by
 have hdef:Extern.BytealgMakeNoZero.makeNoZero ps #[t] #[.int .i64 n]=
  (do
   let .slice elem←underlying t|stuck "bytealg.MakeNoZero: slice type expected"
   if (n:Int) <0|| (n:Int) >2^ 48 then runtimePanic (.error "makeslice: len out of range")
   let cap←choose (.appendCap (n:Int).toNat 0 elem)
   askRoom cap
   let bytes←choose (.extern "internal/bytealg.MakeNoZero.bytes" 0)
   let a←newRow elem (Extern.BytealgMakeNoZero.digits cap bytes #[])
   pure (.slice (some a) (n:Int).toNat cap)):=rfl
 have h1:¬(n:Int) <0:=by omega
 have h2:¬(281474976710656:Int) < (n:Int):=by omega
 obtain ⟨c,hc⟩:∃c,c=(Question.appendCap n 0 e).cut (w.tape w.drawn (.appendCap n 0 e)):=⟨_,rfl⟩
 obtain ⟨xs,hl,hd⟩:=q9k c ((Question.extern "internal/bytealg.MakeNoZero.bytes" 0).cut (w.tape (w.drawn+1) (.extern "internal/bytealg.MakeNoZero.bytes" 0))) #[]
 have hge:n≤c:=by rw [hc];simp [Question.cut]
 refine ⟨c,xs.take n,xs.drop n,by rw [List.length_take];omega,by rw [List.length_drop];omega,?_⟩
 rw [hdef,←List.map_append,List.take_append_drop]
 have hd':Extern.BytealgMakeNoZero.digits c ((Question.extern "internal/bytealg.MakeNoZero.bytes" 0).cut (w.tape (w.drawn+1) (.extern "internal/bytealg.MakeNoZero.bytes" 0))) #[]=(xs.map fun b=>Value.int .u8 b.toNat).toArray:=by rw [hd];simp
 rw [←hd']
 simp [run_underlying' ht,h1,h2,Question.forced,newRow,←hc]
theorem j1L [Ghost] {o:Oper} {ev:Operand→SV} {H:List SObj} {K:Out→List SObj→Prop} {c:Call} {f:FuncId} {g x:Operand} {ps:Array TypeId} {t e:TypeId} {fn:Func} {n:Nat} (hop:o.op= .call c) (hc:c.callee= .value g) (hg:ev g= .fn f [] []) (ha:c.args.toList= [x]) (hx:ev x= .raw (.int .i64 n))
 (hf:P.funcs[f]?=some fn) (hname:(fn.name== "runtime.NumGoroutine")=false) (hb:fn.body.isNone=true) (hn:Extern.findNext fn=none) (he:Extern.find fn=some (Extern.BytealgMakeNoZero.makeNoZero ps #[t])) (ht:P.underlying t=some (.slice e))
 (hle:n≤140737488355328) (hk:∀xs:List UInt8,xs.length=n→K (.ret (.bld H.length .u8 n)) (H++ [.row .u8 xs])):OpV P o ev H K:=by
 refine q0F (by rw [hop];intro c hc;cases hc) fun C e' hw hv=> ?_
 have h0:=hv g (by rw [hop];simp [Op.operands,Call.operands,hc])
 have h1:=hv x (by rw [hop];simp [Op.operands,Call.operands];exact .inr (by rw [←Array.mem_toList_iff,ha];simp))
 rw [hg,SV.den] at h0
 rw [hx,SV.den] at h1
 obtain ⟨v1,v2,h0,d1,d2⟩:=h0
 rw [q0v] at d1 d2
 subst d1 d2
 obtain ⟨cp,xs,rest,hl,hcp,hrun⟩:=j1t (P:=P) C.w ps ht hle
 have hw2:Wd C.drew.drew H:=q2o (q2o hw)
 obtain ⟨q1,q2,q3⟩:=q2Y (T:=e) (rest:=rest.map fun b=>Value.int .u8 b.toNat) hw2 (n:=n) (c:=cp) (q3u C.drew.drew.I C.drew.drew.w xs) hl.symm (by omega) (by simp [Ty.size,hl,hcp])
 refine ⟨_,_,_,_,hk xs hl,.inl ?_,q1,((q1W C H).trans (q1W C.drew H)).trans q2,q3⟩
 have hargs:c.args.map e'= #[.int .i64 n]:=by
  rw [←Array.toList_inj];simp [ha,h1]
 simp [execOp,hop,resolve,hc,h0,Deferred.ofValue,invoke,hargs,run_callFunc_extern hf hname hb hn he,hrun,Result.andThen]
 exact ⟨rfl,rfl⟩
theorem j3a [Ghost] {f:FuncId} {x:Operand} {d:Option Tmp} {l:List OpI} {td:List IT} {ps:Array TypeId} {t e:TypeId} {fn:Func} {tm:List SV} {H:List SObj} {n:Nat} (hx:evT tm x= .raw (.int .i64 n))
 (hf:P.funcs[f]?=some fn) (hname:(fn.name== "runtime.NumGoroutine")=false) (hb:fn.body.isNone=true) (hn:Extern.findNext fn=none) (he:Extern.find fn=some (Extern.BytealgMakeNoZero.makeNoZero ps #[t])) (ht:P.underlying t=some (.slice e))
 (hle:n≤140737488355328) (h:∀xs:List UInt8,xs.length=n→SoundI P AQ ⟨k0,.ops l :: td,putT tm d (.bld H.length .u8 n),H++ [.row .u8 xs]⟩):SoundI P AQ ⟨k0,.ops (⟨d,.call (.func f) [x],none⟩ :: l) :: td,tm,H⟩:=q0c (fun td' hr=>by
 obtain ⟨all,idx,r,rfl,ho,hr⟩:=hr
 cases idx with
 |nil=>exact ho.elim
 |cons i idx=>
  obtain ⟨⟨o,ho1,ho2⟩,ho⟩:=ho
  obtain ⟨hc,hd⟩:=q0z ho2
  simp only at hc hd
  obtain ⟨c,hop,hcal,ha⟩:=z3d hc
  refine q5B (k0:=k0) (k:=r) ho1 ((q0n ho2).1 rfl) ?_
  refine j1L hop hcal rfl ha hx hf hname hb hn he ht hle fun xs hl=> ?_
  have hK':=h xs hl
  rw [hd] at hK'
  exact q0e hK' ⟨all,idx,r,rfl,ho,hr⟩) rfl
end Go.Sx
namespace Go.Proofs.YtikapabgggphpaaGreatDoor
open Go Go.Sx Go.Proofs
set_option maxRecDepth 100000
set_option maxHeartbeats 40000000
def modS (key iv:List UInt8):List SV:=[.iptr CipT (cipS key) 0,.isl .u8 iv]
theorem z5Z (l:List UInt8) (hl:l.length≤140737488355328):VC Tryz.prog 63 [.isl .u8 l] [] (RowK .u8 l):=by
 refine z6N ?_
 refine rQ fi63 ?_
 intro b hb
 refine ⟨fun h=>z9I (hb h),fun h=>⟨⟨by omega,by omega⟩,?_⟩⟩
 exact z9r (h:=1) rfl (by omega)
theorem q8G (key iv:List UInt8) (hk:key.length=16) (hi:iv.length=16):PC Tryz.prog 149 [.isl .u8 key,.isl .u8 iv] (.tup [.agg (modS key iv),rI 0]):=by
 have f1:(((iv.length:Nat):Int)=16)=True:=eq_true (by omega)
 have h1:=j4f key hk
 unfold modS
 generalize cipS key=cp at*
 refine q0q rfl rfl ?_
 refine q0G fi149 (q0s mixed 600 _ ?_)
 simp (maxSteps:=3000000) only [ir149,f1,go_sem,↓zA,↓reduceIte,↓reduceDIte] <;>try simp only [zB]
 refine q0a h1 ?_
 refine uQ 600 _ ?_
 with_reducible refine sxE ?_
 refine q0a (q1U iv (by omega)) ?_
 refine uQ 600 _ ?_
 with_reducible refine sxE ?_;trivial
theorem z2d (b:List UInt8) (h1:16≤b.length) (h2:b.length≤131072):PC Tryz.prog 150 [.isl .u8 b] (rI 0):=by
 have f1:(((b.length:Nat):Int) <16)=False:=eq_false (by omega)
 have f2:((131072:Int) < ((b.length:Nat):Int))=False:=eq_false (by omega)
 refine q0q rfl rfl ?_
 refine q0G fi150 (q0s mixed 600 _ ?_)
 simp (maxSteps:=3000000) only [ir150,f1,f2,go_sem,↓zA,↓reduceIte,↓reduceDIte] <;>try simp only [zB]
theorem q6Y (a b:List UInt8) (ha:a.length=16) (hb:b.length=16):PC Tryz.prog 158 [.isl .u8 a,.isl .u8 b] (.isl .u8 (xorS a b)):=by
 refine q0t rfl rfl ?_
 refine rQ fi158 ?_
 refine z3s (z5Z a (by omega)) rfl rfl (fun h=>by rw [h] at ha;cases ha) ?_
 refine uQ 600 _ ?_
 with_reducible refine sxE ?_
 refine q0i (ι:=Nat) (fun i=>[(11,rI i)]) (fun i=>[.row .u8 (gP a (fun j=>a.getD j 0^^^ b.getD j 0) i)]) (fun i=>16-i) (fun i=>i≤16) 0 (Nat.zero_le _) (by rw [q4G _ ha];first|done|rfl) ?_ fun i hi=> ?_
 · with_reducible refine sxE ?_;trivial
 have hwr:=wsx i (by omega)
 have hgl:=q6w a (fun j=>a.getD j 0^^^ b.getD j 0) i
 by_cases hlt:i<16
 · have f1:((i:Int) < ((16:Nat):Int))=True:=eq_true (by omega)
   refine uQ 600 _ ?_
   have hgg:(gP a (fun j=>a.getD j 0^^^ b.getD j 0) i).getD i Ty.u8.dflt=a.getD i 0:=z2F _ _ hlt (Nat.le_refl _)
   have hkk:b.getD i Ty.u8.dflt=b.getD i 0:=rfl
   simp (maxSteps:=3000000) only [f1,hgl,ha,hb,Nat.mul_one,Nat.zero_add,hgg,hkk,xor8,Int.toNat_natCast,UInt8.ofNat_toNat,go_sem,↓zA,↓reduceIte,↓reduceDIte] <;>try simp only [zB]
   refine ⟨⟨by omega,hlt⟩,hlt,⟨by omega,hlt⟩,⟨by omega,hlt⟩,hlt,i+1,hlt,by show 16- (i+1) <16-i;omega,?_,?_⟩
   · dsimp only;rw [←q7A a (fun j=>a.getD j 0^^^ b.getD j 0) hlt]
   with_reducible refine sx1 hwr ?_;trivial
 obtain rfl:i=16:=by omega
 rw [q7M]
 refine uQ 600 _ ?_
 have f1:(((16:Nat):Int) < ((a.length:Nat):Int))=False:=eq_false (by omega)
 simp (maxSteps:=3000000) only [f1,go_sem,↓zA,↓reduceIte,↓reduceDIte] <;>try simp only [zB]
 exact ⟨⟨by rw [ha,q1F];decide,by rw [q1F];decide⟩,List.take_of_length_le (by rw [q1F];omega)⟩
theorem z7c (key iv b:List UInt8) (hk:key.length=16) (hb:b.length=16):PC Tryz.prog 156 [.agg (modS key iv),.raw (.func (.methodOf 184 "Encrypt") #[] #[]),.isl .u8 b] (.isl .u8 (encS (wordsS key) b)):=by
 have h1:=z3N key b hk hb
 unfold modS
 generalize cipS key=cp at*
 refine q0q rfl rfl ?_
 refine q0G fi156 ?_
 refine uQ 10 _ ?_
 with_reducible refine sxE ?_
 refine z2D (cs:=[.iptr CipT cp 0,.isl .u8 iv]) (s:=.iptr CipT cp 0) rfl rfl rfl (show mofP Tryz.prog 184 "Encrypt" =some (168,0) by kernel_rfl) ?_
 refine q0a h1 ?_
 refine uQ 600 _ ?_
 with_reducible refine sxE ?_;trivial
theorem q9o (key iv b:List UInt8) (hk:key.length=16) (hb:b.length=16):PC Tryz.prog 156 [.agg (modS key iv),.raw (.func (.methodOf 184 "Decrypt") #[] #[]),.isl .u8 b] (.isl .u8 (decS (wordsS key) b)):=by
 have h1:=z3t key b hk hb
 unfold modS
 generalize cipS key=cp at*
 refine q0q rfl rfl ?_
 refine q0G fi156 ?_
 refine uQ 10 _ ?_
 with_reducible refine sxE ?_
 refine z2D (cs:=[.iptr CipT cp 0,.isl .u8 iv]) (s:=.iptr CipT cp 0) rfl rfl rfl (show mofP Tryz.prog 184 "Decrypt" =some (157,0) by kernel_rfl) ?_
 refine q0a h1 ?_
 refine uQ 600 _ ?_
 with_reducible refine sxE ?_;trivial
def blkC (p:List UInt8) (i:Nat):List UInt8:=((p.take (16*i+16)).drop (16*i))++List.replicate (16*i+16-p.length) 0
def nblk (n:Nat):Nat:=(n+15) / 16
theorem q3o (p:List UInt8) {i:Nat} (hi:i<nblk p.length):(blkC p i).length=16:=by
 unfold nblk at hi
 unfold blkC
 rw [List.length_append,List.length_drop,List.length_take,List.length_replicate];omega
theorem q2s (p:List UInt8) {i:Nat} (h:16*i+16≤p.length):blkC p i=(p.take (16*i+16)).drop (16*i):=by
 unfold blkC
 rw [show 16*i+16-p.length=0 by omega,List.replicate_zero,List.append_nil]
theorem q6N (p:List UInt8) {i:Nat} (h:p.length<16*i+16) (h':16*i≤p.length):blkC p i=(p.take p.length).drop (16*i)++List.replicate (16- (p.length-16*i)) 0:=by
 unfold blkC
 rw [List.take_of_length_le (Nat.le_of_lt h),List.take_of_length_le (Nat.le_refl _),show 16*i+16-p.length=16- (p.length-16*i) by omega]
abbrev cutF (p:List UInt8):SV:=.fn 169 [] [.iptr (.slice .u8) p 0]
theorem z9Q (p:List UInt8) (hp:p.length≤1125899906842624):PC Tryz.prog 152 [.isl .u8 p] (cutF p):=by
 refine q0q rfl rfl ?_
 refine q0G fi152 ?_
 refine uQ 4 _ ?_
 with_reducible refine sxE ?_
 refine q2f 1 0 (ty:=.slice .u8) (x:=p) rfl ⟨hp,fun _ _=>trivial⟩ rfl rfl ?_
 refine gQ ?_;trivial
def vwC (p:List UInt8):Nat→Nat→List SV→List SObj→Prop:=fun i _ args' new=>args'= [.isl .u8 (blkC p i)]∧new= []
theorem j3O (p:List UInt8) (hp:p.length≤131072):Iter Tryz.prog 169 [] [.iptr (.slice .u8) p 0] (nblk p.length) (vwC p):=by
 refine ⟨by kernel_rfl,fun l B J hJ yg=> ?_⟩
 refine (q1v (yFG hJ) fi169 ?_).2
 letI:Ghost:=topG (yFG hJ) []
 refine uQ 600 _ ?_
 with_reducible refine sxE ?_
 refine q8X [] (fun i=>i) (fun i=>[(3,rI ((16*i:Nat):Int))]) (nblk p.length) (fun _=>True) trivial rfl (by simp) (by simp [SV.bel]) ?_ fun i hi _=> ?_
 · with_reducible refine sxE ?_;trivial
 by_cases hlt:i<nblk p.length
 · have hn:nblk p.length=(p.length+15) / 16:=rfl
   have f1:(((16*i:Nat):Int) < ((p.length:Nat):Int))=True:=eq_true (by omega)
   have e1:IntKind.i64.wrap (((16*i:Nat):Int)+16)=((16*i+16:Nat):Int):=by rw [wrapi (by omega)];omega
   have e3:((16* (i+1):Nat):Int)=((16*i+16:Nat):Int):=by omega
   by_cases hf:16*i+16≤p.length
   · have hb:=q2s p hf
     have hbl:=q3o p hlt
     have e2:mxV false ((16*i+16:Nat):Int) ((p.length:Nat):Int)=((16*i+16:Nat):Int):=by unfold mxV;simp;omega
     have f2:(((blkC p i).length:Int) <16)=False:=eq_false (by omega)
     refine uQ 600 _ ?_
     simp (maxSteps:=3000000) only [f1,f2,e1,e2,←hb,Int.toNat_natCast,go_sem,↓zA,↓reduceIte,↓reduceDIte] <;>try simp only [zB]
     refine ⟨⟨by omega,by omega,by omega,by omega⟩,q1R [] hJ yg hlt (fun n=>⟨_,_,⟨rfl,rfl⟩,q0U rfl⟩) fun c=> ?_⟩
     cases c
     · refine gQ ?_
       exact ⟨_,_,rfl,rfl,by omega⟩
     refine uQ 600 _ ?_
     simp (maxSteps:=3000000) only [e1,go_sem,↓zA,↓reduceIte,↓reduceDIte] <;>try simp only [zB]
     refine ⟨hlt,trivial,⟨[],rfl⟩,?_⟩
     simp (maxSteps:=3000000) only [e3,go_sem,↓zA,↓reduceIte,↓reduceDIte] <;>try simp only [zB]
   have hb:=q6N p (i:=i) (by omega) (by omega)
   have hr:((p.take p.length).drop (16*i)).length=p.length-16*i:=by rw [List.length_drop,List.length_take];omega
   have e2:mxV false ((16*i+16:Nat):Int) ((p.length:Nat):Int)=((p.length:Nat):Int):=by unfold mxV;simp;omega
   generalize hrr:(p.take p.length).drop (16*i)=r at hb hr
   have f2:((r.length:Int) <16)=True:=eq_true (by omega)
   have e4:IntKind.i64.wrap (16- (r.length:Int))=((16- (p.length-16*i):Nat):Int):=by rw [wrapi (by omega)];omega
   have e5:Ty.u8.dflt=(0:UInt8):=rfl
   refine uQ 600 _ ?_
   simp (maxSteps:=3000000) only [f1,f2,e1,e2,e4,e5,hrr,Int.toNat_natCast,←hb,go_sem,↓zA,↓reduceIte,↓reduceDIte] <;>try simp only [zB]
   refine ⟨⟨by omega,by omega,Nat.le_refl _⟩,⟨by omega,by omega,by omega⟩,q1R [] hJ yg hlt (fun n=>⟨_,_,⟨rfl,rfl⟩,q0U rfl⟩) fun c=> ?_⟩
   cases c
   · refine gQ ?_
     exact ⟨_,_,rfl,rfl,by omega⟩
   refine uQ 600 _ ?_
   simp (maxSteps:=3000000) only [e1,go_sem,↓zA,↓reduceIte,↓reduceDIte] <;>try simp only [zB]
   refine ⟨hlt,trivial,⟨[],rfl⟩,?_⟩
   simp (maxSteps:=3000000) only [e3,go_sem,↓zA,↓reduceIte,↓reduceDIte] <;>try simp only [zB]
 obtain rfl:i=nblk p.length:=by omega
 have f1:(((16*nblk p.length:Nat):Int) < ((p.length:Nat):Int))=False:=eq_false (by unfold nblk;omega)
 refine uQ 600 _ ?_
 simp (maxSteps:=3000000) only [f1,go_sem,↓zA,↓reduceIte,↓reduceDIte] <;>try simp only [zB]
 exact ⟨_,_,rfl,rfl,Nat.le_refl _⟩
abbrev ModT:Ty:=.prod (.ptr CipT) (.slice .u8)
abbrev chnF (key iv p:List UInt8):SV:=.fn 166 [] [.iptr (.int .i64) 0 0,.iptr (.clp 169 (.slice .u8)) p 0,.iptr ModT (some (cipS key),iv) 0]
theorem z9B (key iv p:List UInt8) (hk:key.length=16) (hi:iv.length=16) (hp:p.length≤131072):PC Tryz.prog 151 [.isl .u8 key,.isl .u8 iv,cutF p] (chnF key iv p):=by
 have hs:=q8G key iv hk hi
 have hcok:=z9W key hk
 unfold modS at hs
 unfold chnF
 generalize cipS key=cp at*
 refine q0q rfl rfl ?_
 refine q0G fi151 ?_
 refine uQ 600 _ ?_
 with_reducible refine sxE ?_
 refine q0a hs ?_
 refine uQ 9 _ ?_
 with_reducible refine sxE ?_
 refine q2f 5 0 (ty:=.clp 169 (.slice .u8)) (x:=p) rfl ⟨by omega,fun _ _=>trivial⟩ rfl rfl ?_
 refine q2f 7 1 (ty:=ModT) (x:=(some cp,iv)) rfl ⟨fun y h=>by cases h;exact hcok,by show iv.length≤_;omega,fun _ _=>trivial⟩ rfl rfl ?_
 refine q2f 8 2 (ty:=.int .i64) (x:=0) rfl trivial rfl rfl ?_
 refine gQ ?_;trivial
def cpre (key iv p:List UInt8):Nat→List UInt8
 |0=>iv
 |n+1=>encS (wordsS key) (xorS (cpre key iv p n) (blkC p n))
theorem z2u (key iv p:List UInt8) (hi:iv.length=16):∀n,(cpre key iv p n).length=16
 |0=>hi
 |_+1=>q3w _ _
def vwH (key iv p:List UInt8):Nat→Nat→List SV→List SObj→Prop:=fun i _ args' new=>args'= [.isl .u8 (cpre key iv p (i+1))]∧new= []
abbrev yC (l:Nat):SV:=.raw (.func (.yield l) #[] #[])
theorem z4S {l B N:Nat} {J:Nat→(Nat→Prop)→World→(Nat→Prop)→Prop} (hJ:FJ B J) {vw:Nat→Nat→List SV→List SObj→Prop} (yg:YG Tryz.prog l B N J vw) {i:Nat} (hi:i<N) (key iv pv bk:List UInt8) (hk:key.length=16) (hp:pv.length=16) (hb:bk.length=16)
 (hvw:∀n,vw i n [.isl .u8 (encS (wordsS key) (xorS pv bk))] []) (G:List SObj): @VCG (fgG (yFG hJ)) Tryz.prog 167 [.isl .u8 bk,.ptr 3 0,.iptr ModT (some (cipS key),iv) 0,.ptr 2 0,.ptr 1 0]
  (.mark i :: .cells 206 [yC l] :: .cells 22 [.isl .u8 pv] :: .cells 4 [.raw (.bool false)] :: G)
  (fun o H'=>∃b:Bool,o= .ret (.raw (.bool b))∧∃G',H'= .mark (if b then i+1 else N+1+i) :: .cells 206 [yC l] :: .cells 22 [.isl .u8 (encS (wordsS key) (xorS pv bk))] :: .cells 4 [.raw (.bool (!b))] :: (G++G')):=by
 refine q1v (yFG hJ) fi167 ?_
 letI:Ghost:=topG (yFG hJ) []
 have hco:=q6Y pv bk hp hb
 have hap:=z7c key iv (xorS pv bk) hk (q1S _ _)
 have hel:=q3w (wordsS key) (xorS pv bk)
 unfold modS at hap
 generalize cipS key=cp at*
 generalize hy:encS (wordsS key) (xorS pv bk)=y at*
 generalize xorS pv bk=x at*
 have hcl:=q1U y (by omega)
 have f1:(((16:Nat):Int)=16)=True:=eq_true rfl
 refine uQ 17 _ ?_
 simp (maxSteps:=3000000) only [hb,f1,go_sem,↓zA,↓reduceIte,↓reduceDIte] <;>try simp only [zB]
 refine q1P [2] mixed ?_
 refine uQ 600 _ ?_
 with_reducible refine sxE ?_
 refine q0f hco ?_
 refine uQ 600 _ ?_
 with_reducible refine sxE ?_
 refine q0f hap ?_
 refine uQ 3 _ ?_
 with_reducible refine sxE ?_
 refine q1P [1,2] mixed ?_
 refine uQ 600 _ ?_
 with_reducible refine sxE ?_
 refine q0f hcl ?_
 refine uQ 600 _ ?_
 with_reducible refine sxE ?_
 refine z9a (.cells 206 [yC l] :: .cells 22 [.isl .u8 y] :: .cells 4 [.raw (.bool false)] :: G) hJ yg hi (fun n=>⟨_,_,hvw n,q0U rfl⟩) fun b=>⟨fun _=> ?_,?_⟩
 · simp [q1X,q2F]
 cases b
 · refine uQ 600 _ ?_
   with_reducible refine sxE ?_
   exact ⟨[],by rw [List.append_nil]⟩
 refine uQ 600 _ ?_
 with_reducible refine sxE ?_
 exact ⟨[],by rw [List.append_nil]⟩
theorem q8y {P:Program} {AQ:Ex→List SV→List SObj→Prop} {k0:Nat} {td:List IT} {t:List SV} {d:Option Tmp} {g:FG} {f:FuncId} {args:List SV} {H:List SObj} {K:Out→List SObj→Prop} (h: @VCG (fgG g) P f args H K)
 (hk:∀o H',K o H'→∃s,o= .ret s∧ @SoundI (topG g []) P AQ ⟨k0,td,putT t d s,H'⟩): @CallI (topG g []) P AQ f args d ⟨k0,td,t,H⟩:=
 have h':=j3W h
 ⟨h'.1, @VCallG.mono (topG g []) P f args H K _ h'.2 fun o H' hK=>by obtain ⟨s,rfl,hs⟩:=hk o H' hK;exact hs⟩
def chH (l:Nat) (m:Nat) (pv:List UInt8) (b:Bool) (G:List SObj):List SObj:=.mark m :: .cells 206 [yC l] :: .cells 22 [.isl .u8 pv] :: .cells 4 [.raw (.bool b)] :: G
theorem j1v {l B:Nat} {J:Nat→(Nat→Prop)→World→(Nat→Prop)→Prop} (hJ:FJ B J) (key iv p:List UInt8) (hk:key.length=16) (hiv:iv.length=16) (hp:p.length≤131072) (yg:YG Tryz.prog l B (nblk p.length) J (vwH key iv p)):
 @VCG (fgG (yFG hJ)) Tryz.prog 169 [.fn 167 [] [.ptr 3 0,.iptr ModT (some (cipS key),iv) 0,.ptr 2 0,.ptr 1 0],.iptr (.slice .u8) p 0]
  (chH l 0 iv false []) (fun o H'=>o= .ret (.tup [])∧∃m pv b G,nblk p.length≤m∧H'=chH l m pv b G):=by
 refine q1v (yFG hJ) fi169 ?_
 letI:Ghost:=topG (yFG hJ) []
 refine uQ 600 _ ?_
 with_reducible refine sxE ?_
 refine q0i (ι:=Nat×List SObj) (fun s=>[(3,rI ((16*s.1:Nat):Int))]) (fun s=>chH l s.1 (cpre key iv p s.1) false s.2) (fun s=>nblk p.length-s.1) (fun s=>s.1≤nblk p.length) (0,[]) (Nat.zero_le _) rfl ?_ ?_
 · with_reducible refine sxE ?_;trivial
 rintro ⟨i,G⟩ hi
 dsimp only at hi
 have hpl:=z2u key iv p hiv i
 have hn:nblk p.length=(p.length+15) / 16:=rfl
 by_cases hlt:i<nblk p.length
 · have f1:(((16*i:Nat):Int) < ((p.length:Nat):Int))=True:=eq_true (by omega)
   have e1:IntKind.i64.wrap (((16*i:Nat):Int)+16)=((16*i+16:Nat):Int):=by rw [wrapi (by omega)];omega
   have e3:((16* (i+1):Nat):Int)=((16*i+16:Nat):Int):=by omega
   have hbl:=q3o p hlt
   have hst:=z4S hJ yg hlt key iv (cpre key iv p i) (blkC p i) hk hpl hbl (fun n=>⟨rfl,rfl⟩) G
   have hnx:cpre key iv p (i+1)=encS (wordsS key) (xorS (cpre key iv p i) (blkC p i)):=rfl
   rw [←hnx] at hst
   clear hnx
   generalize hc1:cpre key iv p (i+1)=y at hst
   generalize hc0:cpre key iv p i=pv at*
   unfold chH
   by_cases hf:16*i+16≤p.length
   · have hb:=q2s p hf
     have e2:mxV false ((16*i+16:Nat):Int) ((p.length:Nat):Int)=((16*i+16:Nat):Int):=by unfold mxV;simp;omega
     have f2:(((blkC p i).length:Int) <16)=False:=eq_false (by omega)
     refine uQ 600 _ ?_
     simp (maxSteps:=3000000) only [f1,f2,e1,e2,←hb,Int.toNat_natCast,hc0,go_sem,↓zA,↓reduceIte,↓reduceDIte] <;>try simp only [zB]
     refine ⟨⟨by omega,by omega,by omega,by omega⟩,q8y hst fun o H' hK=> ?_⟩
     obtain ⟨b,rfl,G',rfl⟩:=hK
     refine ⟨_,rfl,?_⟩
     cases b
     · simp only [reduceCtorEq,Bool.false_eq_true,if_false,if_true,Bool.not_false,Bool.not_true]
       refine gQ ?_
       exact ⟨_,_,_,_,by omega,rfl⟩
     simp only [reduceCtorEq,Bool.false_eq_true,if_false,if_true,Bool.not_false,Bool.not_true]
     refine uQ 600 _ ?_
     simp (maxSteps:=3000000) only [e1,go_sem,↓zA,↓reduceIte,↓reduceDIte] <;>try simp only [zB]
     refine ⟨(i+1,G++G'),hlt,by dsimp only;omega,?_,?_⟩
     · dsimp only
       rw [hc1]
     simp (maxSteps:=3000000) only [e3,go_sem,↓zA,↓reduceIte,↓reduceDIte] <;>try simp only [zB]
   have hb:=q6N p (i:=i) (by omega) (by omega)
   have hr:((p.take p.length).drop (16*i)).length=p.length-16*i:=by rw [List.length_drop,List.length_take];omega
   have e2:mxV false ((16*i+16:Nat):Int) ((p.length:Nat):Int)=((p.length:Nat):Int):=by unfold mxV;simp;omega
   generalize hrr:(p.take p.length).drop (16*i)=r at hb hr
   have f2:((r.length:Int) <16)=True:=eq_true (by omega)
   have e4:IntKind.i64.wrap (16- (r.length:Int))=((16- (p.length-16*i):Nat):Int):=by rw [wrapi (by omega)];omega
   have e5:Ty.u8.dflt=(0:UInt8):=rfl
   refine uQ 600 _ ?_
   simp (maxSteps:=3000000) only [f1,f2,e1,e2,e4,e5,hrr,Int.toNat_natCast,←hb,hc0,go_sem,↓zA,↓reduceIte,↓reduceDIte] <;>try simp only [zB]
   refine ⟨⟨by omega,by omega,Nat.le_refl _⟩,⟨by omega,by omega,by omega⟩,q8y hst fun o H' hK=> ?_⟩
   obtain ⟨b,rfl,G',rfl⟩:=hK
   refine ⟨_,rfl,?_⟩
   cases b
   · simp only [reduceCtorEq,Bool.false_eq_true,if_false,if_true,Bool.not_false,Bool.not_true]
     refine gQ ?_
     exact ⟨_,_,_,_,by omega,rfl⟩
   simp only [reduceCtorEq,Bool.false_eq_true,if_false,if_true,Bool.not_false,Bool.not_true]
   refine uQ 600 _ ?_
   simp (maxSteps:=3000000) only [e1,go_sem,↓zA,↓reduceIte,↓reduceDIte] <;>try simp only [zB]
   refine ⟨(i+1,G++G'),hlt,by dsimp only;omega,?_,?_⟩
   · dsimp only
     rw [hc1]
   simp (maxSteps:=3000000) only [e3,go_sem,↓zA,↓reduceIte,↓reduceDIte] <;>try simp only [zB]
 obtain rfl:i=nblk p.length:=by omega
 have f1:(((16*nblk p.length:Nat):Int) < ((p.length:Nat):Int))=False:=eq_false (by omega)
 unfold chH
 refine uQ 600 _ ?_
 simp (maxSteps:=3000000) only [f1,go_sem,↓zA,↓reduceIte,↓reduceDIte] <;>try simp only [zB]
 exact ⟨_,_,_,_,Nat.le_refl _,rfl⟩
theorem z8Y (key iv p:List UInt8) (hk:key.length=16) (hiv:iv.length=16) (hp:p.length≤131072):Iter Tryz.prog 166 [] [.iptr (.int .i64) 0 0,.iptr (.clp 169 (.slice .u8)) p 0,.iptr ModT (some (cipS key),iv) 0] (nblk p.length) (vwH key iv p):=by
 refine ⟨by kernel_rfl,fun l B J hJ yg=> ?_⟩
 refine (q1v (yFG hJ) fi166 ?_).2
 letI:Ghost:=topG (yFG hJ) []
 have hcut:=j1v hJ key iv p hk hiv hp yg
 unfold chH at hcut
 refine uQ 600 _ ?_
 with_reducible refine sxE ?_
 refine q8y hcut fun o H' hK=> ?_
 obtain ⟨rfl,m,pv,b,G,hm,rfl⟩:=hK
 refine ⟨_,rfl,?_⟩
 refine uQ 600 _ ?_
 with_reducible refine sxE ?_
 exact ⟨_,_,rfl,rfl,hm⟩
def swpS (bs:List (List UInt8)):List (List UInt8):=(bs.set (bs.length-2) (bs.getD (bs.length-1) [])).set (bs.length-1) (bs.getD (bs.length-2) [])
def exgS (bs:List (List UInt8)):List (List UInt8):=if 1<bs.length then swpS bs else bs
theorem j3P (bs:List (List UInt8)) (hl:bs.length≤1000000):PE Tryz.prog 153 [.ptr 0 0] [.cells 97 [.bld 1 (.slice .u8) bs.length],.row (.slice .u8) bs] (.ret (.tup [])) [.cells 97 [.bld 1 (.slice .u8) bs.length],.row (.slice .u8) (exgS bs)]:=by
 refine q0d (Nat.le_refl _) ?_
 refine q0G fi153 ?_
 by_cases h:1<bs.length
 · have f1:((1:Int) < ((bs.length:Nat):Int))=True:=eq_true (by omega)
   have e1:IntKind.i64.wrap (((bs.length:Nat):Int) -1)=((bs.length-1:Nat):Int):=by rw [wrapi (by omega)];omega
   have e2:IntKind.i64.wrap (((bs.length:Nat):Int) -2)=((bs.length-2:Nat):Int):=by rw [wrapi (by omega)];omega
   refine uQ 12 _ ?_
   simp (maxSteps:=3000000) only [f1,go_sem,↓zA,↓reduceIte,↓reduceDIte] <;>try simp only [zB]
   refine q1P [1,999999,0] mixed ?_
   refine uQ 600 _ ?_
   simp (maxSteps:=3000000) only [e1,e2,go_sem,↓zA,↓reduceIte,↓reduceDIte] <;>try simp only [zB]
   refine ⟨⟨by omega,by omega⟩,by omega,⟨by omega,by omega⟩,by omega,⟨by omega,by omega⟩,by omega,⟨by omega,by omega⟩,by rw [List.length_set];omega,?_⟩
   unfold exgS swpS
   rw [if_pos h]
   simp only [Nat.zero_add]
   first|done|rfl
 have f1:((1:Int) < ((bs.length:Nat):Int))=False:=eq_false (by omega)
 have he:exgS bs=bs:=if_neg h
 rw [he]
 refine uQ 600 _ ?_
 simp (maxSteps:=3000000) only [f1,go_sem,↓zA,↓reduceIte,↓reduceDIte] <;>try simp only [zB]
end Go.Proofs.YtikapabgggphpaaGreatDoor
namespace Go.Proofs.YtikapabgggphpaaGreatDoor
open Go Go.Sx Go.Proofs
set_option maxRecDepth 100000
theorem z5o (a b:List UInt8):xorS a b=xorS b a:=by
 unfold xorS
 exact q2g fun j _=>UInt8.xor_comm _ _
theorem z4m (n:Nat):n+zpN n=16*nblk n:=by unfold zpN nblk;omega
theorem j0P (p:List UInt8) {i:Nat} (hi:i<nblk p.length):blkC p i=((zpL p (zpN p.length)).take (16*i+16)).drop (16*i):=by
 have hz:=z4m p.length
 have hn:nblk p.length=(p.length+15) / 16:=rfl
 unfold zpL
 by_cases h:16*i+16≤p.length
 · rw [q2s p h,List.take_append_of_le_length h]
 rw [q6N p (by omega) (by omega),List.take_append,List.take_of_length_le (show p.length≤16*i+16 by omega),List.take_of_length_le (Nat.le_refl p.length),List.drop_append_of_le_length (by omega),List.take_replicate,
  show min (16*i+16-p.length) (zpN p.length)=16- (p.length-16*i) by omega]
def cbl (key iv p:List UInt8) (n:Nat):List (List UInt8):=(List.range n).map fun i=>cpre key iv p (i+1)
theorem z2v (key iv p:List UInt8):∀n,n≤nblk p.length→chA (wordsS key) iv (zpL p (zpN p.length)) n=(cpre key iv p n,(cbl key iv p n).flatten)
 |0,_=>rfl
 |n+1,h=>by
  have hb:=j0P p (i:=n) (by omega)
  have he:encS (wordsS key) (xorS (((zpL p (zpN p.length)).take (16*n+16)).drop (16*n)) (cpre key iv p n))=cpre key iv p (n+1):=by
   rw [←hb,z5o];rfl
  rw [chA,z2v key iv p n (by omega)]
  dsimp only
  rw [he]
  unfold cbl
  rw [List.range_succ,List.map_append,List.flatten_append]
  simp
theorem z3D (key iv p:List UInt8):chainS key iv (zpL p (zpN p.length))=(cbl key iv p (nblk p.length)).flatten:=by
 unfold chainS
 rw [z0Z,z4m,Nat.mul_div_cancel_left _ (by decide),z2v key iv p _ (Nat.le_refl _)]
theorem flat16:∀ (bs:List (List UInt8)),(∀b∈bs,b.length=16)→bs.flatten.length=16*bs.length
 | [],_=>rfl
 |b :: bs,h=>by
  rw [List.flatten_cons,List.length_append,flat16 bs (fun x hx=>h x (List.mem_cons_of_mem _ hx)),h b List.mem_cons_self,List.length_cons];omega
theorem j1j (l:List (List UInt8)) (x y:List UInt8):swpS (l++ [x,y])=l++ [y,x]:=by
 unfold swpS
 have h1:(l++ [x,y]).length=l.length+2:=by simp
 rw [h1,show l.length+2-2=l.length by omega,show l.length+2-1=l.length+1 by omega]
 have g1:(l++ [x,y]).getD (l.length+1) []=y:=by simp [List.getD_eq_getElem?_getD]
 have g0:(l++ [x,y]).getD l.length []=x:=by simp [List.getD_eq_getElem?_getD]
 rw [g1,g0]
 simp [List.set_append]
theorem z7M (bs:List (List UInt8)) (h:∀b∈bs,b.length=16) (h2:2≤bs.length):(exgS bs).flatten=exchS bs.flatten:=by
 obtain ⟨l,x,y,rfl⟩:∃l x y,bs=l++ [x,y]:=by
  refine ⟨bs.take (bs.length-2),bs[bs.length-2],bs[bs.length-1],?_⟩
  apply List.ext_getElem
  · simp;omega
  intro j h1 h2
  simp only [List.getElem_append,List.length_take]
  split
  · simp
  rename_i hj
  have:j=bs.length-2∨j=bs.length-1:=by omega
  rcases this with rfl|rfl
  · simp [show min (bs.length-2) bs.length=bs.length-2 by omega]
  simp [show min (bs.length-2) bs.length=bs.length-2 by omega,show bs.length-1- (bs.length-2)=1 by omega]
 have hx:x.length=16:=h x (by simp)
 have hy:y.length=16:=h y (by simp)
 have hl:=flat16 l fun b hb=>h b (by simp [hb])
 unfold exgS
 rw [if_pos (by simp),j1j]
 have e1:(l++ [x,y]).flatten=l.flatten++(x++y):=by simp
 have e2:(l++ [y,x]).flatten=l.flatten++(y++x):=by simp
 rw [e1,e2]
 unfold exchS
 have hlen:(l.flatten++(x++y)).length=l.flatten.length+32:=by simp [hx,hy]
 rw [hlen,show l.flatten.length+32-32=l.flatten.length by omega,show l.flatten.length+32-16=l.flatten.length+16 by omega]
 have t1:(l.flatten++(x++y)).take l.flatten.length=l.flatten:=List.take_left ..
 have t2:(l.flatten++(x++y)).drop (l.flatten.length+16)=y:=by
  rw [←List.append_assoc,List.drop_append_of_le_length (by simp [hx])]
  simp [hx]
 have t3:((l.flatten++(x++y)).take (l.flatten.length+16)).drop l.flatten.length=x:=by
  rw [←List.append_assoc,List.take_append_of_le_length (by simp [hx]),List.take_of_length_le (by simp [hx])]
  simp
 rw [t1,t2,t3,List.append_assoc]
theorem z5g (key iv p:List UInt8) (hiv:iv.length=16) (h1:16≤p.length):(exgS (cbl key iv p (nblk p.length))).flatten.take p.length=ctsE key iv p:=by
 have hb:∀b∈cbl key iv p (nblk p.length),b.length=16:=by
  intro b hb
  unfold cbl at hb
  obtain ⟨i,_,rfl⟩:=List.mem_map.1 hb
  exact q3w _ _
 have hl:(cbl key iv p (nblk p.length)).length=nblk p.length:=by simp [cbl]
 have hn:nblk p.length=(p.length+15) / 16:=rfl
 have hf:=flat16 _ hb
 unfold ctsE
 rw [z3D]
 dsimp only
 by_cases h2:2≤nblk p.length
 · rw [if_neg (by omega),z7M _ hb (by omega)]
 have h3:p.length=16:=by omega
 have he:exgS (cbl key iv p (nblk p.length))=cbl key iv p (nblk p.length):=if_neg (by omega)
 rw [if_pos (by omega),he,List.take_of_length_le (by omega)]
end Go.Proofs.YtikapabgggphpaaGreatDoor
namespace Go.Proofs.YtikapabgggphpaaGreatDoor
open Go Go.Sx Go.Proofs
set_option maxRecDepth 100000
set_option maxHeartbeats 40000000
def flN (bs:List (List UInt8)) (i:Nat):Nat:=(bs.take i).flatten.length
theorem z7G (bs:List (List UInt8)) {i:Nat} (h:i<bs.length):flN bs (i+1)=flN bs i+ (bs.getD i []).length:=by
 unfold flN
 rw [List.take_add_one,List.getElem?_eq_getElem h,List.flatten_append,List.length_append,List.getD_eq_getElem?_getD,List.getElem?_eq_getElem h]
 simp
theorem j4e (bs:List (List UInt8)) (i:Nat):flN bs i≤bs.flatten.length:=by
 unfold flN
 conv=>rhs;rw [←List.take_append_drop i bs,List.flatten_append,List.length_append]
 omega
theorem j3H (bs:List (List UInt8)) (h2:2≤bs.length) (h16:∀b∈bs,b.length=16) (hl:bs.length≤1000000) (hf:bs.flatten.length≤1000000):PC Tryz.prog 154 [.isl (.slice .u8) bs,.raw (.slice none 0 0)] (.isl .u8 bs.flatten):=by
 have f1:(((bs.length:Nat):Int)=0)=False:=eq_false (by omega)
 have f2:(((bs.length:Nat):Int)=1)=False:=eq_false (by omega)
 refine q0t rfl rfl ?_
 refine q0G fi154 ?_
 refine uQ 600 _ ?_
 simp (maxSteps:=3000000) only [f1,f2,go_sem,↓zA,↓reduceIte,↓reduceDIte] <;>try simp only [zB]
 refine q0i (ι:=Nat) (fun i=>[(5,rI (flN bs i)),(44,rI i)]) (fun _=>[]) (fun i=>bs.length-i) (fun i=>i≤bs.length) 0 (Nat.zero_le _) rfl ?_ fun i hi=> ?_
 · with_reducible refine sxE ?_
   rfl
 have hwr:=wsx i (by omega)
 by_cases hlt:i<bs.length
 · have g1:((i:Int) < ((bs.length:Nat):Int))=True:=eq_true (by omega)
   have hs:=z7G bs hlt
   have hle:=j4e bs (i+1)
   have e1:IntKind.i64.wrap (9223372036854775807- ((flN bs i:Nat):Int))=((9223372036854775807-flN bs i:Nat):Int):=by rw [wrapi (by omega)];omega
   have e2:IntKind.i64.wrap (((flN bs i:Nat):Int)+ (((bs.getD i []).length:Nat):Int))=((flN bs (i+1):Nat):Int):=by rw [wrapi (by omega)];omega
   have g2:(((9223372036854775807-flN bs i:Nat):Int) < (((bs.getD i []).length:Nat):Int))=False:=eq_false (by omega)
   have e5:(Ty.slice .u8).dflt=([]:List UInt8):=rfl
   refine uQ 600 _ ?_
   simp (maxSteps:=3000000) only [g1,e5,e1,e2,g2,Nat.zero_add,Int.toNat_natCast,go_sem,↓zA,↓reduceIte,↓reduceDIte] <;>try simp only [zB]
   refine ⟨⟨by omega,hlt⟩,i+1,hlt,by dsimp only;omega,rfl,?_⟩
   with_reducible refine sx1 hwr ?_;trivial
 obtain rfl:i=bs.length:=by omega
 have g1:(((bs.length:Nat):Int) < ((bs.length:Nat):Int))=False:=eq_false (by omega)
 have hfl:flN bs bs.length=bs.flatten.length:=by unfold flN;rw [List.take_length]
 refine uQ 10 _ ?_
 simp (maxSteps:=3000000) only [g1,hfl,go_sem,↓zA,↓reduceIte,↓reduceDIte] <;>try simp only [zB]
 have hso:(Tryz.prog.funcs[(170:Nat)]?).isSome=true:=by kernel_rfl
 refine j3a (fn:=Option.get _ hso) (ps:= #[3]) (t:=22) (e:=5) (n:=bs.flatten.length) rfl (Option.some_get hso).symm (by kernel_rfl) (by kernel_rfl) (by kernel_rfl) (by kernel_rfl) (by kernel_rfl) (by omega) fun xs hxs=> ?_
 obtain ⟨b0,r,rfl⟩:∃b0 r,bs=b0 :: r:=by
  cases bs with
  |nil=>simp at h2
  |cons b r=>exact ⟨b,r,rfl⟩
 have e0:((b0 :: r).getD 0 ([]:List UInt8))=b0:=rfl
 have e5:(Ty.slice .u8).dflt=([]:List UInt8):=rfl
 have hbl:b0.length≤(b0 :: r).flatten.length:=by simp
 have hmn:min b0.length ((b0 :: r).flatten.length-0)=b0.length:=by omega
 refine uQ 600 _ ?_
 simp (maxSteps:=3000000) only [e5,e0,hmn,hxs,List.take_length,Nat.zero_add,go_sem,↓zA,↓reduceIte,↓reduceDIte] <;>try simp only [zB]
 have hb0:b0.length=16:=h16 b0 List.mem_cons_self
 refine ⟨⟨by omega,Nat.le_refl _⟩,by omega,⟨⟨hbl,by omega⟩,by omega⟩,⟨by omega,Nat.le_refl _⟩,?_⟩
 have hfa:=flat16 (b0 :: r) h16
 have hfn:∀i,i≤(b0 :: r).length→flN (b0 :: r) i=16*i:=fun i hi=>by
  unfold flN
  rw [flat16 _ fun b hb=>h16 b (List.mem_of_mem_take hb),List.length_take,Nat.min_eq_left hi]
 refine q0i (ι:=Nat) (fun i=>[(9,rI ((16* (i+1):Nat):Int)),(72,rI i)]) (fun i=>[.row .u8 (((b0 :: r).take (i+1)).flatten++xs.drop (16* (i+1)))]) (fun i=>r.length-i) (fun i=>i≤r.length) 0 (Nat.zero_le _) ?_ ?_ fun i hi=> ?_
 · have e6:(List.take (0+1) (b0 :: r)).flatten=b0:=by simp
   rw [e6]
   rw [hb0]
 · with_reducible refine sx1 hb0 ?_;trivial
 have hrl:r.length+1≤1000000:=by simpa using hl
 have hwr:=wsx i (by omega)
 by_cases hlt:i<r.length
 · have k1:((i:Int) < ((r.length:Nat):Int))=True:=eq_true (by omega)
   have k2:(r.getD i ([]:List UInt8)).length=16:=h16 _ (List.mem_cons_of_mem _ (by rw [List.getD_eq_getElem?_getD,List.getElem?_eq_getElem hlt];exact List.getElem_mem _))
   have k3:(((b0 :: r).take (i+1)).flatten).length=16* (i+1):=hfn (i+1) (by simp;omega)
   have k4:((((b0 :: r).take (i+1)).flatten++xs.drop (16* (i+1))).length)=16* (r.length+1):=by
    rw [List.length_append,k3,List.length_drop,hxs,hfa,List.length_cons];omega
   change (b0 :: List.take i r).flatten.length=_ at k3
   change ((b0 :: List.take i r).flatten++xs.drop (16* (i+1))).length=_ at k4
   have q1:IntKind.i64.wrap (((16* (i+1):Nat):Int)+0)=((16* (i+1):Nat):Int):=by rw [Int.add_zero,wrapi (by omega)]
   have q3:min 16 ((b0 :: r).flatten.length-0-16* (i+1))=16:=by rw [hfa,List.length_cons];omega
   have q4:IntKind.i64.wrap (((16* (i+1):Nat):Int)+16)=((16* (i+1+1):Nat):Int):=by rw [wrapi (by omega)];omega
   have q5:List.take 16 (r.getD i ([]:List UInt8))=r.getD i []:=List.take_of_length_le (by omega)
   have hfl2:(b0 :: r).flatten.length=16* (r.length+1):=by rw [hfa,List.length_cons]
   have q6:List.take (0+16* (i+1)) ((b0 :: List.take i r).flatten++List.drop (16* (i+1)) xs)++List.drop (0+16* (i+1)+0) ((b0 :: List.take i r).flatten++List.drop (16* (i+1)) xs)=(b0 :: List.take i r).flatten++List.drop (16* (i+1)) xs:=by
    simp only [Nat.zero_add,Nat.add_zero,List.take_append_drop]
   refine uQ 600 _ ?_
   simp (maxSteps:=3000000) only [k1,e5,k2,Nat.zero_min,q1,Int.toNat_natCast,q3,q4,q5,q6,k4,List.append_nil,go_sem,↓zA,↓reduceIte,↓reduceDIte] <;>try simp only [zB]
   rw [hfl2]
   refine ⟨⟨by omega,hlt⟩,⟨by omega,by omega,Nat.le_refl _⟩,⟨⟨by omega,by omega⟩,by omega⟩,⟨by omega,by omega,Nat.le_refl _⟩,⟨⟨by omega,by omega⟩,by omega⟩,i+1,hlt,by dsimp only;omega,?_,?_⟩
   · have e7:(b0 :: List.take (i+1) r).flatten=(b0 :: List.take i r).flatten++r.getD i []:=by
      rw [List.flatten_cons,List.flatten_cons,q2Z hlt,List.append_assoc]
     dsimp only
     rw [e7]
     generalize (b0 :: List.take i r).flatten=A at*
     generalize r.getD i []=y at*
     rw [Nat.zero_add,List.take_left' k3,←List.drop_drop,List.drop_left' k3,List.drop_drop,show 16* (i+1)+16=16* (i+1+1) by omega]
   with_reducible refine sx1 hwr ?_
   exact congrArg (Value.int IntKind.i64) q4
 obtain rfl:i=r.length:=by omega
 have k1:(((r.length:Nat):Int) < ((r.length:Nat):Int))=False:=eq_false (by omega)
 refine uQ 600 _ ?_
 simp (maxSteps:=3000000) only [k1,go_sem,↓zA,↓reduceIte,↓reduceDIte] <;>try simp only [zB]
 have e8:List.drop (16* (r.length+1)) xs= []:=List.drop_of_length_le (by rw [hxs,hfa,List.length_cons];omega)
 rw [e8,List.append_nil,List.take_length,Nat.sub_zero,List.take_length]
 exact ⟨⟨by omega,by omega⟩,rfl⟩
def whN (n:Nat):Nat:=(n+15) / 16*16
def unexS (w c:List UInt8):List UInt8:=
 let f:=(c.take (whN c.length-16)).drop (whN c.length-32)
 let k:=c.drop (whN c.length-16)
 c.take (whN c.length-32)++(k++(decS w f).drop k.length)++f
def dchA (w iv ch:List UInt8):Nat→List UInt8×List UInt8
 |0=>(iv,[])
 |n+1=>((ch.take (16*n+16)).drop (16*n),(dchA w iv ch n).2++xorS (decS w ((ch.take (16*n+16)).drop (16*n))) (dchA w iv ch n).1)
def unchS (w iv ch:List UInt8):List UInt8:=(dchA w iv ch (ch.length / 16)).2
def ctsD (key iv c:List UInt8):List UInt8:=
 if c.length=16 then xorS (decS (wordsS key) c) iv else (unchS (wordsS key) iv (unexS (wordsS key) c)).take c.length
theorem z8y (w iv ch:List UInt8) (hi:iv.length=16) (n:Nat) (hn:16*n≤ch.length):(dchA w iv ch n).1.length=16∧(dchA w iv ch n).2.length=16*n:=by
 induction n with
 |zero=>exact ⟨hi,rfl⟩
 |succ n ih=>
  refine ⟨?_,?_⟩
  · rw [dchA];simp only [List.length_drop,List.length_take];omega
  rw [dchA];simp only [List.length_append,(ih (by omega)).2,q1S];omega
theorem z4T (w c:List UInt8) (hc:16<c.length):(unexS w c).length=whN c.length:=by
 unfold unexS
 simp only [List.length_append,List.length_take,List.length_drop,q4r]
 unfold whN
 omega
theorem z5w (c:List UInt8) (h:32≤c.length):(exchS c).length=c.length:=by
 unfold exchS
 simp only [List.length_append,List.length_take,List.length_drop]
 omega
theorem z1P (key iv p:List UInt8) (hi:iv.length=16) (h1:16≤p.length):(ctsE key iv p).length=p.length:=by
 have hc:=q4Z key iv (zpL p (zpN p.length)) hi
 rw [z0Z] at hc
 have hz:zpN p.length=(16-p.length%16)%16:=rfl
 unfold ctsE
 simp only
 split
 · omega
 rw [List.length_take,z5w _ (by omega)]
 omega
theorem z5F (w iv ch:List UInt8) (hi:iv.length=16):(unchS w iv ch).length=16* (ch.length / 16):=(z8y w iv ch hi _ (by omega)).2
theorem q8D (key iv c:List UInt8) (hi:iv.length=16) (h1:16≤c.length):(ctsD key iv c).length=c.length:=by
 unfold ctsD
 split
 · rw [q1S];omega
 rw [List.length_take,z5F _ _ _ hi,z4T _ _ (by omega)]
 unfold whN
 omega
theorem j1z:z16.length=16:=rfl
def ciS (k:Key) (u:Nat) (conf plain:List UInt8):List UInt8:=if k.1=1 then ctsE (dkS k u 170) z16 (conf++plain) else conf++ksS (dkS k u 170) conf plain
def unS (k:Key) (u:Nat) (c:List UInt8):List UInt8:=if k.1=1 then (ctsD (dkS k u 170) z16 c).drop 16 else ksS (dkS k u 170) (c.take 16) (c.drop 16)
def seS (k:Key) (u:Nat) (conf plain:List UInt8):List UInt8:=ciS k u conf plain++tg9S k u (ciS k u conf plain)
def opS (k:Key) (u:Nat) (sp sv:Int) (sb:List UInt8):List UInt8×Int:=
 if uOk k u=true then
  if sp=k.1∧(sv=k.2.1∨sv=0∨k.2.1=0) then
   if sb.length<16+k.2.2.length then ([],4)
   else if 65552+k.2.2.length<sb.length then ([],5)
   else if tg9S k u (sb.take (sb.length-k.2.2.length))=sb.drop (sb.length-k.2.2.length) then (unS k u (sb.take (sb.length-k.2.2.length)),0)
   else ([],10)
  else ([],9)
 else ([],2)
theorem q2z {k:Key} {u:Nat} (h:uOk k u=true):vKey k=true∧u≤1023∧((k.2.2.length:Nat):Int)=keyLen k.1∧k.2.2.length≤32∧(k.1=1→k.2.2.length=16)∧(k.1≠1→k.1=2∧k.2.2.length=32):=by
 unfold uOk at h
 simp only [Bool.and_eq_true,decide_eq_true_eq] at h
 have hv:=h.1
 unfold vKey at hv;simp only [Bool.and_eq_true,decide_eq_true_eq] at hv
 have h1:=hv.2.1
 have h2:=hv.1
 refine ⟨h.1,by omega,h1,?_⟩
 unfold keyLen at h1 h2
 split at h1
 · rename_i hp
   exact ⟨by omega,fun _=>by omega,fun hn=>absurd hp hn⟩
 rename_i hp
 split at h1
 · rename_i hp2
   exact ⟨by omega,fun hn=>absurd hn hp,fun _=>⟨hp2,by omega⟩⟩
 rename_i hp2
 rw [if_neg hp,if_neg hp2] at h2
 exact absurd rfl h2
end Go.Proofs.YtikapabgggphpaaGreatDoor
