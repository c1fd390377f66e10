/- The plain law of reading: parsers over bytes, and what they make of encodings. -/
import Derived.Test.YtikapabgggphpaaGreatDoorP27
import Derived.Test.YtikapabgggphpaaGreatDoorP13
import Derived.Test.YtikapabgggphpaaGreatDoorP23
set_option linter.all false
namespace Go.Proofs.YtikapabgggphpaaGreatDoor
open Go Go.Sx Go.Proofs
set_option maxRecDepth 100000
set_option maxHeartbeats 4000000
theorem q1c (n:Nat):(byteOf (n:Int)).toNat=n%256:=by
 have h:=q4Q (n:Int)
 have:IntKind.u8.wrap (n:Int)=((n%256:Nat):Int):=by simp [IntKind.wrap,IntKind.bits,IntKind.signed]
 rw [this] at h
 unfold byteOf
 rw [this]
 exact_mod_cast h
theorem beN1 (a:UInt8):beN [a]=a.toNat:=by simp [beN]
theorem beN2 (a b:UInt8):beN [a,b]=a.toNat*256+b.toNat:=by simp [beN]
theorem beN3 (a b c:UInt8):beN [a,b,c]=(a.toNat*256+b.toNat)*256+c.toNat:=by simp [beN]
theorem z2Y (n k:Nat):(n:Int).fdiv (k:Int)=((n / k:Nat):Int):=by rw [Int.fdiv_eq_ediv_of_nonneg _ (by omega)];rfl
theorem q8R (t:UInt8) (c r:List UInt8) (h:c.length≤16777215):meas (tlv t c++r)=(1+ (lenS c.length).length,1+ (lenS c.length).length+c.length,0):=by
 have e1:((c.length:Nat):Int).fdiv 256=((c.length / 256:Nat):Int):=z2Y _ 256
 have e2:((c.length:Nat):Int).fdiv 65536=((c.length / 65536:Nat):Int):=z2Y _ 65536
 unfold tlv
 rcases Nat.lt_or_ge c.length 128 with h1|h1
 · have hL:lenS c.length= [byteOf c.length]:=by unfold lenS;rw [if_pos h1]
   have hb:(byteOf (c.length:Int)).toNat=c.length:=by rw [q1c];omega
   rw [hL]
   unfold meas measE
   simp only [List.cons_append,List.nil_append,List.length_cons,List.length_append,List.getD_cons_succ,List.getD_cons_zero,hb,List.length_nil]
   rw [if_neg (by omega),if_pos h1,if_neg (by omega)]
 rcases Nat.lt_or_ge c.length 256 with h2|h2
 · have hL:lenS c.length= [129,byteOf c.length]:=by unfold lenS;rw [if_neg (by omega),if_pos h2]
   have hb:(byteOf (c.length:Int)).toNat=c.length:=by rw [q1c];omega
   have h129:(129:UInt8).toNat=129:=rfl
   rw [hL]
   unfold meas measE
   simp only [List.cons_append,List.nil_append,List.length_cons,List.length_append,List.getD_cons_succ,List.getD_cons_zero,h129,List.length_nil,List.drop_succ_cons,List.drop_zero,Nat.reduceSub,List.take_succ_cons,List.take_zero,beN1,hb,minLen]
   rw [if_neg (by omega),if_neg (by omega),if_neg (by omega),if_neg (by omega),if_neg (by omega),if_neg (by omega)]
 rcases Nat.lt_or_ge c.length 65536 with h3|h3
 · have hL:lenS c.length= [130,byteOf ((c.length:Int).fdiv 256),byteOf c.length]:=by unfold lenS;rw [if_neg (by omega),if_neg (by omega),if_pos h3]
   have hb:(byteOf (c.length:Int)).toNat=c.length%256:=q1c _
   have hb2:(byteOf ((c.length:Int).fdiv 256)).toNat=c.length / 256:=by rw [e1,q1c];omega
   have h130:(130:UInt8).toNat=130:=rfl
   have hv:c.length / 256*256+c.length%256=c.length:=by omega
   rw [hL]
   unfold meas measE
   simp only [List.cons_append,List.nil_append,List.length_cons,List.length_append,List.getD_cons_succ,List.getD_cons_zero,h130,List.length_nil,List.drop_succ_cons,List.drop_zero,Nat.reduceSub,List.take_succ_cons,List.take_zero,beN2,hb,hb2,hv,minLen]
   rw [if_neg (by omega),if_neg (by omega),if_neg (by omega),if_neg (by omega),if_neg (by omega),if_neg (by omega)]
 have hL:lenS c.length= [131,byteOf ((c.length:Int).fdiv 65536),byteOf ((c.length:Int).fdiv 256),byteOf c.length]:=by unfold lenS;rw [if_neg (by omega),if_neg (by omega),if_neg (by omega)]
 have hb:(byteOf (c.length:Int)).toNat=c.length%256:=q1c _
 have hb2:(byteOf ((c.length:Int).fdiv 256)).toNat=c.length / 256%256:=by rw [e1,q1c]
 have hb3:(byteOf ((c.length:Int).fdiv 65536)).toNat=c.length / 65536:=by rw [e2,q1c];omega
 have h131:(131:UInt8).toNat=131:=rfl
 have hv:(c.length / 65536*256+c.length / 256%256)*256+c.length%256=c.length:=by omega
 rw [hL]
 unfold meas measE
 simp only [List.cons_append,List.nil_append,List.length_cons,List.length_append,List.getD_cons_succ,List.getD_cons_zero,h131,List.length_nil,List.drop_succ_cons,List.drop_zero,Nat.reduceSub,List.take_succ_cons,List.take_zero,beN3,hb,hb2,hb3,hv,minLen]
 rw [if_neg (by omega),if_neg (by omega),if_neg (by omega),if_neg (by omega),if_neg (by omega),if_neg (by omega)]

def takeE (tag:UInt8) (r:List UInt8):Nat:=if r.length=0 then 4 else if r.getD 0 0≠tag then 6 else (meas r).2.2
def takeC (r:List UInt8):List UInt8:=(r.take (meas r).2.1).drop (meas r).1
def takeN (r:List UInt8):Nat:=(meas r).2.1
theorem q1K (t:UInt8) (c:List UInt8):(tlv t c).length=1+ (lenS c.length).length+c.length:=by simp [tlv];omega
theorem q4n (t:UInt8) (c r:List UInt8) (h:c.length≤16777215):takeE t (tlv t c++r)=0:=by
 unfold takeE
 rw [q8R t c r h,if_neg (by simp [tlv]),if_neg (by simp [tlv])]
theorem q4z (t:UInt8) (c r:List UInt8) (h:c.length≤16777215):takeC (tlv t c++r)=c:=by
 unfold takeC
 rw [q8R t c r h,List.take_append_of_le_length (by rw [q1K];exact Nat.le_refl _),List.take_of_length_le (by rw [q1K];exact Nat.le_refl _)]
 have:tlv t c=(t :: lenS c.length)++c:=rfl
 rw [this,List.drop_append_of_le_length (by simp;omega),List.drop_of_length_le (by simp;omega),List.nil_append]
theorem q4f (t:UInt8) (c r:List UInt8) (h:c.length≤16777215):takeN (tlv t c++r)=(tlv t c).length:=by
 unfold takeN
 rw [q8R t c r h,q1K]
theorem z4q {r:List UInt8} (h:(meas r).2.2=0):2≤(meas r).1∧(meas r).1≤(meas r).2.1∧(meas r).2.1≤r.length:=by
 have key:∀a n,(measE r a n).2.2=0→2≤a→a≤r.length→2≤(measE r a n).1∧(measE r a n).1≤(measE r a n).2.1∧(measE r a n).2.1≤r.length:=by
  intro a n h1 h2 h3
  unfold measE at h1⊢
  split at h1
  · cases h1
  rename_i hh;rw [if_neg hh];simp only;omega
 unfold meas at h⊢
 repeat' split at h
 all_goals first| (cases h;done) |skip
 · rename_i g1 g2;rw [if_neg g1,if_pos g2];exact key _ _ h (by omega) (by omega)
 rename_i g1 g2 g3 g4 g5;rw [if_neg g1,if_neg g2,if_neg g3,if_neg g4,if_neg g5];exact key _ _ h (by omega) (by omega)
theorem z7L {t:UInt8} {r:List UInt8} (h:takeE t r=0):(meas r).2.2=0:=by
 unfold takeE at h
 split at h
 · cases h
 split at h
 · cases h
 exact h
theorem q4B {t:UInt8} {r:List UInt8} (h:takeE t r=0):takeN r≤r.length:=(z4q (z7L h)).2.2
theorem q4h (r:List UInt8):(takeC r).length≤r.length:=by unfold takeC;rw [List.length_drop,List.length_take];omega

abbrev PR (α:Type):=List UInt8→Except Nat (α×Nat)
def rdP {α:Type} (tag:UInt8) (dec:List UInt8→Option α):PR α:=fun r=>
 if takeE tag r=0 then match dec (takeC r) with
  |some v=>.ok (v,takeN r)
  |none=>.error 6
 else .error (takeE tag r)
def allP {α:Type} (p:PR α) (c:List UInt8):Except Nat α:=match p c with
 |.error e=>.error e
 |.ok (v,m)=>if m<c.length then .error 6 else .ok v
def inP {α:Type} (tag:UInt8) (p:PR α):PR α:=fun r=>
 if takeE tag r=0 then match allP p (takeC r) with
  |.ok v=>.ok (v,takeN r)
  |.error e=>.error e
 else .error (takeE tag r)
def tagB (n:Nat):UInt8:=byteOf (160+n)
def nextB (n:Nat) (r:List UInt8):Bool:=decide (r.length≠0) && decide (r.getD 0 0=tagB n)
def needP {α:Type} (n:Nat) (p:PR α):PR α:=fun r=>
 if nextB n r then inP (tagB n) p r else .error (if r.length=0 then 4 else 6)
def bindP {α β:Type} (p:PR α) (f:α→PR β):PR β:=fun r=>match p r with
 |.error e=>.error e
 |.ok (v,k)=>match f v (r.drop k) with
  |.error e=>.error e
  |.ok (u,m)=>.ok (u,k+m)
def retP {α:Type} (v:α):PR α:=fun _=>.ok (v,0)
theorem z1t {α:Type} {t:UInt8} {dec:List UInt8→Option α} {c:List UInt8} {v:α} (h:c.length≤16777215) (hd:dec c=some v) (r:List UInt8):rdP t dec (tlv t c++r)= .ok (v,(tlv t c).length):=by
 unfold rdP
 rw [q4n t c r h,q4z t c r h,q4f t c r h,hd];rfl
theorem z6U {α:Type} {t:UInt8} {p:PR α} {c:List UInt8} {v:α} (h:c.length≤16777215) (hp:p c= .ok (v,c.length)) (r:List UInt8):inP t p (tlv t c++r)= .ok (v,(tlv t c).length):=by
 unfold inP allP
 rw [q4n t c r h,q4z t c r h,q4f t c r h,hp]
 simp
theorem z0i (n:Nat) (c r:List UInt8):nextB n (tlv (tagB n) c++r)=true:=by simp [nextB,tlv]
theorem z6g {α:Type} {n:Nat} {p:PR α} {c:List UInt8} {v:α} (h:c.length≤16777215) (hp:p c= .ok (v,c.length)) (r:List UInt8):needP n p (tlv (tagB n) c++r)= .ok (v,(tlv (tagB n) c).length):=by
 unfold needP
 rw [if_pos (z0i n c r),z6U h hp]
theorem q2R {t:UInt8} {c:List UInt8} (h:c.length≤16777215):elemS t [c]=tlv t c:=by
 unfold elemS;simp only [List.flatten_cons,List.flatten_nil,List.append_nil];rw [if_pos h]
theorem q7s {t:UInt8} {l:List (List UInt8)} (h:l.flatten.length≤16777215):elemS t l=tlv t l.flatten:=by unfold elemS;rw [if_pos h]
theorem q5P {n:Nat} {b:List UInt8} (hn:n≤30) (h:b.length≤16777215):wrapS 160 n b=if b= [] then [] else tlv (tagB n) b:=by
 unfold wrapS
 by_cases hb:b= []
 · rw [if_neg (fun q=>q.2.2 hb),if_pos hb]
 rw [if_pos ⟨by omega,by omega,hb⟩,if_neg hb,q2R h];rfl
def sufS (l:List (List UInt8)) (n k:Nat):List UInt8:=((List.range' n k).map fun j=>wrapS 160 (j:Nat) (l.getD j [])).flatten
theorem q4i (l:List (List UInt8)) (n k:Nat):sufS l n (k+1)=wrapS 160 (n:Nat) (l.getD n [])++sufS l (n+1) k:=by simp [sufS,List.range'_succ]
theorem z8m (l:List (List UInt8)):(tagN l l.length).flatten=sufS l 0 l.length:=by
 unfold tagN sufS;rw [List.range_eq_range'];rfl
theorem q8P {α:Type} {l:List (List UInt8)} {p:PR α} {v:α} {n k:Nat} (hl:∀j,(l.getD j []).length≤16777215) (hn:n≤30) (h0:l.getD n []≠ []) (hp:p (l.getD n [])= .ok (v,(l.getD n []).length)):
 needP n p (sufS l n (k+1))= .ok (v,(wrapS 160 (n:Nat) (l.getD n [])).length)∧(sufS l n (k+1)).drop (wrapS 160 (n:Nat) (l.getD n [])).length=sufS l (n+1) k:=by
 rw [q4i,List.drop_left]
 refine ⟨?_,rfl⟩
 rw [q5P hn (hl n),if_neg h0]
 exact z6g (hl n) hp _
theorem q8T {α β:Type} {p:PR α} {f:α→PR β} {r r':List UInt8} {v:α} {k:Nat} {u:β} {m:Nat} (h:p r= .ok (v,k)∧r.drop k=r') (h2:f v r'= .ok (u,m)):bindP p f r= .ok (u,k+m):=by
 unfold bindP;rw [h.1];simp only;rw [h.2,h2]
@[go_sem] abbrev rdr (b:List UInt8) (n:Nat):SObj:=.cells 111 [.isl .u8 b,rI n,.raw (.bool true)]
theorem q9I (b:List UInt8) (n:Nat) (hn:n≤b.length):PE Tryz.prog 98 [.ptr 0 0] [rdr b n] (.ret (.isl .u8 (b.drop n))) [rdr b n]:=by
 refine q0d (Nat.le_refl _) ?_
 refine rQ fi98 ?_
 refine ⟨⟨by omega,hn,Nat.le_refl _⟩,?_⟩
 rw [List.take_length]
theorem q6B (b:List UInt8) (n:Nat) (hn:n≤b.length):PE Tryz.prog 67 [.ptr 0 0] [rdr b n] (.ret (rI ((b.length-n:Nat):Int))) [rdr b n]:=by
 refine q0d (Nat.le_refl _) ?_
 refine rQ fi67 ?_
 refine eQ [0] (q9I b n hn) ?_
 rw [List.length_drop]
theorem z7D (b:List UInt8) (n:Nat) (hn:n≤b.length):PE Tryz.prog 35 [.ptr 0 0] [rdr b n] (.ret (rI (if n<b.length then 5 else 0))) [rdr b n]:=by
 refine q0d (Nat.le_refl _) ?_
 refine rQ fi35 ?_
 refine eQ [0] (q6B b n hn) ?_
 refine ⟨fun h=> ?_,fun h=> ?_⟩
 · rw [if_pos (by omega)]
 rw [if_neg (by omega)]
theorem z6j (b:List UInt8):PE Tryz.prog 62 [.isl .u8 b] [] (.ret (.ptr 0 0)) [rdr b 0]:=by
 refine q0d (Nat.zero_le _) ?_
 refine rQ fi62 ?_;trivial
theorem z1h (b:List UInt8):PE Tryz.prog 101 [.isl .u8 b] [] (.ret (.tup [.ptr 0 0,rB true])) [rdr b 0]:=by
 refine q0d (Nat.zero_le _) ?_
 refine rQ fi101 ?_
 refine eQ [] (z6j b) ?_;trivial
theorem z2e (tag:UInt8) (b:List UInt8) (n:Nat) (hn:n≤b.length) (hb:b.length≤1099511627776):
 PE Tryz.prog 133 [.ptr 0 0,.raw (.int .u8 tag.toNat)] [rdr b n] (.ret (.tup [.isl .u8 (if takeE tag (b.drop n)=0 then takeC (b.drop n) else []),rI (takeE tag (b.drop n))])) [rdr b (if takeE tag (b.drop n)=0 then n+takeN (b.drop n) else n)]:=by
 have hr:=q9I b n hn
 have hlr:(b.drop n).length=b.length-n:=List.length_drop
 have hm:=z7h (b.drop n) (by omega)
 have hok:= @q4B tag (b.drop n)
 generalize hR:b.drop n=r at*
 have hE:takeE tag r=if r.length=0 then 4 else if r.getD 0 0≠tag then 6 else (meas r).2.2:=rfl
 refine q0d (Nat.le_refl _) ?_
 refine rQ fi133 ?_
 refine eQ [0] (hr) ?_
 refine ⟨fun h=> ?_,fun h=> ?_⟩
 · rw [if_pos (by omega)] at hE
   rw [hE]
   exact ⟨⟨rfl,rfl⟩,rfl⟩
 rw [if_neg (by omega)] at hE
 refine ⟨by omega,fun h2=> ?_,fun h2=> ?_⟩
 · rw [if_pos (fun e=>h2 (by subst e;rfl))] at hE
   rw [hE]
   exact ⟨⟨rfl,rfl⟩,rfl⟩
 have:r.getD 0 0=tag:=by
  apply UInt8.toNat_inj.1
  have:((r.getD 0 Ty.u8.dflt).toNat:Int)=tag.toNat:=h2
  exact_mod_cast this
 rw [if_neg (by simpa using this)] at hE
 refine q0a hm ?_
 unfold measV
 refine gQ ?_
 refine ⟨fun h3=> ?_,fun h3=> ?_⟩
 · have h3':¬(meas r).2.2=0:=by omega
   rw [hE,if_neg h3',if_neg h3']
   exact ⟨⟨rfl,rfl⟩,rfl⟩
 have h3':(meas r).2.2=0:=by omega
 have hk:=z4q h3'
 rw [hE,if_pos h3',if_pos h3',wrapi (by omega),h3']
 exact ⟨⟨by omega,hk.2.1,Nat.le_refl _,hk.2.2⟩,⟨rfl,rfl⟩,congrArg (Value.int .i64) (by unfold takeN;omega)⟩
theorem q5E (g:Nat) (tag:UInt8) (b:List UInt8) (n:Nat) (hn:n≤b.length) (hb:b.length≤1099511627776) (v:SV) (right:Bool) (hg:PC Tryz.prog g [.isl .u8 (takeC (b.drop n))] (.tup [v,rB right])) (hv:∃u,(v= .raw u)∨∃xs,v= .isl .u8 xs):
 PE Tryz.prog 103 [.ptr 0 0,.raw (.int .u8 tag.toNat),.fn g [] []] [rdr b n] (.ret (if takeE tag (b.drop n)=0 then (if right then .tup [v,rI 0] else .tup [.raw (.int .i64 0),rI 6]) else .tup [.raw (.int .i64 0),rI (takeE tag (b.drop n))])) [rdr b (if takeE tag (b.drop n)=0∧right=true then n+takeN (b.drop n) else n)]:=by
 have ht:=z2e tag b n hn hb
 generalize takeE tag (b.drop n)=e at*
 generalize takeC (b.drop n)=c at*
 generalize takeN (b.drop n)=k at*
 refine q0d (Nat.le_refl _) ?_
 refine rQ fi103 ?_
 refine eQ [0] (ht) ?_
 refine ⟨fun h=> ?_,fun h=> ?_⟩
 · have h':¬e=0:=by omega
   simp only [if_neg h',h',false_and,if_false]
   with_reducible refine sxE ?_;trivial
 obtain rfl:e=0:=by omega
 simp only [true_and,if_true]
 refine q0a hg ?_
 obtain ⟨u,rfl| ⟨xs,rfl⟩⟩:=hv
 · cases right
   · refine uQ 600 _ ?_
     simp (maxSteps:=3000000) only [Bool.false_eq_true,if_false,go_sem,↓zA,↓reduceIte,↓reduceDIte] <;>try simp only [zB]
   refine gQ ?_;trivial
 cases right
 · refine uQ 600 _ ?_
   simp (maxSteps:=3000000) only [Bool.false_eq_true,if_false,go_sem,↓zA,↓reduceIte,↓reduceDIte] <;>try simp only [zB]
 refine gQ ?_;trivial
theorem q7r (g:Nat) (tag:UInt8) (b:List UInt8) (n:Nat) (hn:n≤b.length) (hb:b.length≤1099511627776) (v:SV) (right:Bool) (hg:PC Tryz.prog g [.isl .u8 (takeC (b.drop n))] (.tup [v,rB right])) (hv:∃u,(v= .raw u)∨∃xs,v= .isl .u8 xs):
 PE Tryz.prog 131 [.ptr 0 0,.raw (.int .u8 tag.toNat),.fn g [] []] [rdr b n] (.ret (if takeE tag (b.drop n)=0 then (if right then .tup [v,rI 0] else .tup [.isl .u8 [],rI 6]) else .tup [.isl .u8 [],rI (takeE tag (b.drop n))])) [rdr b (if takeE tag (b.drop n)=0∧right=true then n+takeN (b.drop n) else n)]:=by
 have ht:=z2e tag b n hn hb
 generalize takeE tag (b.drop n)=e at*
 generalize takeC (b.drop n)=c at*
 generalize takeN (b.drop n)=k at*
 refine q0d (Nat.le_refl _) ?_
 refine rQ fi131 ?_
 refine eQ [0] (ht) ?_
 refine ⟨fun h=> ?_,fun h=> ?_⟩
 · have h':¬e=0:=by omega
   simp only [if_neg h',h',false_and,if_false]
   with_reducible refine sxE ?_;trivial
 obtain rfl:e=0:=by omega
 simp only [true_and,if_true]
 refine q0a hg ?_
 obtain ⟨u,rfl| ⟨xs,rfl⟩⟩:=hv
 · cases right
   · refine uQ 600 _ ?_
     simp (maxSteps:=3000000) only [Bool.false_eq_true,if_false,go_sem,↓zA,↓reduceIte,↓reduceDIte] <;>try simp only [zB]
   refine gQ ?_;trivial
 cases right
 · refine uQ 600 _ ?_
   simp (maxSteps:=3000000) only [Bool.false_eq_true,if_false,go_sem,↓zA,↓reduceIte,↓reduceDIte] <;>try simp only [zB]
 refine gQ ?_;trivial
theorem j3A (n:Nat) (k:Nat):(n:Int).fdiv k=((n / k:Nat):Int):=by
 rw [Int.fdiv_eq_ediv_of_nonneg _ (by omega)];rfl
def qN (n k:Nat):Nat:=n / 256^ k
theorem j0Z (n k:Nat):qN n (k+1)=qN n k / 256:=by unfold qN;rw [Nat.pow_succ,Nat.div_div_eq_div_mul]
theorem q5Z (n k:Nat):restN (n:Int) k=(qN n k:Int):=by
 induction k with
 |zero=>simp [restN,qN]
 |succ k ih=>rw [restN,ih,show (256:Int)=((256:Nat):Int) from rfl,j3A,j0Z]
theorem pow28 (k:Nat):(2:Int) ^ (8*k)=((256^ k:Nat):Int):=by
 rw [show (256:Nat)=2^ 8 from rfl,←Nat.pow_mul];push_cast;rfl
theorem q7G (n k:Nat) (hk:k≤8):byteAt (n:Int) k=byteOf (qN n k:Int):=by
 unfold byteAt
 rw [Nat.min_eq_left (by omega),pow28,j3A];rfl
theorem q6R (v:Int) (m:Nat):numS v (m+1)=byteAt v m :: numS v m:=by
 apply List.ext_getElem
 · simp [numS]
 intro j h1 h2
 cases j with
 |zero=>simp [numS]
 |succ j=>
  simp only [numS,List.getElem_map,List.getElem_range,List.getElem_cons_succ]
  congr 1
  omega
def inR (v lo hi:Int):Bool:=decide (lo≤v) && decide (v≤hi)
end Go.Proofs.YtikapabgggphpaaGreatDoor
