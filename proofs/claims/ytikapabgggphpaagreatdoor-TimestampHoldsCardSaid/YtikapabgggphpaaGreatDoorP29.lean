/- The plain law: the program and the reference tell the same of entries. -/
import Derived.Test.YtikapabgggphpaaGreatDoorPRv
import Derived.Test.YtikapabgggphpaaGreatDoorP28
import Derived.Test.YtikapabgggphpaaGreatDoorP27
import Derived.Test.YtikapabgggphpaaGreatDoorP23
import Derived.Test.YtikapabgggphpaaGreatDoorP17
set_option linter.all false
namespace Go.Proofs.YtikapabgggphpaaGreatDoor
open Go Go.Sx Go.Proofs
set_option maxRecDepth 100000
set_option maxHeartbeats 1000000
end Go.Proofs.YtikapabgggphpaaGreatDoor
namespace Go.Proofs.YtikapabgggphpaaGreatDoor
open Go Go.Sx Go.Proofs
set_option maxRecDepth 100000
set_option maxHeartbeats 4000000
theorem z7N (n:Nat):(lenS n).length≤4:=by
 unfold lenS
 split
 · simp
 split
 · simp
 split<;>simp
theorem q1r (t:UInt8) (l:List (List UInt8)):(elemS t l).length≤l.flatten.length+5:=by
 unfold elemS
 split
 · have:=z7N l.flatten.length
   simp only [tlv,List.length_cons,List.length_append];omega
 simp
theorem q1O (t n:Int) (b:List UInt8):(wrapS t n b).length≤b.length+5:=by
 unfold wrapS
 split
 · have:=q1r (byteOf (t+n)) [b]
   simp only [List.flatten_cons,List.flatten_nil,List.append_nil] at this
   exact this
 simp
theorem z8l (v:Int):intSz v≤9:=by
 unfold intSz
 cases h:firstN 9 (oneB v) with
 |none=>simp
 |some k=>have:=(q6D h).1;simp;omega
theorem q2k (v:Int):(intS v).length≤14:=by
 unfold intS
 split
 · have h1:=q1r 2 [numS v (intSz v)]
   have h2:=z8l v
   simp only [List.flatten_cons,List.flatten_nil,List.append_nil,numS,List.length_map,List.length_range] at h1 h2⊢
   omega
 simp
theorem q7Q:∀ (l:List UInt8) (v:Nat),l.foldl (fun v c=>v*256+c.toNat) v=v*256^ l.length+beN l
 | [],v=>by simp [beN]
 |x :: l,v=>by
  have h1:=q7Q l (v*256+x.toNat)
  have h2:=q7Q l (0*256+x.toNat)
  simp only [List.foldl_cons,List.length_cons,beN] at*
  rw [h1,h2,Nat.pow_succ,Nat.add_mul,Nat.zero_mul,Nat.zero_add,Nat.mul_assoc,Nat.mul_comm 256,Nat.add_assoc]
theorem z8V (x:UInt8) (l:List UInt8):beN (x :: l)=x.toNat*256^ l.length+beN l:=by
 have:=q7Q l (0*256+x.toNat)
 rw [Nat.zero_mul,Nat.zero_add] at this
 unfold beN at*
 rw [List.foldl_cons,Nat.zero_mul,Nat.zero_add,this]
theorem q0H (v:Int) (m:Nat):(numS v m).length=m:=by simp [numS]
theorem z0M (n:Nat):∀ (m:Nat),m≤9→beN (numS (n:Int) m)=n%256^ m
 |0,_=>by simp [numS,beN,Nat.mod_one]
 |m+1,h=>by
  rw [q6R,z8V,q0H,z0M n m (by omega),q7G n m (by omega),q1c,Nat.mod_pow_succ]
  unfold qN
  rw [Nat.mul_comm,Nat.add_comm]

def sgn1 (x:UInt8):Int:=IntKind.i8.wrap (x.toNat:Int)
theorem z9v {x:UInt8} (h:x.toNat<128):sgn1 x=(x.toNat:Int):=by
 unfold sgn1
 simp [IntKind.wrap,IntKind.bits,IntKind.signed]
 omega
def sgn (c:List UInt8):Int:=(c.drop 1).foldl (fun v x=>v*256+ (x.toNat:Int)) (sgn1 (c.getD 0 0))
theorem q9C:∀ (l:List UInt8) (v:Nat),l.foldl (fun (v:Int) (x:UInt8)=>v*256+ (x.toNat:Int)) (v:Int)=((l.foldl (fun v c=>v*256+c.toNat) v:Nat):Int)
 | [],v=>rfl
 |x :: l,v=>by
  have:=q9C l (v*256+x.toNat)
  simp only [List.foldl_cons]
  rw [←this];push_cast;rfl
theorem j2w {x:UInt8} {l:List UInt8} (h:x.toNat<128):sgn (x :: l)=(beN (x :: l):Int):=by
 unfold sgn
 rw [List.drop_succ_cons,List.drop_zero,List.getD_cons_zero,z9v h,q9C]
 unfold beN
 rw [List.foldl_cons,Nat.zero_mul,Nat.zero_add]
def decInt (c:List UInt8):Option Int:=if 1≤c.length∧c.length≤8∧intS (sgn c)=elemS 2 [c] then some (sgn c) else none
def decTime (c:List UInt8):Option Nat:=if c.length=6∧beN c≤1099511627776 then some (beN c) else none
def decOct (c:List UInt8):Option (List UInt8):=some c
theorem z7u (n:Nat) (h:n≤4611686018427387904):∃c,intS n=tlv 2 c∧c.length≤8∧1≤c.length∧decInt c=some (n:Int)∧beN c=n∧(c.length=8→36028797018963968≤n):=by
 have h7:oneB (n:Int) 7=true:=by
  have:qN n 7≤127:=by unfold qN;exact Nat.div_le_of_le_mul (by omega)
  unfold oneB;rw [q5Z,decide_eq_true (show ((qN n 7:Nat):Int)≤127 by omega),decide_eq_true (show (-128:Int)≤(qN n 7:Int) by omega)];rfl
 obtain ⟨k,hk⟩:∃k,firstN 9 (oneB (n:Int))=some k:=by
  cases hf:firstN 9 (oneB (n:Int)) with
  |some k=>exact ⟨k,rfl⟩
  |none=>
   unfold firstN at hf
   rw [List.find?_range_eq_none] at hf
   have:=hf 7 (by omega)
   rw [h7] at this;cases this
 obtain ⟨_,hk1,hk2⟩:=q6D hk
 have hk7:k≤7:=by
  rcases Nat.lt_or_ge 7 k with hl|hl
  · have:=hk2 7 hl;rw [h7] at this;cases this
  exact hl
 have hsz:intSz (n:Int)=k+1:=by unfold intSz;rw [hk];simp;omega
 have hint:intS (n:Int)=tlv 2 (numS n (k+1)):=by
  unfold intS
  rw [if_pos (by omega),hsz,q2R (by rw [q0H];omega)]
 have hq:qN n k≤127:=by
  simp only [oneB,q5Z,Bool.and_eq_true,decide_eq_true_eq] at hk1
  omega
 have hlt:n<256^ (k+1):=by
  have h1:n< (qN n k+1)*256^ k:=by
   unfold qN
   have:=Nat.lt_mul_div_succ n (show 0<256^ k from Nat.pow_pos (by decide))
   rw [Nat.mul_comm] at this;exact this
  have h2:(qN n k+1)*256^ k≤256*256^ k:=Nat.mul_le_mul_right _ (by omega)
  rw [Nat.pow_succ,Nat.mul_comm];omega
 have hb:beN (numS (n:Int) (k+1))=n:=by rw [z0M n _ (by omega),Nat.mod_eq_of_lt hlt]
 have hs:sgn (numS (n:Int) (k+1))=(n:Int):=by
  rw [q6R,j2w (by rw [q7G n k (by omega),q1c];omega),←q6R,hb]
 refine ⟨numS n (k+1),hint,by rw [q0H];omega,by rw [q0H];omega,?_,hb,fun h8=> ?_⟩
 · unfold decInt
   rw [hs,hint,q2R (by rw [q0H];omega),if_pos ⟨by rw [q0H];omega,by rw [q0H];omega,rfl⟩]
 rw [q0H] at h8
 have hk6:=hk2 6 (by omega)
 simp only [oneB,q5Z,Bool.and_eq_false_iff,decide_eq_false_iff_not] at hk6
 have:128≤qN n 6:=by omega
 unfold qN at this
 have h9:=(Nat.le_div_iff_mul_le (show 0<256^ 6 by decide)).1 this
 omega
theorem q7B {v:Int} (h:0≤v∧v≤4611686018427387904):∃c,intS v=tlv 2 c∧c.length≤8∧1≤c.length∧decInt c=some v∧(beN c:Int)=v∧(c.length=8→36028797018963968≤v):=by
 obtain ⟨n,rfl⟩:∃n:Nat,v=n:=⟨v.toNat,by omega⟩
 obtain ⟨c,h1,h2,h3,h4,h5,h6⟩:=z7u n (by omega)
 exact ⟨c,h1,h2,h3,h4,by rw [h5],fun h=>by have:=h6 h;omega⟩
def intP:PR Int:=rdP 2 decInt
def octP:PR (List UInt8):=rdP 4 decOct
def timeP:PR Nat:=rdP 24 decTime
theorem z0R {v:Int} (h:0≤v∧v≤4611686018427387904) (r:List UInt8):intP (intS v++r)= .ok (v,(intS v).length):=by
 obtain ⟨c,h1,h2,_,h4,_⟩:=q7B h
 rw [h1];exact z1t (by omega) h4 r
theorem z0g {t:Int} (h:0≤t∧t≤1099511627776):timeS t=tlv 24 (numS t 6):=by
 unfold timeS;rw [if_pos h,q2R (by rw [q0H];omega)]
theorem z8Q {n:Nat} (h:n≤1099511627776) (r:List UInt8):timeP (timeS n++r)= .ok (n,(timeS n).length):=by
 rw [z0g (by omega)]
 refine z1t (by rw [q0H];omega) ?_ r
 unfold decTime
 rw [z0M n 6 (by omega),Nat.mod_eq_of_lt (by omega),if_pos ⟨q0H _ _,h⟩]
theorem j0C {b:List UInt8} (h:b.length≤16777215) (r:List UInt8):octP (elemS 4 [b]++r)= .ok (b,(elemS 4 [b]).length):=by
 rw [q2R h];exact z1t h rfl r
theorem full {α:Type} {p:PR α} {v:α} {e:List UInt8} (h:∀r,p (e++r)= .ok (v,e.length)):p e= .ok (v,e.length):=by have:=h [];rwa [List.append_nil] at this

theorem q9A {α:Type} {tag:UInt8} {dec:List UInt8→Option α} {r:List UInt8} {v:α} {k:Nat} (h:rdP tag dec r= .ok (v,k)):takeE tag r=0∧dec (takeC r)=some v∧k=takeN r:=by
 unfold rdP at h
 split at h
 · split at h
   · cases h;exact ⟨by assumption,by assumption,rfl⟩
   cases h
 cases h
theorem z1T {α:Type} {tag:UInt8} {dec:List UInt8→Option α} {r:List UInt8} {e:Nat} (h:rdP tag dec r= .error e):(takeE tag r=0∧dec (takeC r)=none∧e=6)∨(takeE tag r≠0∧e=takeE tag r):=by
 unfold rdP at h
 split at h
 · split at h
   · cases h
   cases h;exact .inl ⟨by assumption,by assumption,rfl⟩
 cases h;exact .inr ⟨by assumption,rfl⟩
theorem j3N {α:Type} {tag:UInt8} {dec:List UInt8→Option α} {r:List UInt8} {v:α} {k:Nat} (h:rdP tag dec r= .ok (v,k)):k≤r.length:=by
 obtain ⟨h1,_,rfl⟩:=q9A h
 exact q4B h1
theorem z6f (v:Int) (c:Nat) (hv: -36028797018963968≤v∧v<36028797018963968) (hc:c<256):IntKind.i64.wrap ((BitVec.ofInt 64 (v*256) |||BitVec.ofInt 64 ((c:Nat):Int)).toNat:Int)=v*256+c:=by
 obtain ⟨m,hm⟩:∃m:Nat,(BitVec.ofInt 64 (v*256)).toNat=m*256∧((m:Int)*256=v*256∨(m:Int)*256=v*256+18446744073709551616):=by
  refine ⟨((v*256)%18446744073709551616).toNat / 256,?_,?_⟩
  · rw [BitVec.toNat_ofInt]
    have:(((2^ 64:Nat)):Int)=18446744073709551616:=by decide
    rw [this];omega
  omega
 have h2:(BitVec.ofInt 64 ((c:Nat):Int)).toNat=c:=by rw [BitVec.ofInt_natCast,BitVec.toNat_ofNat];exact Nat.mod_eq_of_lt (by omega)
 have h3:m*256|||c=m*256+c:=by
  have:=Nat.shiftLeft_add_eq_or_of_lt (b:=c) (i:=8) hc m
  rw [Nat.shiftLeft_eq] at this
  exact this.symm
 rw [BitVec.toNat_or,hm.1,h2,h3]
 have hw:∀x:Int,IntKind.i64.wrap x=if x%18446744073709551616<9223372036854775808 then x%18446744073709551616 else x%18446744073709551616-18446744073709551616:=fun x=>by
  simp [IntKind.wrap,IntKind.bits,IntKind.signed]
  split<;>omega
 rw [hw]
 push_cast
 rcases hm.2 with h|h<;>split<;>omega
def sgnK (c:List UInt8) (i:Nat):Int:=((c.drop 1).take i).foldl (fun v x=>v*256+ (x.toNat:Int)) (sgn1 (c.getD 0 0))
theorem z6T (x:UInt8): -128≤sgn1 x∧sgn1 x<128:=by
 have:=x.toNat_lt
 unfold sgn1
 simp [IntKind.wrap,IntKind.bits,IntKind.signed]
 omega
theorem q9T {c:List UInt8} {i:Nat} (h:i< (c.drop 1).length):sgnK c (i+1)=sgnK c i*256+ (((c.drop 1).getD i 0).toNat:Int):=by
 unfold sgnK
 rw [q3E (d:=0) h,List.foldl_append];rfl
theorem z5u (c:List UInt8):∀i,i≤(c.drop 1).length→ -(128*256^ i:Nat)≤sgnK c i∧sgnK c i< (128*256^ i:Nat)
 |0,_=>by have:=z6T (c.getD 0 0);simpa [sgnK] using this
 |i+1,h=>by
  have ih:=z5u c i (by omega)
  have hx:=((c.drop 1).getD i 0).toNat_lt
  rw [q9T (by omega),Nat.pow_succ]
  omega
theorem j1w (a b:List UInt8) (ha:a.length≤140737488355328) (hb:b.length≤140737488355328):PC Tryz.prog 107 [.isl .u8 a,.isl .u8 b] (rB (decide (a=b))):=by
 refine q0q rfl rfl ?_
 refine rQ fi107 ?_
 exact decide_eq_decide.2 ⟨fun h=>by simpa [strOf] using h,fun h=>by rw [h]⟩
def iVal (c:List UInt8):Int:=if c.length<1∨8<c.length then 0 else sgn c
theorem z3P {c:List UInt8} {v:Int} (h:decInt c=some v):v=iVal c:=by
 unfold decInt at h
 split at h
 · rename_i hc;cases h
   unfold iVal;rw [if_neg (by omega)]
 cases h
theorem z8t (c:List UInt8):sgnK c (c.drop 1).length=sgn c:=by unfold sgnK sgn;rw [List.take_length]
theorem j0m (c:List UInt8) (hc:c.length≤1099511627776):PC Tryz.prog 106 [.isl .u8 c] (.tup [rI (iVal c),rB (decInt c).isSome]):=by
 refine q0t rfl rfl ?_
 refine rQ fi106 ?_
 have h0:(c.length<1∨8<c.length)→iVal c=0∧(decInt c).isSome=false:=fun h=>by
  unfold iVal decInt
  rw [if_pos h,if_neg (by omega)]
  exact ⟨rfl,rfl⟩
 refine ⟨fun h1=>⟨fun h8=> ?_,fun h8=>⟨by omega,⟨by omega,Nat.le_refl _⟩,?_⟩⟩,fun h1=> ?_⟩
 · obtain ⟨e1,e2⟩:=h0 (by omega)
   rw [e1,e2];exact ⟨rfl,rfl⟩
 rotate_left
 · obtain ⟨e1,e2⟩:=h0 (by omega)
   rw [e1,e2];exact ⟨rfl,rfl⟩
 have hs1:IntKind.i64.wrap (IntKind.i8.wrap ((c.getD 0 Ty.u8.dflt).toNat:Int))=sgnK c 0:=by
  have:=z6T (c.getD 0 0)
  show IntKind.i64.wrap (sgn1 (c.getD 0 0))=_
  rw [wrapi (by omega)];rfl
 rw [hs1]
 have htl:List.take c.length c=c:=List.take_length
 rw [htl]
 have hl:(c.drop 1).length=c.length-1:=List.length_drop
 generalize hD:c.drop 1=d at*
 refine q3L (fun i=>[(4,rI (sgnK c i)),(23,.raw (.int .i64 ((i:Nat):Int)))]) (d.length) (fun j=>(fun _=>true) j=true) (by first|decide|simp) (fun i=>rfl) ?_ fun i hi hall=> ?_
 · (with_reducible refine sxE ?_<;>try exact True.intro)
   all_goals (try rfl)
 have hwr:=wsx i (by omega)
 refine gQ ?_
 have bad:i< (d.length)→(fun _=>true) i=false→allN (d.length) (fun _=>true)=false:=fun hlt hv=>q1I hlt hv
 have fin:¬i< (d.length)→allN (d.length) (fun _=>true)=true:=fun h=>q1N fun j hj=>hall j (by omega)
 try dsimp only at bad fin hall
 refine ⟨fun hlt=>⟨⟨by omega,hlt⟩,?_⟩,fun hge=> ?_⟩
 · have hb:=z5u c i (by rw [hD];omega)
   have hp:256^ i≤256^ 6:=Nat.pow_le_pow_right (by decide) (by omega)
   have hx:(d.getD i Ty.u8.dflt).toNat<256:=UInt8.toNat_lt _
   have e0:sgnK c i*2^ min 8 64=sgnK c i*256:=rfl
   have e1:IntKind.i64.wrap (sgnK c i*256)=sgnK c i*256:=wrapi (by omega)
   have e2:IntKind.i64.wrap ((d.getD i Ty.u8.dflt).toNat:Int)=((d.getD i Ty.u8.dflt).toNat:Int):=wrapi (by omega)
   have e3:=z6f (sgnK c i) (d.getD i Ty.u8.dflt).toNat (by omega) hx
   have e4:=q9T (c:=c) (i:=i) (by rw [hD];exact hlt)
   rw [hD] at e4
   rw [e0,e1,e2]
   refine ⟨hlt,trivial,⟨[],rfl⟩,?_⟩
   with_reducible refine sx1 hwr ?_
   rw [e4]
   exact congrArg (Value.int .i64) e3
 obtain rfl:i=d.length:=by omega
 have hall':=z8t c
 rw [hD] at hall'
 rw [hall']
 refine q0a (q3i (sgn c)) ?_
 refine gQ ?_
 refine q0p 0 ?_
 with_reducible refine sxE ?_
 refine q0a (q2D 2 2 rfl [c] (by simp)) ?_
 have g1:=q2k (sgn c)
 have g2:=q1r 2 [c]
 simp only [List.flatten_cons,List.flatten_nil,List.append_nil] at g2
 refine gQ ?_
 refine q0a (j1w _ _ (by omega) (by omega)) ?_
 refine gQ ?_
 have e1:iVal c=sgn c:=by unfold iVal;rw [if_neg (by omega)]
 have e2:(decInt c).isSome=decide (intS (sgn c)=elemS 2 [c]):=by
  unfold decInt
  by_cases h:intS (sgn c)=elemS 2 [c]
  · rw [if_pos ⟨by omega,by omega,h⟩,decide_eq_true h];rfl
  rw [if_neg (fun q=>h q.2.2),decide_eq_false h];rfl
 rw [e1,e2]
 exact ⟨rfl,rfl⟩
def tVal (c:List UInt8):Nat:=if c.length≠6 then 0 else beN c
theorem z7a (c:List UInt8):PC Tryz.prog 104 [.isl .u8 c] (.tup [rI (tVal c),rB (decTime c).isSome]):=by
 refine q0t rfl rfl ?_
 refine rQ fi104 ?_
 refine ⟨fun h6=> ?_,fun h6=>q0a (z3M c (by omega)) ?_⟩
 · have e1:tVal c=0:=by unfold tVal;rw [if_pos (by omega)]
   have e2:(decTime c).isSome=false:=by unfold decTime;rw [if_neg (by omega)];rfl
   rw [e1,e2];exact ⟨rfl,rfl⟩
 have e1:tVal c=beN c:=by unfold tVal;rw [if_neg (by omega)]
 have e2:(decTime c).isSome=decide (((beN c:Nat):Int)≤1099511627776):=by
  unfold decTime
  by_cases h:beN c≤1099511627776
  · rw [if_pos ⟨by omega,h⟩,decide_eq_true (by omega)];rfl
  rw [if_neg (by omega),decide_eq_false (by omega)];rfl
 rw [e1,e2]
 refine gQ ?_;trivial
theorem j0n (c:List UInt8) (hc:c.length≤1099511627776):PC Tryz.prog 132 [.isl .u8 c] (.tup [.isl .u8 c,rB true]):=by
 refine q0t rfl rfl ?_
 refine rQ fi132 ?_
 refine q0a (q1U c (by omega)) ?_
 refine gQ ?_;trivial
theorem z0J {c:List UInt8} {v:Nat} (h:decTime c=some v):v=tVal c:=by
 unfold decTime at h
 split at h
 · rename_i hc;cases h;unfold tVal;rw [if_neg (by omega)]
 cases h
theorem q5p {b:List UInt8} {n:Nat} (hb:b.length≤1099511627776):(takeC (b.drop n)).length≤1099511627776:=by
 have:=q4h (b.drop n)
 rw [List.length_drop] at this;omega
theorem z5I (b:List UInt8) (n:Nat) (hn:n≤b.length) (hb:b.length≤1099511627776) {v:Int} {k:Nat} (h:intP (b.drop n)= .ok (v,k)):PE Tryz.prog 72 [.ptr 0 0] [rdr b n] (.ret (.tup [(rI) v,rI 0])) [rdr b (n+k)]:=by
 obtain ⟨h1,h2,rfl⟩:=q9A h
 have hr:=q5E 106 2 b n hn hb _ _ (j0m (takeC (b.drop n)) (q5p hb)) ⟨_,.inl rfl⟩
 rw [if_pos h1,if_pos (by rw [h2];rfl),if_pos ⟨h1,by rw [h2];rfl⟩,←z3P h2] at hr
 refine q0d (Nat.le_refl _) ?_
 refine rQ fi72 ?_
 refine eQ [0] (hr) ?_;trivial
theorem z4j (b:List UInt8) (n:Nat) (hn:n≤b.length) (hb:b.length≤1099511627776) {e:Nat} (h:intP (b.drop n)= .error e):PE Tryz.prog 72 [.ptr 0 0] [rdr b n] (.ret (.tup [rI 0,rI e])) [rdr b n]:=by
 have hr:=q5E 106 2 b n hn hb _ _ (j0m (takeC (b.drop n)) (q5p hb)) ⟨_,.inl rfl⟩
 have hr':PE Tryz.prog 103 [.ptr 0 0,.raw (.int .u8 (2:UInt8).toNat),.fn 106 [] []] [rdr b n] (.ret (.tup [rI 0,rI e])) [rdr b n]:=by
  rcases z1T h with ⟨h1,h2,rfl⟩ | ⟨h1,rfl⟩
  · rw [if_pos h1,if_neg (by rw [h2];simp),if_neg (fun q=>by rw [h2] at q;simp at q)] at hr
    exact hr
  rw [if_neg h1,if_neg (fun q=>h1 q.1)] at hr
  exact hr
 refine q0d (Nat.le_refl _) ?_
 refine rQ fi72 ?_
 refine eQ [0] (hr') ?_;trivial
theorem z9J (b:List UInt8) (n:Nat) (hn:n≤b.length) (hb:b.length≤1099511627776) {v:Nat} {k:Nat} (h:timeP (b.drop n)= .ok (v,k)):PE Tryz.prog 71 [.ptr 0 0] [rdr b n] (.ret (.tup [(fun v=>rI (v:Nat)) v,rI 0])) [rdr b (n+k)]:=by
 obtain ⟨h1,h2,rfl⟩:=q9A h
 have hr:=q5E 104 24 b n hn hb _ _ (z7a (takeC (b.drop n))) ⟨_,.inl rfl⟩
 rw [if_pos h1,if_pos (by rw [h2];rfl),if_pos ⟨h1,by rw [h2];rfl⟩,←z0J h2] at hr
 refine q0d (Nat.le_refl _) ?_
 refine rQ fi71 ?_
 refine eQ [0] (hr) ?_;trivial
theorem z8W (b:List UInt8) (n:Nat) (hn:n≤b.length) (hb:b.length≤1099511627776) {e:Nat} (h:timeP (b.drop n)= .error e):PE Tryz.prog 71 [.ptr 0 0] [rdr b n] (.ret (.tup [rI 0,rI e])) [rdr b n]:=by
 have hr:=q5E 104 24 b n hn hb _ _ (z7a (takeC (b.drop n))) ⟨_,.inl rfl⟩
 have hr':PE Tryz.prog 103 [.ptr 0 0,.raw (.int .u8 (24:UInt8).toNat),.fn 104 [] []] [rdr b n] (.ret (.tup [rI 0,rI e])) [rdr b n]:=by
  rcases z1T h with ⟨h1,h2,rfl⟩ | ⟨h1,rfl⟩
  · rw [if_pos h1,if_neg (by rw [h2];simp),if_neg (fun q=>by rw [h2] at q;simp at q)] at hr
    exact hr
  rw [if_neg h1,if_neg (fun q=>h1 q.1)] at hr
  exact hr
 refine q0d (Nat.le_refl _) ?_
 refine rQ fi71 ?_
 refine eQ [0] (hr') ?_;trivial
theorem j2a (b:List UInt8) (n:Nat) (hn:n≤b.length) (hb:b.length≤1099511627776) {v:List UInt8} {k:Nat} (h:octP (b.drop n)= .ok (v,k)):PE Tryz.prog 96 [.ptr 0 0] [rdr b n] (.ret (.tup [.isl .u8 v,rI 0])) [rdr b (n+k)]:=by
 obtain ⟨h1,h2,rfl⟩:=q9A h
 have hr:=q7r 132 4 b n hn hb _ _ (j0n (takeC (b.drop n)) (q5p hb)) ⟨.bool true,.inr ⟨_,rfl⟩⟩
 rw [if_pos h1,if_pos rfl,if_pos ⟨h1,rfl⟩] at hr
 cases h2
 refine q0d (Nat.le_refl _) ?_
 refine rQ fi96 ?_
 refine eQ [0] (hr) ?_;trivial
theorem j2e (b:List UInt8) (n:Nat) (hn:n≤b.length) (hb:b.length≤1099511627776) {e:Nat} (h:octP (b.drop n)= .error e):PE Tryz.prog 96 [.ptr 0 0] [rdr b n] (.ret (.tup [.isl .u8 [],rI e])) [rdr b n]:=by
 have hr:=q7r 132 4 b n hn hb _ _ (j0n (takeC (b.drop n)) (q5p hb)) ⟨.bool true,.inr ⟨_,rfl⟩⟩
 have hr':PE Tryz.prog 131 [.ptr 0 0,.raw (.int .u8 (4:UInt8).toNat),.fn 132 [] []] [rdr b n] (.ret (.tup [.isl .u8 [],rI e])) [rdr b n]:=by
  rcases z1T h with ⟨h1,h2,rfl⟩ | ⟨h1,rfl⟩
  · cases h2
  rw [if_neg h1,if_neg (fun q=>h1 q.1)] at hr
  exact hr
 refine q0d (Nat.le_refl _) ?_
 refine rQ fi96 ?_
 refine eQ [0] (hr') ?_;trivial
theorem z2O (tag:UInt8) (b:List UInt8) (n:Nat) (hn:n≤b.length) (hb:b.length≤1099511627776) (h:takeE tag (b.drop n)=0):
 PE Tryz.prog 100 [.ptr 0 0,.raw (.int .u8 tag.toNat),.fn 101 [] []] [rdr b n] (.ret (.tup [.ptr 1 0,rI 0])) [rdr b (n+takeN (b.drop n)),rdr (takeC (b.drop n)) 0]:=by
 have ht:=z2e tag b n hn hb
 rw [if_pos h,if_pos h,h] at ht
 generalize takeC (b.drop n)=c at*
 generalize takeN (b.drop n)=k at*
 refine q0d (by simp) ?_
 refine rQ fi100 ?_
 refine eQ [0] (ht) ?_
 refine eQ [] (z1h c) ?_;trivial
theorem z2f (tag:UInt8) (b:List UInt8) (n:Nat) (hn:n≤b.length) (hb:b.length≤1099511627776) (h:takeE tag (b.drop n)≠0):
 PE Tryz.prog 100 [.ptr 0 0,.raw (.int .u8 tag.toNat),.fn 101 [] []] [rdr b n] (.ret (.tup [.raw (.pointer none),rI (takeE tag (b.drop n))])) [rdr b n]:=by
 have ht:=z2e tag b n hn hb
 rw [if_neg h,if_neg h] at ht
 generalize takeE tag (b.drop n)=e at*
 refine q0d (by simp) ?_
 refine rQ fi100 ?_
 refine eQ [0] (ht) ?_
 exact ⟨fun _=>trivial,fun h0=>absurd (by omega) h⟩
theorem z4n (b:List UInt8) (n:Nat) (hn:n≤b.length) (hb:b.length≤1099511627776) (h:takeE 48 (b.drop n)=0):
 PE Tryz.prog 69 [.ptr 0 0] [rdr b n] (.ret (.tup [.ptr 1 0,rI 0])) [rdr b (n+takeN (b.drop n)),rdr (takeC (b.drop n)) 0]:=by
 have hr:=z2O 48 b n hn hb h
 refine q0d (by simp) ?_
 refine rQ fi69 ?_
 refine eQ [0] (hr) ?_;trivial
theorem z5e (b:List UInt8) (n:Nat) (hn:n≤b.length) (hb:b.length≤1099511627776) (h:takeE 48 (b.drop n)≠0):
 PE Tryz.prog 69 [.ptr 0 0] [rdr b n] (.ret (.tup [.raw (.pointer none),rI (takeE 48 (b.drop n))])) [rdr b n]:=by
 have hr:=z2f 48 b n hn hb h
 refine q0d (by simp) ?_
 refine rQ fi69 ?_
 refine eQ [0] (hr) ?_;trivial
theorem z6a {m:Nat} (hm:m≤30):IntKind.u8.wrap (IntKind.i64.wrap (160+ (m:Int)))=((tagB m).toNat:Int):=by
 rw [wrapi (by omega)]
 exact (q4Q _).symm
theorem q6W {m:Nat} {r:List UInt8}:nextB m r=true ↔ ¬((r.length:Int)=0)∧((r.getD 0 Ty.u8.dflt).toNat:Int)=((tagB m).toNat:Int):=by
 unfold nextB
 simp only [Bool.and_eq_true,decide_eq_true_eq,ne_eq]
 constructor
 · rintro ⟨h1,h2⟩
   exact ⟨by omega,by rw [show r.getD 0 Ty.u8.dflt=tagB m from h2]⟩
 rintro ⟨h1,h2⟩
 exact ⟨by omega,UInt8.toNat_inj.1 (by exact_mod_cast h2)⟩
theorem z8c {m:Nat} {r:List UInt8} (h:nextB m r=false) (h1:¬((r.length:Int)=0)):¬((r.getD 0 Ty.u8.dflt).toNat:Int)=((tagB m).toNat:Int):=fun h2=>by
 rw [q6W.2 ⟨h1,h2⟩] at h;cases h
theorem z0W (m:Nat) (hm:m≤30) (b:List UInt8) (n:Nat) (hn:n≤b.length) (h:nextB m (b.drop n)=false):
 PE Tryz.prog 102 [.ptr 0 0,rI m] [rdr b n] (.ret (.tup [.raw (.pointer none),rB false,rI 0])) [rdr b n]:=by
 have hr:=q9I b n hn
 have hu:=z6a hm
 have hx:=z8c h
 generalize b.drop n=r at*
 refine q0d (by simp) ?_
 refine rQ fi102 ?_
 refine ⟨fun _=>⟨fun h30=>absurd h30 (by omega),fun _=> ?_⟩,fun hneg=>by exfalso;omega⟩
 refine q0h [0] (hr) rfl (by decide) (by repeat first|exact trivial|exact rfl|refine And.intro ?_ ?_) rfl rfl ?_
 simp only [afterO,Out.ren,SV.ren,mgA,sig,SObj.ren,SV.renL,List.set,List.map,List.append_nil,hu]
 refine uQ 600 _ ?_
 with_reducible refine sx1 hu ?_
 exact ⟨fun h0=>⟨by omega,fun _=>trivial,fun h1=>absurd h1 (hx h0)⟩,fun _=>trivial⟩
theorem z0N (m:Nat) (hm:m≤30) (b:List UInt8) (n:Nat) (hn:n≤b.length) (hb:b.length≤1099511627776) (h:nextB m (b.drop n)=true) (ht:takeE (tagB m) (b.drop n)=0):
 PE Tryz.prog 102 [.ptr 0 0,rI m] [rdr b n] (.ret (.tup [.ptr 1 0,rB true,rI 0])) [rdr b (n+takeN (b.drop n)),rdr (takeC (b.drop n)) 0]:=by
 have hr:=q9I b n hn
 have hd:=z2O (tagB m) b n hn hb ht
 have hu:=z6a hm
 obtain ⟨hx1,hx2⟩:=q6W.1 h
 generalize takeC (b.drop n)=c at*
 generalize takeN (b.drop n)=k at*
 generalize b.drop n=r at*
 refine q0d (by simp) ?_
 refine rQ fi102 ?_
 refine ⟨fun _=>⟨fun h30=>absurd h30 (by omega),fun _=> ?_⟩,fun hneg=>by exfalso;omega⟩
 refine q0h [0] (hr) rfl (by decide) (by repeat first|exact trivial|exact rfl|refine And.intro ?_ ?_) rfl rfl ?_
 simp only [afterO,Out.ren,SV.ren,mgA,sig,SObj.ren,SV.renL,List.set,List.map,List.append_nil,hu]
 refine uQ 600 _ ?_
 with_reducible refine sx1 hu ?_
 refine ⟨fun h0=>⟨by omega,fun h1=>absurd hx2 h1,fun _=> ?_⟩,fun h0=>absurd h0 hx1⟩
 refine eQ [0] (hd) ?_;trivial
theorem z1c (m:Nat) (hm:m≤30) (b:List UInt8) (n:Nat) (hn:n≤b.length) (hb:b.length≤1099511627776) (h:nextB m (b.drop n)=true) (ht:takeE (tagB m) (b.drop n)≠0):
 PE Tryz.prog 102 [.ptr 0 0,rI m] [rdr b n] (.ret (.tup [.raw (.pointer none),rB false,rI (takeE (tagB m) (b.drop n))])) [rdr b n]:=by
 have hr:=q9I b n hn
 have hd:=z2f (tagB m) b n hn hb ht
 have hu:=z6a hm
 obtain ⟨hx1,hx2⟩:=q6W.1 h
 generalize takeE (tagB m) (b.drop n)=e at*
 generalize b.drop n=r at*
 refine q0d (by simp) ?_
 refine rQ fi102 ?_
 refine ⟨fun _=>⟨fun h30=>absurd h30 (by omega),fun _=> ?_⟩,fun hneg=>by exfalso;omega⟩
 refine q0h [0] (hr) rfl (by decide) (by repeat first|exact trivial|exact rfl|refine And.intro ?_ ?_) rfl rfl ?_
 simp only [afterO,Out.ren,SV.ren,mgA,sig,SObj.ren,SV.renL,List.set,List.map,List.append_nil,hu]
 refine uQ 600 _ ?_
 with_reducible refine sx1 hu ?_
 refine ⟨fun h0=>⟨by omega,fun h1=>absurd hx2 h1,fun _=> ?_⟩,fun h0=>absurd h0 hx1⟩
 refine eQ [0] (hd) ?_
 exact fun q=>ht (by omega)
theorem q5X {α:Type} {tag:UInt8} {p:PR α} {r:List UInt8}:(takeE tag r≠0∧inP tag p r= .error (takeE tag r))∨
 (takeE tag r=0∧∃e,p (takeC r)= .error e∧inP tag p r= .error e)∨
 (takeE tag r=0∧∃v m,p (takeC r)= .ok (v,m)∧m< (takeC r).length∧inP tag p r= .error 6)∨
 (takeE tag r=0∧∃v m,p (takeC r)= .ok (v,m)∧¬m< (takeC r).length∧inP tag p r= .ok (v,takeN r)):=by
 unfold inP allP
 by_cases h:takeE tag r=0
 · right
   rw [if_pos h]
   cases hp:p (takeC r) with
   |error e=>exact .inl ⟨h,e,rfl,rfl⟩
   |ok x=>
    obtain ⟨v,m⟩:=x
    by_cases hm:m< (takeC r).length
    · exact .inr (.inl ⟨h,v,m,rfl,hm,by simp [hm]⟩)
    exact .inr (.inr ⟨h,v,m,rfl,hm,by simp [hm]⟩)
 exact .inl ⟨h,by rw [if_neg h]⟩
def FitsP {α:Type} (p:PR α):Prop:=∀r v m,p r= .ok (v,m)→m≤r.length
theorem z2Q {α:Type} {tag:UInt8} {p:PR α}:FitsP (inP tag p):=fun r v m h=>by
 rcases q5X (tag:=tag) (p:=p) (r:=r) with ⟨_,e⟩ | ⟨_,_,_,e⟩ | ⟨_,_,_,_,_,e⟩ | ⟨h0,_,_,_,_,e⟩ <;>rw [e] at h<;>cases h
 exact q4B h0
theorem q5C {α:Type} {tag:UInt8} {dec:List UInt8→Option α}:FitsP (rdP tag dec):=fun _ _ _ h=>j3N h
theorem q4J {α:Type} {n:Nat} {p:PR α}:FitsP (needP n p):=fun r v m h=>by
 unfold needP at h
 split at h
 · exact z2Q r v m h
 cases h
theorem q6o {α:Type} {tag:UInt8} {dec:List UInt8→Option α} {r:List UInt8} {e:Nat} (h:rdP tag dec r= .error e):e≠0:=by
 rcases z1T h with ⟨_,_,rfl⟩ | ⟨h1,rfl⟩
 · decide
 exact h1
def shiftP {α:Type} (k:Nat):Except Nat (α×Nat)→Except Nat (α×Nat)
 |.ok (v,m)=>.ok (v,k+m)
 |.error e=>.error e
theorem q8L {α β:Type} {p:PR α} {f:α→PR β} {r:List UInt8} {e:Nat} (h:p r= .error e):bindP p f r= .error e:=by unfold bindP;rw [h]
theorem q8Z {α β:Type} {p:PR α} {f:α→PR β} {b:List UInt8} {n:Nat} {v:α} {k:Nat} (h:p (b.drop n)= .ok (v,k)):bindP p f (b.drop n)=shiftP k (f v (b.drop (n+k))):=by
 unfold bindP;rw [h]
 simp only [List.drop_drop]
 cases f v (b.drop (n+k)) with
 |error e=>rfl
 |ok y=>rfl
theorem z6H {α:Type} {p:PR α} (hp:FitsP p) {b:List UInt8} {n:Nat} (hn:n≤b.length) {v:α} {k:Nat} (h:p (b.drop n)= .ok (v,k)):n+k≤b.length:=by
 have:=hp _ _ _ h
 rw [List.length_drop] at this;omega
def OkP {α:Type} (p:PR α) (Q:α→Prop):Prop:=∀r v m,r.length≤1099511627776→p r= .ok (v,m)→Q v
theorem j3g {α:Type} {tag:UInt8} {dec:List UInt8→Option α} {Q:α→Prop} (h:∀c v,c.length≤1099511627776→dec c=some v→Q v):OkP (rdP tag dec) Q:=fun r v m hr hx=>by
 obtain ⟨_,h2,_⟩:=q9A hx
 exact h _ v (Nat.le_trans (q4h r) hr) h2
theorem z9Z {α:Type} {tag:UInt8} {p:PR α} {Q:α→Prop} (h:OkP p Q):OkP (inP tag p) Q:=fun r v m hr hx=>by
 rcases q5X (tag:=tag) (p:=p) (r:=r) with ⟨_,e⟩ | ⟨_,_,_,e⟩ | ⟨_,_,_,_,_,e⟩ | ⟨_,u,k,g,_,e⟩ <;>rw [e] at hx<;>cases hx
 exact h _ _ _ (Nat.le_trans (q4h r) hr) g
theorem z9D {α:Type} {n:Nat} {p:PR α} {Q:α→Prop} (h:OkP p Q):OkP (needP n p) Q:=fun r v m hr hx=>by
 unfold needP at hx
 split at hx
 · exact z9Z h r v m hr hx
 cases hx
theorem q7X {α β:Type} {p:PR α} {f:α→PR β} {Q1:α→Prop} {Q:β→Prop} (hp:OkP p Q1) (hf:∀v,Q1 v→OkP (f v) Q):OkP (bindP p f) Q:=fun r v m hr hx=>by
 unfold bindP at hx
 cases h1:p r with
 |error e=>rw [h1] at hx;cases hx
 |ok y=>
  obtain ⟨u,k⟩:=y
  rw [h1] at hx
  simp only at hx
  cases h2:f u (r.drop k) with
  |error e=>rw [h2] at hx;cases hx
  |ok z=>
   obtain ⟨w,l⟩:=z
   rw [h2] at hx;cases hx
   exact hf u (hp r u k hr h1) _ _ _ (by rw [List.length_drop];omega) h2
theorem j0s {α:Type} {v:α} {Q:α→Prop} (h:Q v):OkP (retP v) Q:=fun r u m _ hx=>by cases hx;exact h
theorem z2K {α:Type} {p:PR α}:OkP p fun _=>True:=fun _ _ _ _ _=>trivial
theorem j4h (b:List UInt8) (hb:b.length≤140737488355328):PE Tryz.prog 33 [.isl .u8 b] [] (.ret (.ptr 0 0)) [rdr b 0]:=by
 refine q0d (by simp) ?_
 refine rQ fi33 ?_
 refine q0a (q1U b hb) ?_
 refine gQ ?_
 refine eQ [] (z6j b) ?_;trivial
@[go_sem] abbrev errV (e:Int):SV:=.iface 28 (rI e)
def EffX (P:Program) {α:Type} (f:FuncId) (args:List SV) (b:List UInt8) (n:Nat) (res:α→SV):Except Nat (α×Nat)→Prop
 |.ok (v,k)=>PE P f args [rdr b n] (.ret (res v)) [rdr b (n+k)]
 |.error e=>PE P f args [rdr b n] (.pan (errV e)) [.dead]
theorem z1l {P:Program} {α:Type} {f:FuncId} {args:List SV} {b:List UInt8} {n:Nat} {res:α→SV} {x:Except Nat (α×Nat)} {v:α} {k:Nat} (h:EffX P f args b n res x) (hx:x= .ok (v,k)):PE P f args [rdr b n] (.ret (res v)) [rdr b (n+k)]:=by rw [hx] at h;exact h
theorem z1g {P:Program} {α:Type} {f:FuncId} {args:List SV} {b:List UInt8} {n:Nat} {res:α→SV} {x:Except Nat (α×Nat)} {e:Nat} (h:EffX P f args b n res x) (hx:x= .error e):PE P f args [rdr b n] (.pan (errV e)) [.dead]:=by rw [hx] at h;exact h
theorem z0a (v:Value):PC Tryz.prog 129 [.raw v,rI 0] (.raw v):=by
 refine q0q rfl rfl ?_
 refine rQ fi129 ?_;trivial
theorem q9l (v:Value) (e:Nat) (he:e≠0):PE Tryz.prog 129 [.raw v,rI e] [] (.pan (errV e)) []:=by
 refine q0d (by simp) ?_
 refine rQ fi129 ?_
 exact ⟨fun _=>trivial,fun h=>absurd (by omega) he⟩
theorem q6X (v:List UInt8):PC Tryz.prog 130 [.isl .u8 v,rI 0] (.isl .u8 v):=by
 refine q0q rfl rfl ?_
 refine rQ fi130 ?_;trivial
theorem q7g (v:List UInt8) (e:Nat) (he:e≠0):PE Tryz.prog 130 [.isl .u8 v,rI e] [] (.pan (errV e)) []:=by
 refine q0d (by simp) ?_
 refine rQ fi130 ?_
 exact ⟨fun _=>trivial,fun h=>absurd (by omega) he⟩
theorem z4A (b:List UInt8) (n:Nat):PE Tryz.prog 93 [.ptr 0 0,rI 0] [rdr b n] (.ret (.ptr 0 0)) [rdr b n]:=by
 refine q0d (by simp) ?_
 refine rQ fi93 ?_;trivial
theorem q9t (e:Nat) (he:e≠0):PE Tryz.prog 93 [.raw (.pointer none),rI e] [] (.pan (errV e)) []:=by
 refine q0d (by simp) ?_
 refine rQ fi93 ?_
 exact ⟨fun _=>trivial,fun h=>absurd (by omega) he⟩
theorem z7p (b:List UInt8) (n:Nat) (hn:n=b.length):PE Tryz.prog 97 [.ptr 0 0] [rdr b n] (.ret (.tup [])) [rdr b n]:=by
 have he:=q6B b n (by omega)
 refine q0d (by simp) ?_
 refine rQ fi97 ?_
 refine eQ [0] (he) ?_
 exact ⟨fun q=>absurd q (by omega),fun _=>trivial⟩
theorem z6o (b:List UInt8) (n:Nat) (hn:n<b.length):PE Tryz.prog 97 [.ptr 0 0] [rdr b n] (.pan (errV 6)) [.dead]:=by
 have he:=q6B b n (by omega)
 refine q0d (by simp) ?_
 refine rQ fi97 ?_
 refine eQ [0] (he) ?_
 exact ⟨fun _=>trivial,fun q=>absurd (by omega) q⟩
theorem q7V {α:Type} {n:Nat} {p:PR α} {r:List UInt8} (h:nextB n r=false):needP n p r= .error (if r.length=0 then 4 else 6):=by unfold needP;rw [h];rfl
theorem q8H {α:Type} {n:Nat} {p:PR α} {r:List UInt8} (h:nextB n r=true):needP n p r=inP (tagB n) p r:=by unfold needP;rw [h];rfl
def closeP {α:Type} (l N:Nat):Except Nat (α×Nat)→Except Nat (α×Nat)
 |.ok (v,m)=>if m<l then .error 6 else .ok (v,N)
 |.error e=>.error e
theorem j1B {α:Type} {tag:UInt8} {p:PR α} {r:List UInt8} (h:takeE tag r=0):inP tag p r=closeP (takeC r).length (takeN r) (p (takeC r)):=by
 unfold inP allP
 rw [if_pos h]
 cases p (takeC r) with
 |error e=>rfl
 |ok x=>
  obtain ⟨v,m⟩:=x
  simp only [closeP]
  by_cases hm:m< (takeC r).length<;>simp [hm]
theorem j2h {α:Type} {tag:UInt8} {p:PR α} {r:List UInt8} (h:takeE tag r≠0):inP tag p r= .error (takeE tag r):=by
 unfold inP
 rw [if_neg h]
theorem j0g (i:Nat) (hi:i≤30) (b:List UInt8) (n:Nat) (hn:n≤b.length) (hb:b.length≤1099511627776):EffX Tryz.prog 94 [.ptr 0 0,rI i,.fn 72 [] []] b n (fun v=>rI v) (needP i intP (b.drop n)):=by
 cases h:nextB i (b.drop n) with
 |false=>
  rw [q7V h,List.length_drop]
  have hs:=z0W i hi b n hn h
  have hl:=q6B b n hn
  generalize b.length-n=q at*
  refine q0d (by simp) ?_
  refine rQ fi94 ?_
  refine eQ [0] (hs) ?_
  refine eQ [0] (hl) ?_
  by_cases hq:q=0
  · simp [hq]
  simp [hq]
 |true=>
  rw [q8H h]
  by_cases h1:takeE (tagB i) (b.drop n)=0
  · rw [j1B h1]
    have hs:=z0N i hi b n hn hb h h1
    have hc:=q5p (n:=n) hb
    generalize takeC (b.drop n)=c at*
    generalize takeN (b.drop n)=N at*
    cases hx:intP c with
    |error e=>
     have hr:=z4j c 0 (Nat.zero_le _) hc (by rw [List.drop_zero];exact hx)
     refine q0d (by simp) ?_
     refine rQ fi94 ?_
     refine eQ [0] (hs) ?_
     refine eQ [1] (hr) ?_
     refine effP [] (q9l (.int .i64 0) e (q6o hx)) ?_;trivial
    |ok x=>
     obtain ⟨v,m⟩:=x
     have hm:=q5C _ _ _ hx
     have hr:=z5I c 0 (Nat.zero_le _) hc (by rw [List.drop_zero];exact hx)
     have hl:=q6B c m hm
     rw [Nat.zero_add] at hr
     simp only [closeP]
     by_cases hml:m<c.length
     · rw [if_pos hml]
       refine q0d (by simp) ?_
       refine rQ fi94 ?_
       refine eQ [0] (hs) ?_
       refine eQ [1] (hr) ?_
       refine q0a (z0a _) ?_
       refine gQ ?_
       refine effP [1] (z6o c m hml) ?_
       rfl
     rw [if_neg hml]
     refine q0d (by simp) ?_
     refine rQ fi94 ?_
     refine eQ [0] (hs) ?_
     refine eQ [1] (hr) ?_
     refine q0a (z0a _) ?_
     refine gQ ?_
     refine eQ [1] (z7p c m (by omega)) ?_;trivial
  rw [j2h h1]
  have hs:=z1c i hi b n hn hb h h1
  generalize takeE (tagB i) (b.drop n)=e at*
  refine q0d (by simp) ?_
  refine rQ fi94 ?_
  refine eQ [0] (hs) ?_
  exact ⟨fun _=>trivial,fun q=>absurd (by omega) h1⟩
theorem j3K (i:Nat) (hi:i≤30) (b:List UInt8) (n:Nat) (hn:n≤b.length) (hb:b.length≤1099511627776):EffX Tryz.prog 95 [.ptr 0 0,rI i,.fn 96 [] []] b n (fun v=>.isl .u8 v) (needP i octP (b.drop n)):=by
 cases h:nextB i (b.drop n) with
 |false=>
  rw [q7V h,List.length_drop]
  have hs:=z0W i hi b n hn h
  have hl:=q6B b n hn
  generalize b.length-n=q at*
  refine q0d (by simp) ?_
  refine rQ fi95 ?_
  refine eQ [0] (hs) ?_
  refine eQ [0] (hl) ?_
  by_cases hq:q=0
  · simp [hq]
  simp [hq]
 |true=>
  rw [q8H h]
  by_cases h1:takeE (tagB i) (b.drop n)=0
  · rw [j1B h1]
    have hs:=z0N i hi b n hn hb h h1
    have hc:=q5p (n:=n) hb
    generalize takeC (b.drop n)=c at*
    generalize takeN (b.drop n)=N at*
    cases hx:octP c with
    |error e=>
     have hr:=j2e c 0 (Nat.zero_le _) hc (by rw [List.drop_zero];exact hx)
     refine q0d (by simp) ?_
     refine rQ fi95 ?_
     refine eQ [0] (hs) ?_
     refine eQ [1] (hr) ?_
     refine effP [] (q7g [] e (q6o hx)) ?_;trivial
    |ok x=>
     obtain ⟨v,m⟩:=x
     have hm:=q5C _ _ _ hx
     have hr:=j2a c 0 (Nat.zero_le _) hc (by rw [List.drop_zero];exact hx)
     have hl:=q6B c m hm
     rw [Nat.zero_add] at hr
     simp only [closeP]
     by_cases hml:m<c.length
     · rw [if_pos hml]
       refine q0d (by simp) ?_
       refine rQ fi95 ?_
       refine eQ [0] (hs) ?_
       refine eQ [1] (hr) ?_
       refine q0a (q6X _) ?_
       refine gQ ?_
       refine effP [1] (z6o c m hml) ?_
       rfl
     rw [if_neg hml]
     refine q0d (by simp) ?_
     refine rQ fi95 ?_
     refine eQ [0] (hs) ?_
     refine eQ [1] (hr) ?_
     refine q0a (q6X _) ?_
     refine gQ ?_
     refine eQ [1] (z7p c m (by omega)) ?_;trivial
  rw [j2h h1]
  have hs:=z1c i hi b n hn hb h h1
  generalize takeE (tagB i) (b.drop n)=e at*
  refine q0d (by simp) ?_
  refine rQ fi95 ?_
  refine eQ [0] (hs) ?_
  exact ⟨fun _=>trivial,fun q=>absurd (by omega) h1⟩
def zO {α:Type} (res:α→SV):Except Nat (α×Nat)→Out
 |.ok (v,_)=>.ret (res v)
 |.error e=>.pan (errV e)
def zH {α:Type} (b:List UInt8) (n m:Nat):Except Nat (α×Nat)→List SObj
 |.ok (_,k)=>[rdr b (n+k)]
 |.error _=>[rdr b m]
attribute [go_sem] zO zH
def EffZ (P:Program) {α:Type} (f:FuncId) (args:List SV) (b:List UInt8) (n m:Nat) (res:α→SV) (x:Except Nat (α×Nat)):Prop:=PE P f args [rdr b n] (zO res x) (zH b n m x)
theorem z1G {P:Program} {α:Type} {f:FuncId} {args:List SV} {b:List UInt8} {n m:Nat} {res:α→SV} {x:Except Nat (α×Nat)} (h:VC P f args [rdr b n] (SealO (zO res x) (zH b n m x))):EffZ P f args b n m res x:=by
 cases x with
 |error e=>exact q0d (by simp [zH]) h
 |ok y=>exact q0d (by simp [zH]) h
theorem z6D {P:Program} {α:Type} {f:FuncId} {args:List SV} {b:List UInt8} {n m:Nat} {res:α→SV} {x:Except Nat (α×Nat)} {v:α} {k:Nat} (h:EffZ P f args b n m res x) (hx:x= .ok (v,k)):PE P f args [rdr b n] (.ret (res v)) [rdr b (n+k)]:=by rw [hx] at h;exact h
theorem z6V {P:Program} {α:Type} {f:FuncId} {args:List SV} {b:List UInt8} {n m:Nat} {res:α→SV} {x:Except Nat (α×Nat)} {e:Nat} (h:EffZ P f args b n m res x) (hx:x= .error e):PE P f args [rdr b n] (.pan (errV e)) [rdr b m]:=by rw [hx] at h;exact h
def posX (b:List UInt8) (n:Nat):Nat:=if takeE 48 (b.drop n)=0 then n+takeN (b.drop n) else n
theorem j4a {b:List UInt8} {n:Nat} (h:takeE 48 (b.drop n)=0):posX b n=n+takeN (b.drop n):=if_pos h
theorem j3G {b:List UInt8} {n:Nat} (h:takeE 48 (b.drop n)≠0):posX b n=n:=if_neg h
def tripIn:PR Key:=bindP (needP 0 intP) fun a=>bindP (needP 1 intP) fun k=>bindP (needP 2 octP) fun c=>retP ((a,k,c):Key)
def keyP:PR Key:=inP 48 tripIn
theorem z7C {α β:Type} {p:PR α} {f:α→PR β} {b:List UInt8} {v:α} {k:Nat} (h:p b= .ok (v,k)):bindP p f b=shiftP k (f v (b.drop k)):=by
 have:=q8Z (f:=f) (b:=b) (n:=0) (by rw [List.drop_zero];exact h)
 rwa [List.drop_zero,Nat.zero_add] at this
theorem z6B (b:List UInt8) (n:Nat) (hn:n≤b.length) (hb:b.length≤1099511627776):
 EffZ Tryz.prog 66 [.ptr 0 0] b n (posX b n) (fun v:Key=>.tup [rI v.1,rI v.2.1,.isl .u8 v.2.2]) (keyP (b.drop n)):=by
 unfold keyP
 by_cases h:takeE 48 (b.drop n)=0
 · have hs:=z4n b n hn hb h
   have hc:=q5p (n:=n) hb
   rw [j1B h,j4a h]
   generalize takeC (b.drop n)=c at*
   generalize takeN (b.drop n)=N at*
   unfold tripIn
   refine z1G ?_
   refine rQ fi66 ?_
   refine eQ [0] (hs) ?_
   refine eQ [1] (z4A c 0) ?_
   have e1:=j0g 0 (by omega) c 0 (Nat.zero_le _) hc
   rw [List.drop_zero] at e1
   cases h1:needP 0 intP c with
   |error e=>
    rw [q8L h1]
    have e1':=z1g e1 h1
    simp only [closeP]
    refine effP [1] (e1') ?_;trivial
   |ok x=>
    obtain ⟨v1,k1⟩:=x
    rw [z7C h1]
    have e1':=z1l e1 h1
    have f1:=q4J _ _ _ h1
    rw [Nat.zero_add] at e1'
    refine eQ [1] (e1') ?_
    have e2:=j0g 1 (by omega) c _ f1 hc
    cases h2:needP 1 intP (c.drop k1) with
    |error e=>
     rw [q8L h2]
     have e2':=z1g e2 h2
     simp only [shiftP,closeP]
     refine effP [1] (e2') ?_;trivial
    |ok x=>
     obtain ⟨v2,k2⟩:=x
     rw [q8Z h2]
     have e2':=z1l e2 h2
     have f2:=z6H q4J f1 h2
     refine eQ [1] (e2') ?_
     have e3:=j3K 2 (by omega) c _ f2 hc
     cases h3:needP 2 octP (c.drop (k1+k2)) with
     |error e=>
      rw [q8L h3]
      have e3':=z1g e3 h3
      simp only [shiftP,closeP]
      refine effP [1] (e3') ?_;trivial
     |ok x=>
      obtain ⟨v3,k3⟩:=x
      rw [q8Z h3]
      have e3':=z1l e3 h3
      have f3:=z6H q4J f2 h3
      simp only [shiftP,retP,closeP]
      refine eQ [1] (e3') ?_
      by_cases hm:k1+k2+k3<c.length
      · rw [if_pos (by omega)]
        refine effP [1] (z6o c _ hm) ?_
        rfl
      rw [if_neg (by omega)]
      refine eQ [1] (z7p c (k1+k2+k3) (by omega)) ?_;trivial
 have hs:=z5e b n hn hb h
 rw [j2h h,j3G h]
 generalize takeE 48 (b.drop n)=e at*
 refine z1G ?_
 refine rQ fi66 ?_
 refine eQ [0] (hs) ?_
 refine effP [] (q9t e h) ?_;trivial
def ErrP {α:Type} (p:PR α):Prop:=∀r e,p r= .error e→e≠0
theorem z0L {α:Type} {tag:UInt8} {dec:List UInt8→Option α}:ErrP (rdP tag dec):=fun _ _ h=>q6o h
theorem z4z {α:Type} {tag:UInt8} {p:PR α} (hp:ErrP p):ErrP (inP tag p):=fun r e h=>by
 rcases q5X (tag:=tag) (p:=p) (r:=r) with ⟨h1,e'⟩ | ⟨_,e1,h2,e'⟩ | ⟨_,_,_,_,_,e'⟩ | ⟨_,_,_,_,_,e'⟩ <;>rw [e'] at h<;>cases h
 · exact h1
 · exact hp _ _ h2
 decide
theorem q6k {α:Type} {n:Nat} {p:PR α} (hp:ErrP p):ErrP (needP n p):=fun r e h=>by
 cases hb:nextB n r with
 |false=>
  rw [q7V hb] at h
  split at h<;>cases h<;>decide
 |true=>rw [q8H hb] at h;exact z4z hp r e h
theorem q6H {α β:Type} {p:PR α} {f:α→PR β} (hp:ErrP p) (hf:∀v,ErrP (f v)):ErrP (bindP p f):=fun r e h=>by
 unfold bindP at h
 cases h1:p r with
 |error e1=>rw [h1] at h;cases h;exact hp r _ h1
 |ok y=>
  obtain ⟨u,k⟩:=y
  rw [h1] at h
  simp only at h
  cases h2:f u (r.drop k) with
  |error e2=>rw [h2] at h;cases h;exact hf u _ _ h2
  |ok z=>obtain ⟨w,l⟩:=z;rw [h2] at h;cases h
theorem z9d {α:Type} {v:α}:ErrP (retP v):=fun _ _ h=>by cases h
theorem j2A:ErrP keyP:=z4z (q6H (q6k z0L) fun _=>q6H (q6k z0L) fun _=>q6H (q6k z0L) fun _=>z9d)
def EffR (P:Program) {α:Type} (f:FuncId) (args:List SV) (b:List UInt8) (n:Nat) (res:α→SV) (z:SV):Except Nat (α×Nat)→Prop
 |.ok (v,k)=>PE P f args [rdr b n] (.ret (.tup [res v,rI 0])) [rdr b (n+k)]
 |.error e=>PE P f args [rdr b n] (.ret (.tup [z,rI e])) [rdr b n]
theorem z6r {P:Program} {α:Type} {f:FuncId} {args:List SV} {b:List UInt8} {n:Nat} {res:α→SV} {z:SV} {x:Except Nat (α×Nat)} {v:α} {k:Nat} (h:EffR P f args b n res z x) (hx:x= .ok (v,k)):PE P f args [rdr b n] (.ret (.tup [res v,rI 0])) [rdr b (n+k)]:=by rw [hx] at h;exact h
theorem z6d {P:Program} {α:Type} {f:FuncId} {args:List SV} {b:List UInt8} {n:Nat} {res:α→SV} {z:SV} {x:Except Nat (α×Nat)} {e:Nat} (h:EffR P f args b n res z x) (hx:x= .error e):PE P f args [rdr b n] (.ret (.tup [z,rI e])) [rdr b n]:=by rw [hx] at h;exact h
abbrev zKey:SV:=.agg [rI 0,rI 0,.isl .u8 []]
theorem q6f {n:Nat} {b:List UInt8} (hn:n≤30) (h:b.length≤16777215) (h0:b≠ []):wrapS 160 n b=tlv (tagB n) b:=by rw [q5P hn h,if_neg h0]
theorem q4e {t:UInt8} {c:List UInt8}:tlv t c≠ []:=by simp [tlv]
theorem z7I (a v:Int) (c:List UInt8) (ha:0≤a∧a≤1048576) (hv:0≤v∧v≤1048576) (hc:c.length≤65536):keyS (a,v,c)=tlv 48 (sufS [intS a,intS v,elemS 4 [c]] 0 3)∧(sufS [intS a,intS v,elemS 4 [c]] 0 3).length≤16777215:=by
 have i1:=q2k a
 have i2:=q2k v
 obtain ⟨c1,e1,_⟩:=q7B (v:=a) (by omega)
 obtain ⟨c2,e2,_⟩:=q7B (v:=v) (by omega)
 have e3:elemS 4 [c]=tlv 4 c:=q2R (by omega)
 have w3:=q1r 4 [c]
 simp only [List.flatten_cons,List.flatten_nil,List.append_nil] at w3
 have w0:=q1O 160 0 (intS a)
 have w1:=q1O 160 1 (intS v)
 have w2:=q1O 160 2 (elemS 4 [c])
 have n0:wrapS 160 0 (intS a)≠ []:=by rw [show (0:Int)=((0:Nat):Int) from rfl,q6f (by omega) (by omega) (by rw [e1];exact q4e)];exact q4e
 have n1:wrapS 160 1 (intS v)≠ []:=by rw [show (1:Int)=((1:Nat):Int) from rfl,q6f (by omega) (by omega) (by rw [e2];exact q4e)];exact q4e
 have n2:wrapS 160 2 (elemS 4 [c])≠ []:=by rw [show (2:Int)=((2:Nat):Int) from rfl,q6f (by omega) (by omega) (by rw [e3];exact q4e)];exact q4e
 have hf:(tagN [intS a,intS v,elemS 4 [c]] 3).flatten=sufS [intS a,intS v,elemS 4 [c]] 0 3:=z8m [intS a,intS v,elemS 4 [c]]
 have ht:tagN [intS a,intS v,elemS 4 [c]] 3= [wrapS 160 0 (intS a),wrapS 160 1 (intS v),wrapS 160 2 (elemS 4 [c])]:=by simp [tagN,List.range_succ]
 have hl:(sufS [intS a,intS v,elemS 4 [c]] 0 3).length≤16777215:=by
  rw [←hf,ht]
  simp only [List.flatten_cons,List.flatten_nil,List.append_nil,List.length_append]
  omega
 refine ⟨?_,hl⟩
 have hfull:allN 3 (fullAt [wrapS 160 0 (intS a),wrapS 160 1 (intS v),wrapS 160 2 (elemS 4 [c])])=true:=by
  refine q1N fun j hj=> ?_
  match j,hj with
  |0,_=>exact decide_eq_true n0
  |1,_=>exact decide_eq_true n1
  |2,_=>exact decide_eq_true n2
 show wholeS [wrapS 160 0 (intS a),wrapS 160 1 (intS v),wrapS 160 2 (elemS 4 [c])]=_
 unfold wholeS
 rw [show ([wrapS 160 0 (intS a),wrapS 160 1 (intS v),wrapS 160 2 (elemS 4 [c])]:List (List UInt8)).length=3 from rfl,if_pos hfull,←ht,q7s (by rw [hf];exact hl),hf]
theorem j1f (a v:Int) (c:List UInt8) (ha:0≤a∧a≤1048576) (hv:0≤v∧v≤1048576) (hc:c.length≤65536) (r:List UInt8):keyP (keyS (a,v,c)++r)= .ok ((a,v,c),(keyS (a,v,c)).length):=by
 have i1:=q2k a
 have i2:=q2k v
 obtain ⟨c1,e1,_⟩:=q7B (v:=a) (by omega)
 obtain ⟨c2,e2,_⟩:=q7B (v:=v) (by omega)
 have e3:elemS 4 [c]=tlv 4 c:=q2R (by omega)
 have w3:=q1r 4 [c]
 simp only [List.flatten_cons,List.flatten_nil,List.append_nil] at w3
 have hL:∀j,(([intS a,intS v,elemS 4 [c]]:List (List UInt8)).getD j []).length≤16777215:=fun j=>by
  match j with
  |0=>show (intS a).length≤_;omega
  |1=>show (intS v).length≤_;omega
  |2=>show (elemS 4 [c]).length≤_;omega
  |j+3=>exact Nat.zero_le _
 obtain ⟨hS,hin⟩:=z7I a v c ha hv hc
 rw [hS]
 refine z6U hin ?_ r
 have q0:intP (([intS a,intS v,elemS 4 [c]]:List (List UInt8)).getD 0 [])= .ok (a,(([intS a,intS v,elemS 4 [c]]:List (List UInt8)).getD 0 []).length):=full (e:=intS a) (z0R (by omega))
 have q1:intP (([intS a,intS v,elemS 4 [c]]:List (List UInt8)).getD 1 [])= .ok (v,(([intS a,intS v,elemS 4 [c]]:List (List UInt8)).getD 1 []).length):=full (e:=intS v) (z0R (by omega))
 have q2:octP (([intS a,intS v,elemS 4 [c]]:List (List UInt8)).getD 2 [])= .ok (c,(([intS a,intS v,elemS 4 [c]]:List (List UInt8)).getD 2 []).length):=full (e:=elemS 4 [c]) (j0C (by omega))
 have n0:([intS a,intS v,elemS 4 [c]]:List (List UInt8)).getD 0 []≠ []:=by show intS a≠ [];rw [e1];exact q4e
 have n1:([intS a,intS v,elemS 4 [c]]:List (List UInt8)).getD 1 []≠ []:=by show intS v≠ [];rw [e2];exact q4e
 have n2:([intS a,intS v,elemS 4 [c]]:List (List UInt8)).getD 2 []≠ []:=by show elemS 4 _≠ [];rw [e3];exact q4e
 have g:=q8T (f:=fun a=>bindP (needP 1 intP) fun k=>bindP (needP 2 octP) fun c=>retP ((a,k,c):Key)) (q8P (k:=2) hL (by omega) n0 q0)
  (q8T (f:=fun k=>bindP (needP 2 octP) fun c=>retP ((a,k,c):Key)) (q8P (k:=1) hL (by omega) n1 q1)
   (q8T (f:=fun c=>retP ((a,v,c):Key)) (q8P (k:=0) hL (by omega) n2 q2) rfl))
 show tripIn _=_
 unfold tripIn
 rw [g]
 congr 2
 rw [q4i,q4i,q4i]
 simp only [sufS,List.range'_zero,List.map_nil,List.flatten_nil,List.append_nil,List.length_append,Nat.zero_add,Nat.reduceAdd]
 omega
theorem z8G (a v:Int) (c:List UInt8):(keyS (a,v,c)).length≤c.length+58:=by
 have i1:=q2k a
 have i2:=q2k v
 have w3:=q1r 4 [c]
 simp only [List.flatten_cons,List.flatten_nil,List.append_nil] at w3
 have w0:=q1O 160 0 (intS a)
 have w1:=q1O 160 1 (intS v)
 have w2:=q1O 160 2 (elemS 4 [c])
 show (wholeS [wrapS 160 0 (intS a),wrapS 160 1 (intS v),wrapS 160 2 (elemS 4 [c])]).length≤_
 have w4:=q1r 48 [wrapS 160 0 (intS a),wrapS 160 1 (intS v),wrapS 160 2 (elemS 4 [c])]
 simp only [List.flatten_cons,List.flatten_nil,List.append_nil,List.length_append] at w4
 unfold wholeS
 split
 · omega
 simp
theorem flat_len {α:Type} (f:α→List UInt8) (B:Nat):∀l:List α,(∀x∈l,(f x).length≤B)→(l.map f).flatten.length≤B*l.length
 | [],_=>by simp
 |x :: l,h=>by
  have h1:=h x (by simp)
  have h2:=flat_len f B l fun y hy=>h y (by simp [hy])
  simp only [List.map_cons,List.flatten_cons,List.length_append,List.length_cons,Nat.mul_add,Nat.mul_one]
  omega
def rO {α:Type} (res:α→SV) (z:SV):Except Nat (α×Nat)→Out
 |.ok (v,_)=>.ret (.tup [res v,rI 0])
 |.error e=>.ret (.tup [z,rI e])
def rH {α:Type} (b:List UInt8) (n:Nat):Except Nat (α×Nat)→List SObj
 |.ok (_,k)=>[rdr b (n+k)]
 |.error _=>[rdr b n]
attribute [go_sem] rO rH
end Go.Proofs.YtikapabgggphpaaGreatDoor
