/- A part of the proof: a symbolic executor over abstract values, and its soundness. -/
import Derived.Test.YtmapiojgmbgbgaaGreatDoorV8
set_option linter.all false
namespace Go.Sx
open Go

variable [Ghost] {P:Program} {o:Oper} {ev:Operand→SV} {H:List SObj} {K:Out→List SObj→Prop}

def Res.to(P:Program)(H:List SObj)(K:Out→List SObj→Prop):Res→Prop
 |.val p s=>p∧K (.ret s) H
 |.amb E s=>∀b:Bool,(b=true→E)→K (.ret (s b)) H
 |.new p s Hk so=>p∧K (.ret s) (Hk++ [so])
 |.set s h so=>K (.ret s) (H.set h so)
 |.setp p s h so=>p∧K (.ret s) (H.set h so)
 |.call f args=>enters P f=true∧VCallG P f args H K
 |.pan s=>K (.pan s) H
 |.zld ag b off=>∀E C,Wd C H→Ghost.inv E C H→∃s,ZLd C ag b off s∧K (.ret s) H
 |.zst n b off y=>∃ds,y.flat=some ds∧ds.length=n∧ones ds=true∧(∀E C us,Wd C H→Ghost.inv E C H→SV.denL C ds us→ZSt E C H b off us)∧K (.ret .any) H
 |.yld l args=>VYld P l args H K
 |.none=>False

theorem z1U{T:TypeId}{x:Operand}{ag:Option Nat}{h i k:Nat}{t t':Ty}{xs:List t'.den}(hop:o.op= .load T x)(ha:aggOf P T=some ag)(he:ev x= .rptr h t i k)(hH:H[h]?=some (.row t' xs))(hr:(ldRow t' xs t i k ag).to P H K):OpV P o ev H K:=by
 unfold ldRow at hr;split at hr
 · rename_i e;subst e;split at hr
   · split at hr
     · rename_i hp;obtain ⟨h1,h2⟩:=hr;refine q9D hop ha he hH ?_ hp h2;rw [Ad,Ab h1];rfl
     split at hr
     · split at hr
       · rename_i hc;obtain ⟨h1,rfl,h3⟩:=hc;exact q8R hop ha he hH h1 h3 hr.1 hr.2
       exact hr.elim
     exact hr.elim
   split at hr
   · split at hr
     · exact z1a hop ha he hH hr.1 (by assumption) (by assumption) hr.2
     exact hr.elim
   exact hr.elim
 split at hr
 · split at hr
   · split at hr
     · rename_i h1;split at hr
       · split at hr
         · exact q5Q hop ha he h1 hH (by assumption) (.inl ⟨rfl,hr.1,by assumption⟩) hr.2
         exact hr.elim
       split at hr
       · exact q5Q hop ha he h1 hH (by assumption) (.inr ⟨_,rfl,by assumption,hr.1,rfl⟩) hr.2
       exact hr.elim
     exact hr.elim
   exact hr.elim
 exact hr.elim
theorem z8d{t:TypeId}{x:Operand}{ag:Option Nat}(hop:o.op= .load t x)(ha:aggOf P t=some ag)(h:(evLd H ag (ev x)).to P H K):OpV P o ev H K:=by
 generalize he:ev x=s at h;unfold evLd at h;split at h
 · split at h
   · split at h
     · exact z0T hop ha he (by assumption) (by assumption) h.2
     exact h.elim
   exact h.elim
 · split at h
   · split at h
     · exact q9o hop ha he (by assumption) h.2
     exact h.elim
   split at h
   · split at h
     · exact q9h hop ha he (by assumption) (by assumption) h.2
     exact h.elim
   exact h.elim
 · split at h
   · exact z1U hop ha he (by assumption) h
   · split at h
     · exact q7I hop ha he (by assumption) (by assumption) h.2
     exact h.elim
   exact h.elim
 · exact j1X hop ha he h
 exact h.elim

theorem q4o{T:TypeId}{x y:Operand}{h i k n:Nat}{t t':Ty}{xs:List t'.den}(hop:o.op= .store T x y)(ha:(P.info? T).map (·.size)=some n)(he:ev x= .rptr h t i k)(hH:H[h]?=some (.row t' xs))(hr:(stRow h t' xs t i k n (ev y)).to P H K):OpV P o ev H K:=by
 generalize hy:ev y=sy at hr;unfold stRow at hr;split at hr
 · rename_i e;subst e;split at hr
   · split at hr
     · split at hr
       · rename_i hc;obtain ⟨rfl,rfl,h1,rfl,h0⟩:=hc;exact q4g hop ha he (fun _ _ h=>by rw [hy] at h;exact h) hH h1 h0 hr.1 (fun _=>by simpa using hr.2)
       exact hr.elim
     · split at hr
       · rename_i hrd;split at hr
         · rename_i hc;obtain ⟨rfl,h1,h0⟩:=hc
           exact q4g hop ha he (fun C v h=>by
            rw [hy,SV.den] at h;obtain ⟨us,rfl,hd⟩:=h;obtain ⟨g1,g2⟩:=q9m _ _ _ _ _ hrd hr.1.1 hd;rw [SV.den];refine ⟨us,rfl,?_⟩;have:=(q3s h1).1 g1
            rwa [g2] at this) hH h1 h0 hr.1.2 (fun _=>hr.2)
         exact hr.elim
       exact hr.elim
     exact hr.elim
   split at hr
   · split at hr
     · rename_i hc;obtain ⟨rfl,hc⟩:=hc;split at hr
       · rename_i hput;rw [←hy] at hput;exact q9v hop ha he hH hput hr.1 hc hr.2
       exact hr.elim
     exact hr.elim
   exact hr.elim
 split at hr
 · split at hr
   · split at hr
     · rename_i h1;obtain ⟨h1,rfl⟩:=h1;split at hr
       · rename_i hd;rw [←hy] at hd;split at hr
         · exact q8z hop ha he h1 hH hd hr.1.1 (by assumption) hr.1.2 hr.2
         exact hr.elim
       exact hr.elim
     exact hr.elim
   exact hr.elim
 exact hr.elim
theorem z7V{t:TypeId}{x y:Operand}{n:Nat}(hop:o.op= .store t x y)(ha:(P.info? t).map (·.size)=some n)(h:(evSt H n (ev y) (ev x)).to P H K):OpV P o ev H K:=by
 generalize he:ev x=s at h;unfold evSt at h;split at h
 · split at h
   · split at h
     · rename_i hc;exact q8T hop ha he (by assumption) (by assumption) hc.1 hc.2.1 hc.2.2 h
     exact h.elim
   exact h.elim
 · split at h
   · rename_i hH;split at h
     · rename_i hy;rw [←hy] at h;exact q4o hop ha he hH h
     rename_i hy;split at h
     · rename_i hc0;obtain ⟨rfl,_⟩:=hc0;split at h
       · rename_i hf;split at h
         · rename_i hc;obtain ⟨hc1,hc2,hc3⟩:=hc;split at h
           · exact q7G hop ha he hH h.1.1 hf hc1 hc2 hc3 (by assumption) h.1.2 h.2
           exact h.elim
         exact q4o hop ha he hH h
       exact h.elim
     exact q4o hop ha he hH h
   exact h.elim
 · obtain ⟨ds,hf,hn,h1,hz,hk⟩:=h;exact j2C hop ha he hf hn h1 hz hk
 exact h.elim

theorem j0y{t:TypeId}{s:SV}(h:eqOk (eqK P t) s=true):eqKind P t s=true:=by
 have e1:eqK P t=1→kPtr P t=true:=fun e=>by unfold eqK at e;split at e;assumption;split at e;cases e;split at e;cases e;split at e<;>cases e
 have e2:eqK P t=2→kFunc P t=true:=fun e=>by unfold eqK at e;split at e;cases e;split at e;assumption;split at e;cases e;split at e<;>cases e
 have e3:eqK P t=3→kBool P t=true:=fun e=>by unfold eqK at e;split at e;cases e;split at e;cases e;split at e;assumption;split at e<;>cases e
 unfold eqOk at h;split at h
 · exact e1 (by simpa using h)
 · exact e2 (by simpa using h)
 · exact e3 (by simpa using h)
 cases h

theorem z3H{op:BinOp}{t t':TypeId}{x y:Operand}(hop:o.op= .binOp op t x y t')(h:(evEq op (eqK P t) (ev x) (ev y)).to P H K):OpV P o ev H K:=by
 unfold evEq at h;split at h
 · rename_i hk5;have hs:kSlice P t=true:=by unfold eqK at hk5;split at hk5;cases hk5;split at hk5;cases hk5;split at hk5;cases hk5;split at hk5;assumption;cases hk5
   unfold evNil at h;split at h
   · rename_i hy;split at h
     · rename_i hx;split at h
       · exact q8e hop (.inl rfl) hs hx hy (by simpa using h.2)
       · exact q8e hop (.inr rfl) hs hx hy (by simpa using h.2)
       exact h.elim
     split at h
     · rename_i E hE;split at h
       · exact z3z hop (.inl rfl) hs hE hy (fun b hb=>by simpa using h b hb)
       · exact z3z hop (.inr rfl) hs hE hy (fun b hb=>by simpa using h b hb)
       exact h.elim
     exact h.elim
   exact h.elim
 split at h
 · rename_i r hr;split at h
   · rename_i hk;split at h
     · exact z6b hop (.inl rfl) hr (j0y hk) (by simpa using h.2)
     · exact z6b hop (.inr rfl) hr (j0y hk) (by simpa using h.2)
     exact h.elim
   exact h.elim
 exact h.elim

theorem z7d{op:BinOp}{t t':TypeId}{x y:Operand}(hop:o.op= .binOp op t x y t')(h:(evBin op (eqK P t) (ev x) (ev y)).to P H K):OpV P o ev H K:=by
 generalize hx:ev x=sx at h;generalize hy:ev y=sy at h;unfold evBin at h;split at h
 · split at h
   · exact j2w hop hx hy (by assumption) h.1 h.2
   exact z3H hop (by rw [hx,hy];exact h)
 exact z3H hop (by rw [hx,hy];exact h)

theorem OpV.wk(h:OpV P o (fun y=>(ev y).wk) H K):OpV P o ev H K:=
 fun E C r n a next Q hw hg hv h1 h2=>h E C r n a next Q hw hg (fun x hx=>z8L _ _ _ (hv x hx)) h1 h2
theorem j2Q{s:SV}{v:Value}(h:s= .raw v):s.wk= .raw v:=by rw [h];rfl
theorem z0E{c:Call}{t:TypeId}{x:Operand}{k:Bool}(hop:o.op= .call c)(hc:c.callee= .builtin .len)(ha:c.args= #[x])(hty:c.argTypes= #[t])(hk:(k=true∧P.underlying t=some .string)∨(k=false∧∃e,P.underlying t=some (.slice e)))
 (h:((IOp.len k x).ev H ev).to P H K):OpV P o ev H K:=by
 refine OpV.wk ?_;simp only [IOp.ev] at h;split at h
 · rename_i n hn;split at h
   · rename_i hl;refine j1c hop hc ha hty hn ?_ h.2;unfold lenKind;unfold lenOk at hl;split at hl
     · rename_i s hs;rcases hk with ⟨_,hu⟩ | ⟨rfl,_⟩
       · rw [hs];simp [hu]
       cases hl
     rename_i hs;rcases hk with ⟨rfl,_⟩ | ⟨_,e,hu⟩
     · cases hl
     split
     · exact absurd (by assumption) (hs _)
     simp [hu]
   exact h.elim
 exact h.elim

theorem z8w{t e:TypeId}{x i:Operand}{sz:Nat}(hop:o.op= .indexAddr t x i)(ht:P.underlying t=some (.slice e))(hs:(P.info? e).map (·.size)=some sz)(h:((IOp.ia sz x i).ev H ev).to P H K):OpV P o ev H K:=by
 refine OpV.wk ?_;simp only [IOp.ev] at h;split at h
 · rename_i n hi;have hi:=j2Q hi;split at h
   · split at h
     · rename_i hz;subst hz;exact q5q hop ht hs (by assumption) hi h.1.1 h.1.2 (fun _=>h.2)
     exact h.elim
   · split at h
     · rename_i hz;subst hz;exact q2T hop ht hs (.inr ⟨by assumption,rfl⟩) hi h.1.1 h.1.2 h.2
     exact h.elim
   · split at h
     · rename_i hz;subst hz;exact q2T hop ht hs (.inl (by assumption)) hi h.1.1 h.1.2 h.2
     exact h.elim
   · split at h
     · rename_i hz;subst hz;exact q5o hop ht hs (by assumption) hi h.1.1 h.1.2 h.2
     exact h.elim
   · exact q5D hop ht hs (by assumption) hi h.1.1 h.1.2 h.2
   exact h.elim
 exact h.elim

theorem z2M{T:TypeId}{x:Operand}{lo hi:Option Operand}{k:Option Nat}(hop:o.op= .slice T x lo hi none)(hk:(k=none∧P.underlying T=some .string)∨(∃n e,k=some n∧P.underlying T=some (.slice e)∧(P.info? e).map (·.size)=some n))
 (h:((IOp.sl k x lo hi).ev H ev).to P H K):OpV P o ev H K:=by
 simp only [IOp.ev] at h;split at h
 · split at h
   · split at h
     · rename_i hs hok;refine z7e hop ?_ (by assumption) (by assumption) h.1.1 h.1.2.1 h.1.2.2 (by assumption) h.2
       unfold slOk at hok;unfold sliceKind;split at hok
       · rename_i e1 e2;rcases hk with ⟨_,hu⟩ | ⟨n,e,he,_⟩
         · rw [e2];simp [hu]
         cases he
       · rename_i e2;rcases hk with ⟨he,_⟩ | ⟨n,e,he,hu,hn⟩
         · cases he
         cases he;rw [e2];simp only [hu];rw [beq_iff_eq] at hok⊢;rw [hn,hok]
       · rename_i e2;rcases hk with ⟨he,_⟩ | ⟨n,e,he,hu,hn⟩
         · cases he
         cases he;rw [e2];simp only [hu];rw [beq_iff_eq] at hok⊢;rw [hn,hok]
       · rename_i e2;rcases hk with ⟨he,_⟩ | ⟨n,e,he,hu,hn⟩
         · cases he
         cases he;rw [e2];simp only [hu];rw [beq_iff_eq] at hok⊢;rw [hn,hok]
       · rename_i e2;rcases hk with ⟨he,_⟩ | ⟨n,e,he,hu,hn⟩
         · cases he
         cases he;rw [e2];simp only [hu];rw [beq_iff_eq] at hok⊢;rw [hn,hok]
       · rename_i e2;rcases hk with ⟨he,_⟩ | ⟨n,e,he,hu,hn⟩
         · cases he
         cases he;rw [e2];simp only [hu];cases hi:P.info? e with
         |none=>simp [hi] at hn
         |some i=>rfl
       cases hok
     exact h.elim
   exact h.elim
 exact h.elim
theorem z6L{T e:TypeId}{x hi mx:Operand}{lo:Option Operand}{n:Nat}{f:Bool}(hop:o.op= .slice T x lo (some hi) (some mx))(hu:P.underlying T=some (.slice e))(hn:(P.info? e).map (·.size)=some n)(_:f=true→hi=mx)
 (h:((IOp.sl3 n f x lo hi mx).ev H ev).to P H K):OpV P o ev H K:=by
 simp only [IOp.ev] at h;split at h
 · rename_i a b m h1 h2 h3;split at h
   · split at h
     · rename_i hs hok;have hkind:sliceKind P T (ev x)=true∧∀str,ev x≠ .raw (.string str):=by
        unfold slOk at hok;unfold sliceKind;split at hok
        · rename_i e1 e2;cases e1
        · rename_i e1 e2;cases e1;rw [e2];refine ⟨?_,fun _ h=>by cases h⟩;simp only [hu];rw [beq_iff_eq] at hok⊢;rw [hn,hok]
        · rename_i e1 e2;cases e1;rw [e2];refine ⟨?_,fun _ h=>by cases h⟩;simp only [hu];rw [beq_iff_eq] at hok⊢;rw [hn,hok]
        · rename_i e1 e2;cases e1;rw [e2];refine ⟨?_,fun _ h=>by cases h⟩;simp only [hu];rw [beq_iff_eq] at hok⊢;rw [hn,hok]
        · rename_i e1 e2;cases e1;rw [e2];refine ⟨?_,fun _ h=>by cases h⟩;simp only [hu];rw [beq_iff_eq] at hok⊢;rw [hn,hok]
        · rename_i e1 e2;rw [e2];refine ⟨?_,fun _ h=>by cases h⟩;simp only [hu]
          cases hi:P.info? e with
          |none=>simp [hi] at hn
          |some i=>rfl
        cases hok
       exact z4B hop hkind.1 h1 h2 h3 h.1.1 h.1.2.1 h.1.2.2.1 h.1.2.2.2 (fun hft=>of_decide_eq_true hft) hkind.2 (by assumption) h.2
     exact h.elim
   exact h.elim
 exact h.elim
end Go.Sx
namespace Go.Sx
open Go

variable [Ghost] {P:Program} {o:Oper} {ev:Operand→SV} {H:List SObj} {K:Out→List SObj→Prop}

theorem z1c{T:TypeId}{m k x:Operand}{kk:Option IntKind}(hop:o.op= .mapUpdate T m k x∨o.op= .insert T m k x)(hkk:mapKey P T=some kk)(h:((IOp.mup kk m k x).ev H ev).to P H K):OpV P o ev H K:=by
 obtain ⟨kt,et,hT,hkt,_⟩:=z0Y hkk;simp only [IOp.ev] at h;split at h
 · split at h
   · split at h
     · rename_i hc2;obtain ⟨rfl,hki⟩:=hc2;exact q8V hop hT hkt (by assumption) (by assumption) hki (by assumption) h
     exact h.elim
   exact h.elim
 exact h.elim

theorem z7E{s:SV}{h k i n:Nat}{t:Ty}(hd:dstAt s=some ⟨h,t,k,i,n⟩)(h0:0<n):∀ (C:Cx) (v:Value),s.den C v→∃b c,C.ρ h=some b∧v= .slice (some ⟨b,i*t.size+k,none⟩) n c:=by
 intro C v hv;unfold dstAt at hd;split at hd<;>cases hd<;>rw [SV.den] at hv
 · obtain ⟨_,⟨_,rfl,_⟩ | ⟨b,c,m,hb,rfl,_⟩⟩:=hv
   · omega
   exact ⟨b,c,hb,by rw [Be]⟩
 · obtain ⟨_,A,c,rfl,_,h1⟩:=hv;rcases h1 with h1| ⟨b,hb,rfl⟩
   · omega
   exact ⟨b,c,hb,rfl⟩
 obtain ⟨_,A,c,rfl,_,h1⟩:=hv;rcases h1 with h1| ⟨b,hb,rfl⟩
 · omega
 exact ⟨b,c,hb,rfl⟩
theorem q2b{i:IOp}(hc:compOp P o.op=some i)(h:(i.ev H ev).to P H K):OpV P o ev H K:=by
 cases hop:o.op with
 |move x=>rw [hop] at hc;cases hc;exact z2V (.inl hop) h.2
 |assign x=>rw [hop] at hc;cases hc;exact z2V (.inr hop) h.2
 |pick c x y=>
  rw [hop] at hc;cases hc;simp only [IOp.ev] at h;split at h
  · exact z8z hop (by assumption) h.2
  exact h.elim
 |nilCheck x=>
  rw [hop] at hc;cases hc;simp only [IOp.ev] at h;split at h
  · exact z0J hop (by assumption) h.2
  exact h.elim
 |alloc T=>
  rw [hop] at hc;simp only [compOp] at hc;split at hc
  · rename_i t m ha;cases hc;obtain ⟨zs,hz,h1,hd,rfl⟩:=z9w ha;exact j1x hop hz h1 hd h.2
  split at hc
  · rename_i hs;cases hc;obtain ⟨zs,hz,hd⟩:=j2g hs;exact z4x hop hz hd h.2
  simp only [Ap] at hc;obtain ⟨zs,hz,rfl⟩:=hc;exact z6d hop hz h.2
 |box T x=>
  rw [hop] at hc;cases hc;simp only [IOp.ev] at h;split at h
  · split at h
    · exact z8R hop (by assumption) (by assumption) h.2
    exact h.elim
  · exact z9d hop (by assumption) h.2
  split at h
  · exact j2f hop (by assumption) h.2
  exact h.elim
 |load t x=>
  rw [hop] at hc;simp only [compOp,Ap] at hc;obtain ⟨ag,ha,rfl⟩:=hc;exact z8d hop ha h
 |store t x y=>
  rw [hop] at hc;simp only [compOp,Ap] at hc;obtain ⟨n,⟨i,hi,rfl⟩,rfl⟩:=hc;exact z7V hop (by simp [hi]) h
 |binOp op t x y t'=>
  rw [hop] at hc;simp only [compOp] at hc;split at hc
  · rename_i ks hs;split at hc
    · cases hc;simp only [IOp.ev] at h;split at h
      · split at h
        · exact z6h hop (.inl rfl) hs (by assumption) (by assumption) (by assumption) (by simpa using h.2)
        exact h.elim
      exact h.elim
    · cases hc;simp only [IOp.ev] at h;split at h
      · split at h
        · exact z6h hop (.inr rfl) hs (by assumption) (by assumption) (by assumption) (by simpa using h.2)
        exact h.elim
      exact h.elim
    cases hc
  cases hc;exact z7d hop h
 |unOp op t x=>
  rw [hop] at hc;cases hc;simp only [IOp.ev] at h;split at h
  · split at h
    · exact j4a hop (by assumption) (by assumption) h.2
    exact h.elim
  exact h.elim
 |convert s d x=>
  rw [hop] at hc;simp only [compOp] at hc;split at hc
  · cases hc;simp only [IOp.ev] at h;split at h
    · exact z0x hop (by assumption) (by assumption) (by assumption) h.2
    exact h.elim
  · split at hc
    · cases hc;simp only [IOp.ev] at h;split at h
      · exact q7J hop (by assumption) (by assumption) (by assumption) (by assumption) h.2
      · exact q6P hop (by assumption) (by assumption) (by assumption) (by assumption) h.2
      · split at h
        · exact q7i hop (by assumption) (by assumption) (by assumption) (by assumption) (by assumption) h.1.1 h.1.2 h.2
        exact h.elim
      · split at h
        · exact q6C hop (by assumption) (by assumption) (by assumption) (by assumption) (by assumption) h.1.1 h.1.2 h.2
        exact h.elim
      exact h.elim
    cases hc
  · cases hc;simp only [IOp.ev] at h;split at h
    · exact z0M hop (by assumption) (by assumption) (by assumption) h.2
    exact h.elim
  · split at hc
    · cases hc;simp only [IOp.ev] at h;split at h
      · exact z1h hop (by assumption) (by assumption) (by assumption) (by assumption) h.2
      exact h.elim
    cases hc
  cases hc
 |fieldAddr t x f=>
  rw [hop] at hc;simp only [compOp] at hc;split at hc
  · split at hc
    · cases hc;simp only [IOp.ev] at h;split at h
      · exact q8t hop (by assumption) (by assumption) (by assumption) h.2
      exact h.elim
    cases hc
  cases hc
 |field t x f=>
  rw [hop] at hc;simp only [compOp] at hc;split at hc
  · simp only [Ap] at hc;obtain ⟨ag,ha,rfl⟩:=hc;simp only [IOp.ev] at h;split at h
    · split at h
      · exact z7r hop (by assumption) ha (by assumption) (by assumption) h.2
      exact h.elim
    · split at h
      · split at h
        · exact z4K hop (by assumption) ha (by assumption) (by assumption) (by assumption) h.2
        exact h.elim
      exact h.elim
    exact h.elim
  cases hc
 |indexAddr t x ix=>
  rw [hop] at hc;simp only [compOp] at hc;split at hc
  · simp only [Ap] at hc;obtain ⟨n,⟨i,hi,rfl⟩,rfl⟩:=hc;exact z8w hop (by assumption) (by simp [hi]) h
  · simp only [Ap] at hc;obtain ⟨n,⟨i,hi,rfl⟩,rfl⟩:=hc;simp only [IOp.ev] at h;split at h
    · split at h
      · exact q4L (sz:=i.size) hop (by assumption) (by simp [hi]) (by assumption) (by assumption) h.1.1 h.1.2 h.2
      exact h.elim
    exact h.elim
  cases hc
 |typeAssert x xT T ok=>
  rw [hop] at hc;cases ok with
  |false=>simp [compOp] at hc
  |true=>
   simp only [compOp] at hc;split at hc
   · rename_i hn;simp only [Ap] at hc;obtain ⟨z,hz,rfl⟩:=hc;simp only [IOp.ev] at h;split at h
     · split at h
       · rename_i T' y hx e;subst e;exact z4F hop hn hx h.2
       rename_i T' y hx e;exact z1d hop hn hz (.inr ⟨T',y,e,hx⟩) h.2
     · rename_i hx;exact z1d hop hn hz (.inl hx) h.2
     exact h.elim
   cases hc
 |index t x ix=>
  rw [hop] at hc;simp only [compOp] at hc;split at hc
  · cases hc;simp only [IOp.ev] at h;split at h
    · exact q9r hop (by assumption) (by assumption) (by assumption) h.1.1 h.1.2 h.2
    exact h.elim
  · split at hc
    · rename_i hag hsz;cases hc;simp only [IOp.ev] at h;split at h
      · split at h
        · rename_i hn;obtain ⟨rfl,he⟩:=hn;split at h
          · exact z4R hop (by assumption) hag hsz he (by assumption) (by assumption) h.1.1 h.1.2 (by assumption) h.2
          exact h.elim
        exact h.elim
      · split at h
        · exact q8r hop (by assumption) hag hsz (by assumption) (by assumption) h.1.1 h.1.2 (by rw [AM];assumption) h.2
        exact h.elim
      exact h.elim
    · split at hc
      · rename_i hag hsz hm;subst hm;cases hc;simp only [IOp.ev] at h;split at h
        · split at h
          · rename_i hn;obtain ⟨rfl,he,_⟩:=hn;exact z4f hop (by assumption) hag hsz he (by assumption) (by assumption) h.1.1 h.1.2 h.2
          exact h.elim
        · split at h
          · exact q8r hop (by assumption) hag hsz (by assumption) (by assumption) h.1.1 h.1.2 (by assumption) h.2
          exact h.elim
        exact h.elim
      cases hc
    cases hc
  cases hc
 |sliceToArrayPointer T x=>
  rw [hop] at hc;simp only [compOp] at hc;split at hc
  · cases hc;simp only [IOp.ev] at h;split at h
    · rename_i hev;split at h
      · rename_i hs;exact z6V hop (by assumption) (fun _ _ g=>by rw [hev] at g;exact g) hs.1 h.1 hs.2 h.2
      exact h.elim
    · rename_i hev;split at h
      · rename_i hs;exact z6V hop (by assumption) (fun _ _ g=>by rw [hev,SV.den] at g;rw [SV.den];exact g.1) hs.1 h.1 hs.2 h.2
      exact h.elim
    exact h.elim
  cases hc
 |extract x n=>
  rw [hop] at hc;cases hc;simp only [IOp.ev] at h;split at h
  · split at h
    · exact z2e hop (by assumption) (by assumption) h.2
    exact h.elim
  exact h.elim
 |makeFunc fn fi ca=>
  rw [hop] at hc;cases fn with
  |func f=>cases hc;exact z0v hop h.2
  |methodOf T nm=>
   simp only [compOp] at hc;split at hc
   · rename_i hcond;cases hc;exact q9Y hop hcond.1 hcond.2 h.2
   cases hc
  |_=>simp [compOp] at hc
 |makeInterface T x=>
  rw [hop] at hc;simp only [compOp] at hc;split at hc
  · cases hc;exact q5L hop (by assumption) h.2
  cases hc
 |build t ps=>
  rw [hop] at hc;simp only [compOp] at hc;split at hc
  · rename_i hs;simp only [Ap] at hc;obtain ⟨pl,hpl,rfl⟩:=hc;obtain ⟨zs,hz,hd⟩:=j0L hs;simp only [IOp.ev] at h;split at h
    · exact z4w hop hz hd hpl (by assumption) h.1 h.2
    exact h.elim
  split at hc
  · cases hc;simp only [IOp.ev] at h;split at h
    · exact z5u hop (by assumption) (by assumption) (by assumption) h.2
    exact h.elim
  cases hc
 |buildSlice t n ps=>
  rw [hop] at hc;simp only [compOp] at hc;split at hc
  · split at hc
    · cases hc;simp only [IOp.ev] at h;split at h
      · split at h
        · exact q7K hop (by assumption) (by assumption) (by assumption) (by assumption) (by assumption) h.1 h.2
        exact h.elim
      exact h.elim
    · cases hc;simp only [IOp.ev] at h;split at h
      · exact j1q hop (by assumption) (by assumption) (by assumption) (by assumption) h.2
      exact h.elim
    cases hc
  cases hc
 |slice t x lo hi mx=>
  rw [hop] at hc;cases mx with
  |some m=>
   cases hi with
   |none=>simp [compOp] at hc
   |some hi=>
    simp only [compOp] at hc;split at hc
    · simp only [Ap] at hc;obtain ⟨n,⟨i,hi,rfl⟩,rfl⟩:=hc;exact z6L hop (by assumption) (by simp [hi]) (fun hf=>z3X (by simp only [Aj] at hf;exact hf.2)) h
    · simp only [Ap] at hc;obtain ⟨n,⟨i,hi,rfl⟩,rfl⟩:=hc;simp only [IOp.ev] at h;split at h
      · split at h
        · exact z2s (sz:=i.size) hop (by assumption) (by simp [hi]) (by assumption) (by assumption) (by assumption) h.1.1 h.1.2.1 h.1.2.2.1 h.1.2.2.2 (by assumption) h.2
        exact h.elim
      exact h.elim
    cases hc
  |none=>
   simp only [compOp] at hc;split at hc
   · cases hc;exact z2M hop (.inl ⟨rfl,by assumption⟩) h
   · simp only [Ap] at hc;obtain ⟨n,⟨i,hi,rfl⟩,rfl⟩:=hc;exact z2M hop (.inr ⟨_,_,rfl,by assumption,by simp [hi]⟩) h
   · simp only [Ap] at hc;obtain ⟨n,⟨i,hi,rfl⟩,rfl⟩:=hc;simp only [IOp.ev] at h;split at h
     · split at h
       · exact z4m (sz:=i.size) hop (by assumption) (by simp [hi]) (by assumption) (by assumption) h.1.1 h.1.2.1 h.1.2.2 (by assumption) h.2
       exact h.elim
     exact h.elim
   cases hc
 |panic x=>
  rw [hop] at hc;cases hc;simp only [IOp.ev] at h;split at h
  · exact z5L hop (by assumption) h
  exact h.elim
 |call c=>
  rw [hop] at hc;simp only [compOp] at hc;split at hc
  · cases hc;simp only [IOp.ev] at h;split at h
    · rename_i f args c g fi ca hg;refine OpV.weaken (ev':=fun x=>(ev x).wk) ?_ (fun x=>z8L _);exact j0a hop (by assumption) (by simp only [hg];rfl) h.1 h.2
    · rename_i v hg;split at h
      · rename_i hy;refine OpV.weaken (ev':=fun x=>(ev x).wk) ?_ (fun x=>z8L _);exact j1t hop (by assumption) (by simp only [hg];rfl) hy h
      split at h
      · rename_i hy;refine OpV.weaken (ev':=fun x=>(ev x).wk) ?_ (fun x=>z8L _);exact z5Q hop (by assumption) (by simp only [hg];rfl) hy h.1 h.2
      exact h.elim
    exact h.elim
  · split at hc
    · rename_i x t hargs htys;have ha:c.args= #[x]:=by rw [←Bg];exact hargs
      have hty:c.argTypes= #[t]:=by rw [←Bg];exact htys
      split at hc
      · cases hc;exact z0E hop (by assumption) ha hty (.inl ⟨rfl,by assumption⟩) h
      · cases hc;exact z0E hop (by assumption) ha hty (.inr ⟨rfl,_,by assumption⟩) h
      · cases hc;simp only [IOp.ev] at h;split at h
        · exact z1y hop (by assumption) ha hty (by assumption) (by assumption) h.2
        exact h.elim
      cases hc
    cases hc
  · split at hc
    · rename_i x y tS tX hargs htys;have ha:c.args= #[x,y]:=by rw [←Bg];exact hargs
      have hty:c.argTypes= #[tS,tX]:=by rw [←Bg];exact htys
      split at hc
      · split at hc
        · split at hc
          · split at hc
            · rename_i hz hsz;cases hc;simp only [IOp.ev] at h;split at h
              · split at h
                · split at h
                  · rename_i e2;subst e2;exact q7H hop (by assumption) ha hty (by assumption) (by assumption) (by assumption) hsz.1 (by assumption) (by assumption) (by assumption) h.1.1 h.1.2.1 h.1.2.2 h.2
                  exact h.elim
                exact h.elim
              split at h
              · exact z4P hop (by assumption) ha hty (by assumption) (by assumption) (by assumption) hsz.1 (by assumption) hsz.2 (by assumption) h.1.1 (by assumption) h.1.2.1 h.1.2.2.1 h.1.2.2.2 h.2
              exact h.elim
            cases hc
          cases hc
        cases hc
      · split at hc
        · split at hc
          · split at hc
            · rename_i hz hcond;cases hc;simp only [IOp.ev] at h;split at h
              · split at h
                · rename_i e2;subst e2;exact z9v hop (by assumption) ha hty (by assumption) (by assumption) (by assumption) hcond.1 (by assumption) hcond.2.1 hcond.2.2.1 hcond.2.2.2 (by assumption) (by assumption) h.1.1 h.1.2.1 h.1.2.2 h.2
                exact h.elim
              exact h.elim
            cases hc
          cases hc
        cases hc
      cases hc
    cases hc
  · split at hc
    · rename_i x y tS tX hargs htys;have ha:c.args= #[x,y]:=by rw [←Bg];exact hargs
      have hty:c.argTypes= #[tS,tX]:=by rw [←Bg];exact htys
      split at hc
      · simp only [Ap] at hc;obtain ⟨n,⟨i,hi,rfl⟩,rfl⟩:=hc;simp only [IOp.ev] at h;split at h
        · rename_i hdst;split at h
          · rename_i hsz;split at h
            · split at h
              · obtain ⟨⟨hp,hq,h0⟩,hk⟩:=h;exact z9j hop (by assumption) ha hty (by assumption) (by simp [hi,hsz]) (z7E hdst h0) (by assumption) hp rfl (by assumption) (by assumption) hq hk
              exact h.elim
            exact h.elim
          exact h.elim
        exact h.elim
      cases hc
    cases hc
  · split at hc
    · rename_i x y hargs;have ha:c.args= #[x,y]:=by rw [←Bg];exact hargs
      cases hc;simp only [IOp.ev] at h;split at h
      · rename_i hx hy;exact j0C (b:=true) hop (by assumption) ha hx hy h.2
      exact h.elim
    cases hc
  · split at hc
    · rename_i x y hargs;have ha:c.args= #[x,y]:=by rw [←Bg];exact hargs
      cases hc;simp only [IOp.ev] at h;split at h
      · rename_i hx hy;exact j0C (b:=false) hop (by assumption) ha hx hy h.2
      exact h.elim
    cases hc
  cases hc
 |makeSlice T x y=>
  rw [hop] at hc;simp only [compOp] at hc;split at hc
  · split at hc
    · split at hc
      · split at hc
        · rename_i hz hcond;cases hc;simp only [IOp.ev] at h;split at h
          · exact q8O hop (by assumption) (by assumption) hz hcond.1 hcond.2.1 hcond.2.2.1 (by assumption) (by assumption) h.1.1 h.1.2.1 h.1.2.2.1 h.1.2.2.2 hcond.2.2.2 h.2
          exact h.elim
        cases hc
      cases hc
    cases hc
  cases hc
 |makeMap T r=>
  rw [hop] at hc;cases r with
  |some r=>simp [compOp] at hc
  |none=>
   simp only [compOp,Ap] at hc;obtain ⟨kk,hkk,rfl⟩:=hc;exact z1p kk hop h.2
 |mapUpdate T m k x=>
  rw [hop] at hc;simp only [compOp,Ap] at hc;obtain ⟨kk,hkk,rfl⟩:=hc;exact z1c (.inl hop) hkk h
 |insert T m k x=>
  rw [hop] at hc;simp only [compOp,Ap] at hc;obtain ⟨kk,hkk,rfl⟩:=hc;exact z1c (.inr hop) hkk h
 |lookup T m k ok=>
  rw [hop] at hc;simp only [compOp] at hc;split at hc
  · rename_i kk z hkk hz;cases hc;obtain ⟨kt,et,hT,hkt,hzz⟩:=z0Y hkk;simp only [IOp.ev] at h;split at h
    · split at h
      · rename_i hc2;obtain ⟨rfl,hki⟩:=hc2;exact z4h hop hT hkt (hzz▸hz) (by assumption) (by assumption) hki h.2
      exact h.elim
    exact h.elim
  cases hc
 |_=>rw [hop] at hc;simp [compOp] at hc
end Go.Sx
namespace Go.Sx
open Go

structure OpI where
 dst:Option Tmp
 op:IOp
 guard:Option (Nat×Bool)

def isLd:IOp→Bool
 |.ld _ _=>true
 |.ldS _ _=>true
 |_=>false
def needsLd(o:Oper):Bool:=match o.op with
 |.load .. =>true
 |_=>false
def gkI:IOp→Bool
 |.st .. |.app .. |.apz .. |.mup .. |.cpy .. =>false
 |_=>true
def kindChk(o:Oper)(i:IOp):Bool:=isLd i==needsLd o&& gkI i==gk o

def compOp'(P:Program)(o:Oper):Option IOp:=
 match compOp P o.op with
 |some i=>if kindChk o i then some i else none
 |none=>none
theorem compOp'_ok{P:Program}{o:Oper}{i:IOp}(h:compOp' P o=some i):compOp P o.op=some i∧isLd i=needsLd o∧gkI i=gk o:=by
 unfold compOp' at h;split at h
 · split at h
   · rename_i hk;cases h;simp only [kindChk,Aj,beq_iff_eq] at hk;exact ⟨by assumption,hk⟩
   cases h
 cases h

def compO(P:Program)(all:Array Oper)(o:Oper):Option OpI:=
 match compOp' P o with
 |none=>none
 |some op=>match o.guard with
  |none=>some ⟨o.dst,op,none⟩
  |some (j,b)=>match (all[j]?).bind (·.dst) with
   |some d=>some ⟨o.dst,op,some (d,b)⟩
   |none=>none

theorem compO_op'{P:Program}{all:Array Oper}{o:Oper}{io:OpI}(h:compO P all o=some io):compOp' P o=some io.op∧io.dst=o.dst:=by
 unfold compO at h;split at h
 · cases h
 split at h
 · cases h;exact ⟨by assumption,rfl⟩
 split at h
 · cases h;exact ⟨by assumption,rfl⟩
 cases h
theorem q0E{P:Program}{all:Array Oper}{o:Oper}{io:OpI}(h:compO P all o=some io):compOp P o.op=some io.op∧io.dst=o.dst:=
 ⟨(compOp'_ok (compO_op' h).1).1,(compO_op' h).2⟩

theorem q0m{P:Program}{all:Array Oper}{o:Oper}{io:OpI}{t:List SV}(h:compO P all o=some io):
 (io.guard=none→wantedT all t o=some true)∧(∀d b v,io.guard=some (d,b)→t.getD d .any= .raw (.bool v)→wantedT all t o=some (v==b))∧(∀d b vs,io.guard=some (d,b)→t.getD d .any= .raw (.tuple vs)→wantedT all t o=some false):=by
 unfold compO at h;split at h
 · cases h
 split at h
 · rename_i hg;cases h;refine ⟨(fun _=>by unfold wantedT;rw [hg]),(fun d b v e=>by cases e),(fun d b v e=>by cases e)⟩
 rename_i hg;split at h
 · rename_i hd;cases h;refine ⟨(fun e=>by cases e),fun d b v e hv=> ?_,fun d b v e hv=> ?_⟩
   · cases e;unfold wantedT;rw [hg];simp only [hd,hv]
   cases e;unfold wantedT;rw [hg];simp only [hd,hv]
 cases h

inductive IC where
 |skip
 |reg (l:List OpI)
 |drw (l:List (Bool×OpI))
 |seq (a b:IC)
 |cond (c:Operand) (a b:IC)
 |blk (id:Nat) (c:IC)
 |loop (c:IC)
 |exit (id:Nat)
 |ret
 |rf (g:Operand) (ps:Array Tmp) (asg body:IC)        -- a loop over a function
 |scp (c:IC)
 |lbl (l:Nat)
 |hnd (all:Array Oper)        -- a region that is walked by hand

def isPureOp(P:Program)(o:Oper):Bool:=match o.op with
 |.convert _ d _=>match P.underlying d with
  |some (.slice _)=>false
  |_=>true
 |.move _|.assign _|.pick .. |.nilCheck _|.binOp .. |.unOp .. |.fieldAddr .. |.field .. |.indexAddr .. |.index .. |.extract .. |.makeFunc .. |.makeInterface .. |.build .. |.slice .. |.load .. |.lookup .. |.sliceToArrayPointer .. =>true
 |.call {callee:=.builtin .len,..}=>true
 |_=>false
def ldChk(all:Array Oper)(listed:Array Bool)(i:Nat):Bool:=match all[i]? with
 |some o=> !needsLd o||ldFree all listed i
 |none=>false
def isCv(o:Oper):Bool:=match o.op with
 |.convert .. =>true
 |_=>false
def ldChkS(all:Array Oper)(listed:Array Bool)(i:Nat):Bool:=match all[i]? with
 |some o=> !(needsLd o||isCv o) ||closedB all listed
 |none=>false
def toS:IOp→IOp
 |.ld ag x=>.ldS ag x
 |i=>i
def isCallOp(o:Oper):Bool:=match o.op with
 |.call {callee:=.value _,..}=>true
 |_=>false

def isBslOp(o:Oper):Bool:=match o.op with
 |.buildSlice .. =>true
 |_=>false

def nestB(all:Array Oper)(i:Nat):Bool:=match all[i]? with
 |some o=>match o.op,o.dst with
  |.buildSlice ..,some d=>all.toList.any fun o'=>match o'.op with
   |.buildSlice _ _ parts=>parts.toList.any fun p=>match p.2 with
    |.tmp d'=>d'==d
    |_=>false
   |_=>false
  |_,_=>false
 |none=>false
def chooseOp(P:Program)(all:Array Oper)(listed:Array Bool)(rd:List Nat):Option (Nat×Bool):=
 match rd.find? (fun i=>(match all[i]? with|some o=>isPureOp P o|none=>false) && Region.free .any all listed i&& ldChk all listed i) with
 |some i=>some (i,true)
 |none=>match rd with
  | [i]=>some (i,nestB all i&& Region.free .any all listed i)
  |_=>match rd.find? (fun i=>(match all[i]? with|some o=>isCallOp o|none=>false) && Region.free .any all listed i) with
   |some i=>some (i,true)
   |none=>match rd.find? (fun i=>(match all[i]? with|some o=>isPureOp P o|none=>false) && Region.free .any all listed i) with
    |some i=>some (i,true)
    |none=>match rd.find? (fun i=>(match all[i]? with|some o=>isBslOp o|none=>false) && Region.free .any all listed i) with
     |some i=>some (i,true)
     |none=>none

def planChk(all:Array Oper)(listed:Array Bool)(i:Nat)(fl:Bool):Bool:=
 if fl then (Region.ready .any all listed).contains i&& Region.free .any all listed i&& ldChkS all listed i else Region.ready .any all listed== [i]

def planL(P:Program)(all:Array Oper):Nat→Array Bool→Option (List (Bool×OpI))
 |0,listed=>if (Region.ready .any all listed).isEmpty then some [] else none
 |n+1,listed=>if (Region.ready .any all listed).isEmpty then some [] else
  match chooseOp P all listed (Region.ready .any all listed) with
  |some (i,fl)=>match all[i]? with
   |some o=>match compO P all o with
    |some io=>match planL P all n (listed.setIfInBounds i true) with
     |some l=>if planChk all listed i fl then some ((fl,if fl&& !ldChk all listed i then {io with op:=toS io.op} else io) :: l) else none
     |none=>none
    |none=>none
   |none=>none
  |none=>none

def compL(P:Program)(all:Array Oper):List Oper→Option (List OpI)
 | []=>some []
 |o :: l=>match compO P all o,compL P all l with
  |some io,some r=>some (io :: r)
  |_,_=>none

def comp(P:Program):Code→Option IC
 |.skip=>some .skip
 |.region _ all false=>(compL P all all.toList).map .reg
 |.region _ all true=>match planL P all all.size (Array.replicate all.size false) with
  |some l=>some (.drw l)
  |none=>some (.hnd all)
 |.seq a b=>match comp P a,comp P b with
  |some x,some y=>some (.seq x y)
  |_,_=>none
 |.cond c a b=>match comp P a,comp P b with
  |some x,some y=>some (.cond c x y)
  |_,_=>none
 |.block id c=>(comp P c).map (.blk id)
 |.loop c=>(comp P c).map .loop
 |.exit id=>some (.exit id)
 |.ret=>some .ret
 |.rangeFunc g ps a b=>match comp P a,comp P b with
  |some x,some y=>some (.rf g ps x y)
  |_,_=>none
 |.scope c=>(comp P c).map .scp
 |.label l=>some (.lbl l)
 |_=>none

inductive IT where
 |ic (c:IC)
 |ops (l:List OpI)
 |dops (G:List Nat) (l:List (Bool×OpI))
 |blk (id:Nat)
 |stop (Φ:List SV→List SObj→Prop)

structure IM where
 k0:Nat
 todo:List IT
 tmps:List SV
 heap:List SObj

def RelOps(P:Program)(all:Array Oper):List Nat→List OpI→Prop
 | [],[]=>True
 |i :: idx,io :: l=>(∃o,all[i]?=some o∧compO P all o=some io)∧RelOps P all idx l
 |_,_=>False

def RelT(P:Program):List IT→List It→Prop
 | [],k'=>k'= []
 |.ic c :: k,k'=>∃c' r,k'= .code c' :: r∧comp P c'=some c∧RelT P k r
 |.ops l :: k,k'=>∃all idx r,k'= .ops all idx :: r∧RelOps P all idx l∧RelT P k r
 |.dops _ _ :: _,_=>False
 |.blk id :: k,k'=>∃r,k'= .blk id :: r∧RelT P k r
 |.stop Φ :: k,k'=>∃r,k'= .stop Φ :: r∧RelT P k r

def SoundI[Ghost](P:Program)(AQ:Ex→List SV→List SObj→Prop)(m:IM):Prop:=
 match m.todo with
 |.dops G l :: k=>∀all listed fuel k',planL P all fuel listed=some l→RelT P k k'→AnyV P AQ m.k0 k' all G fuel listed m.tmps m.heap
 |td=>∀td',RelT P td td'→Sound P AQ ⟨m.k0,td',m.tmps,m.heap⟩

variable [Ghost] {P:Program} {AQ:Ex→List SV→List SObj→Prop} {k0:Nat} {k:List IT} {t:List SV} {H:List SObj}

def plainT:List IT→Bool
 | []=>true
 |.dops _ _ :: _=>false
 |_ :: _=>true

theorem q0d{td:List IT}(h:∀td',RelT P td td'→Sound P AQ ⟨k0,td',t,H⟩)(hp:plainT td=true):SoundI P AQ ⟨k0,td,t,H⟩:=by
 unfold SoundI;cases td with
 |nil=>exact h
 |cons x l=>cases x<;>first|exact h|simp [plainT] at hp
theorem q0e{td:List IT}{td':List It}(h:SoundI P AQ ⟨k0,td,t,H⟩)(hr:RelT P td td'):Sound P AQ ⟨k0,td',t,H⟩:=by
 unfold SoundI at h;cases td with
 |nil=>exact h _ hr
 |cons x l=>cases x<;>first|exact h _ hr| (simp only [RelT] at hr)

theorem j2O(h:AQ .normal t H):SoundI P AQ ⟨k0,[],t,H⟩:=q0d (fun td' hr=>by cases hr;exact z5q h) rfl

def CompInv(P:Program)(c:Code):IC→Prop
 |.skip=>c= .skip
 |.reg l=>∃id all,c= .region id all false∧compL P all all.toList=some l
 |.drw l=>∃id all,c= .region id all true∧planL P all all.size (Array.replicate all.size false)=some l
 |.seq x y=>∃a b,c= .seq a b∧comp P a=some x∧comp P b=some y
 |.cond e x y=>∃a b,c= .cond e a b∧comp P a=some x∧comp P b=some y
 |.blk id x=>∃a,c= .block id a∧comp P a=some x
 |.loop x=>∃a,c= .loop a∧comp P a=some x
 |.exit id=>c= .exit id
 |.ret=>c= .ret
 |.rf g ps x y=>∃a b,c= .rangeFunc g ps a b∧comp P a=some x∧comp P b=some y
 |.scp x=>∃a,c= .scope a∧comp P a=some x
 |.lbl l=>c= .label l
 |.hnd all=>∃id,c= .region id all true

theorem q0N{c:Code}{ic:IC}(h:comp P c=some ic):CompInv P c ic:=by
 cases c with
 |skip=>cases h;rfl
 |region id all d=>
  cases d with
  |false=>
   simp only [comp,Ap] at h;obtain ⟨l,hl,rfl⟩:=h;exact ⟨id,all,rfl,hl⟩
  |true=>
   simp only [comp] at h;split at h
   · cases h;exact ⟨id,all,rfl,by assumption⟩
   cases h;exact ⟨id,rfl⟩
 |seq a b=>
  simp only [comp] at h;split at h
  · cases h;exact ⟨a,b,rfl,by assumption,by assumption⟩
  cases h
 |cond e a b=>
  simp only [comp] at h;split at h
  · cases h;exact ⟨a,b,rfl,by assumption,by assumption⟩
  cases h
 |block id a=>
  simp only [comp,Ap] at h;obtain ⟨l,hl,rfl⟩:=h;exact ⟨a,rfl,hl⟩
 |loop a=>
  simp only [comp,Ap] at h;obtain ⟨l,hl,rfl⟩:=h;exact ⟨a,rfl,hl⟩
 |exit id=>cases h;rfl
 |ret=>cases h;rfl
 |rangeFunc g ps a b=>
  simp only [comp] at h;split at h
  · cases h;exact ⟨a,b,rfl,by assumption,by assumption⟩
  cases h
 |scope a=>
  simp only [comp,Ap] at h;obtain ⟨l,hl,rfl⟩:=h;exact ⟨a,rfl,hl⟩
 |label l=>cases h;rfl
 |_=>simp [comp] at h

theorem q7b{all:Array Oper}:∀ (n:Nat) {os:List Oper} {l:List OpI},(∀j,os[j]?=all[n+j]?)→compL P all os=some l→RelOps P all ((List.range os.length).map (n+ ·)) l
 |n,[],l,_,h=>by cases h;simp [RelOps]
 |n,o :: os,l,ho,h=>by
  simp only [compL] at h;split at h
  · cases h;rw [AB,BT,AT,BO];refine ⟨⟨o,by have:=ho 0;simpa using this.symm,by assumption⟩,?_⟩
    have:=q7b (n+1) (os:=os) (fun j=>by have:=ho (j+1);simp at this;rw [this];congr 1;omega) (by assumption)
    have e:(fun x=>n+x) ∘Nat.succ=fun x=>n+1+x:=by funext x;simp;omega
    rw [e];exact this
  cases h

theorem j1V(h:SoundI P AQ ⟨k0,k,t,H⟩):SoundI P AQ ⟨k0,.ic .skip :: k,t,H⟩:=q0d (fun td' hr=>by
 obtain ⟨c',r,rfl,hc,hr⟩:=hr;obtain rfl:=q0N hc
 exact z4C (q0e h hr)) rfl
theorem j3l{a b:IC}(h:SoundI P AQ ⟨k0,.ic a :: .ic b :: k,t,H⟩):SoundI P AQ ⟨k0,.ic (.seq a b) :: k,t,H⟩:=q0d (fun td' hr=>by
 obtain ⟨c',r,rfl,hc,hr⟩:=hr;obtain ⟨x,y,rfl,hx,hy⟩:=q0N hc
 exact z5z (q0e h ⟨x,_,rfl,hx,y,r,rfl,hy,hr⟩)) rfl
theorem j3T{c:IC}(h:SoundI P AQ ⟨k0,.ic c :: k,t,H⟩):SoundI P AQ ⟨k0,.ic (.scp c) :: k,t,H⟩:=q0d (fun td' hr=>by
 obtain ⟨c',r,rfl,hc,hr⟩:=hr;obtain ⟨x,rfl,hx⟩:=q0N hc
 exact z2a (q0e h ⟨x,_,rfl,hx,hr⟩)) rfl
theorem j3C{l:Nat}(h:SoundI P AQ ⟨k0,k,t,H⟩):SoundI P AQ ⟨k0,.ic (.lbl l) :: k,t,H⟩:=q0d (fun td' hr=>by
 obtain ⟨c',r,rfl,hc,hr⟩:=hr;obtain rfl:=q0N hc
 exact z2q (q0e h hr)) rfl
theorem j3V{id:Nat}{c:IC}(h:SoundI P AQ ⟨k0,.ic c :: .blk id :: k,t,H⟩):SoundI P AQ ⟨k0,.ic (.blk id c) :: k,t,H⟩:=q0d (fun td' hr=>by
 obtain ⟨c',r,rfl,hc,hr⟩:=hr;obtain ⟨x,rfl,hx⟩:=q0N hc
 exact z1n (q0e h ⟨x,_,rfl,hx,r,rfl,hr⟩)) rfl
theorem z6J{id:Nat}(h:SoundI P AQ ⟨k0,k,t,H⟩):SoundI P AQ ⟨k0,.blk id :: k,t,H⟩:=q0d (fun td' hr=>by
 obtain ⟨r,rfl,hr⟩:=hr
 exact z7b (q0e h hr)) rfl
theorem j1M{Φ:List SV→List SObj→Prop}(h:Φ t H):SoundI P AQ ⟨k0,.stop Φ :: k,t,H⟩:=q0d (fun td' hr=>by
 obtain ⟨r,rfl,hr⟩:=hr
 exact z4L h) rfl
theorem j2Y(h:AQ .ret t H):SoundI P AQ ⟨k0,.ic .ret :: k,t,H⟩:=q0d (fun td' hr=>by
 obtain ⟨c',r,rfl,hc,hr⟩:=hr;obtain rfl:=q0N hc
 exact z5K h) rfl
def exitI(id:Nat):List IT→Option (List IT)
 | []=>none
 |.blk id' :: k=>if id'=id then some k else exitI id k
 |_ :: k=>exitI id k
theorem q2M{id:Nat}:∀ {k:List IT} {k':List IT} {r:List It},RelT P k r→exitI id k=some k'→∃r',exitTo' id r=some r'∧RelT P k' r'
 | [],_,_,_,h=>by simp [exitI] at h
 |.blk id' :: k,k',r,hr,h=>by
  obtain ⟨r1,rfl,hr⟩:=hr;unfold exitI at h;unfold exitTo';split at h
  · cases h;rw [if_pos (by assumption)];exact ⟨r1,rfl,hr⟩
  rw [if_neg (by assumption)];exact q2M hr h
 |.ic _ :: k,k',r,hr,h=>by obtain ⟨c',r1,rfl,_,hr⟩:=hr;exact q2M (k:=k) (k':=k') (r:=r1) hr h
 |.ops _ :: k,k',r,hr,h=>by obtain ⟨_,_,r1,rfl,_,hr⟩:=hr;exact q2M (k:=k) (k':=k') (r:=r1) hr h
 |.stop _ :: k,k',r,hr,h=>by obtain ⟨r1,rfl,hr⟩:=hr;exact q2M (k:=k) (k':=k') (r:=r1) hr h
 |.dops _ _ :: k,_,_,hr,_=>hr.elim
theorem j2D{id:Nat}{k':List IT}(hk:exitI id k=some k')(h:SoundI P AQ ⟨k0,k',t,H⟩):SoundI P AQ ⟨k0,.ic (.exit id) :: k,t,H⟩:=q0d (fun td' hr=>by
 obtain ⟨c',r,rfl,hc,hr⟩:=hr;obtain rfl:=q0N hc;obtain ⟨r',h1,h2⟩:=q2M hr hk
 exact z4H h1 (q0e h h2)) rfl
theorem q2Q{id:Nat}:∀ {k:List IT} {r:List It},RelT P k r→exitI id k=none→exitTo' id r=none
 | [],r,h,_=>by cases h;rfl
 |.blk id' :: k,r,h,hn=>by
  obtain ⟨r1,rfl,hr⟩:=h;unfold exitI at hn;unfold exitTo';split at hn
  · cases hn
  rw [if_neg (by assumption)];exact q2Q hr hn
 |.ic _ :: k,r,h,hn=>by obtain ⟨c',r1,rfl,_,hr⟩:=h;exact q2Q (k:=k) (r:=r1) hr hn
 |.ops _ :: k,r,h,hn=>by obtain ⟨_,_,r1,rfl,_,hr⟩:=h;exact q2Q (k:=k) (r:=r1) hr hn
 |.stop _ :: k,r,h,hn=>by obtain ⟨r1,rfl,hr⟩:=h;exact q2Q (k:=k) (r:=r1) hr hn
theorem z8O{id:Nat}(hn:exitI id k=none)(h:AQ (.exit id) t H):SoundI P AQ ⟨k0,.ic (.exit id) :: k,t,H⟩:=q0d (fun td' hr E r n C a h0 hd=>by
 obtain ⟨c',r,rfl,hc,hr⟩:=hr;obtain rfl:=q0N hc;simp only [wpT]
 exact wpIn_exit (q2u (q2Q hr hn) ⟨C,t,H,h,rfl,Den.fin hd⟩)) rfl
theorem j0Z{c:Operand}{a b:IC}{v:Bool}(hc:evT t c= .raw (.bool v))(h1:v=true→SoundI P AQ ⟨k0,.ic a :: k,t,H⟩)(h2:v=false→SoundI P AQ ⟨k0,.ic b :: k,t,H⟩):SoundI P AQ ⟨k0,.ic (.cond c a b) :: k,t,H⟩:=q0d (fun td' hr=>by
 obtain ⟨c',r,rfl,hcc,hr⟩:=hr;obtain ⟨x,y,rfl,hx,hy⟩:=q0N hcc
 exact z4d hc (fun e=>q0e (h1 e) ⟨x,r,rfl,hx,hr⟩) (fun e=>q0e (h2 e) ⟨y,r,rfl,hy,hr⟩)) rfl
theorem j4k{l:List OpI}(h:SoundI P AQ ⟨k0,.ops l :: k,t,H⟩):SoundI P AQ ⟨k0,.ic (.reg l) :: k,t,H⟩:=q0d (fun td' hr=>by
 obtain ⟨c',r,rfl,hc,hr⟩:=hr;obtain ⟨id,all,rfl,hl⟩:=q0N hc;have:=q7b (P:=P) (all:=all) 0 (os:=all.toList) (fun j=>by simp) hl
 simp only [Ac,List.map_id',Av] at this
 exact z1g (q0e h ⟨all,_,r,rfl,this,hr⟩)) rfl
theorem z7t(h:SoundI P AQ ⟨k0,k,t,H⟩):SoundI P AQ ⟨k0,.ops [] :: k,t,H⟩:=q0d (fun td' hr=>by
 obtain ⟨all,idx,r,rfl,ho,hr⟩:=hr;cases idx with
 |nil=>exact q9N (q0e h hr)
 |cons i l=>exact ho.elim) rfl
theorem q1T{l:List (Bool×OpI)}(G:List Nat)(hm:P.follows .mixedOrders=true)(h:SoundI P AQ ⟨k0,.dops G l :: k,t,H⟩):SoundI P AQ ⟨k0,.ic (.drw l) :: k,t,H⟩:=q0d (fun td' hr=>by
 obtain ⟨c',r,rfl,hc,hr⟩:=hr;obtain ⟨id,all,rfl,hl⟩:=q0N hc
 exact z4l G hm (h all _ _ r hl hr)) rfl

def opK(P:Program)(AQ:Ex→List SV→List SObj→Prop)(k0:Nat)(td:List IT)(t:List SV)(d:Option Tmp):Out→List SObj→Prop
 |.ret s,H'=>SoundI P AQ ⟨k0,td,putT t d s,H'⟩
 |.pan s,H'=>AQ (.pan s) t H'

theorem j4y{io:OpI}{l:List OpI}(hg:io.guard=none)(h:(io.op.ev H (evT t)).to P H (opK P AQ k0 (.ops l :: k) t io.dst)):SoundI P AQ ⟨k0,.ops (io :: l) :: k,t,H⟩:=q0d (fun td' hr=>by
 obtain ⟨all,idx,r,rfl,ho,hr⟩:=hr;cases idx with
 |nil=>exact ho.elim
 |cons i idx=>
  obtain ⟨⟨o,ho1,ho2⟩,ho⟩:=ho;obtain ⟨hc,hd⟩:=q0E ho2;refine q9u ho1 ((q0m ho2).1 hg) (OpV.mono (q2b hc h) fun x H' hx=> ?_);cases x with
  |ret s=>simp only [opK,hd] at hx;exact q0e hx ⟨all,idx,r,rfl,ho,hr⟩
  |pan s=>exact hx) rfl

theorem z1k{P:Program}{k:List It}(d:Nat){v b:Bool}(hv:t.getD d .any= .raw (.bool v))(e:v=b)(h:Sound P AQ ⟨k0,k,t.set d (.raw (.bool b)),H⟩):Sound P AQ ⟨k0,k,t,H⟩:=by
 subst e;have:t.set d (.raw (.bool v))=t:=by
  rcases AC d t.length with hl|hl
  · apply Bc;intro i;by_cases hi:i=d
    · subst hi;rw [Ar hl,←hv,Ad,Ab hl];rfl
    rw [Aq (Ne.symm hi)]
  exact List.set_eq_of_length_le hl
 rwa [this] at h
end Go.Sx
