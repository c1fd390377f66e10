/- AuthenticatorHolds: the law answers true. -/
import Derived.Test.YthbcodbcndiapaaGreatDoorQ12
set_option linter.all false
namespace Go.Proofs.YthbcodbcndiapaaGreatDoor
open Go Go.Sx Go.Proofs
set_option maxRecDepth 100000
set_option maxHeartbeats 40000000
def j3P{a t b:Int}(h1:0<=a/\a<=1099511627776)(h2:0<=t/\t<=1099511627776):(IntKind.i64.wrap (mxV true a t-mxV false a t)<=b)=(-b<=t-a/\t-a<=b):=by
 have e:mxV true a t-mxV false a t=if a<t then t-a else a-t:=by
  unfold mxV;rw [if_pos rfl,if_neg Cm];by_cases h:a<t
  . rw [if_pos h,if_neg (by omega),if_pos h]
  rw [if_neg h,if_neg h];split<;>omega
 rw [e];by_cases h:a<t
 . rw [if_pos h,wrapi (by omega)];exact propext ⟨λ_=>by omega,λ_=>by omega⟩
 rw [if_neg h,wrapi (by omega)];exact propext ⟨λ_=>by omega,λ_=>by omega⟩
def j3J(k:Key)(u:Int)(a plain:List UInt8)(d:KeyT.ok k)(h:¬uOk k u=true):PC Tryz.prog 90 [.agg (KeyT.cells k),rI u,.isl .u8 a,.isl .u8 plain] (.tup [.agg [rI 0,rI 0,.isl .u8 []],rI 2]):=by have c:=q5Y k u d;rw [if_neg h,if_neg h] at c;obtain ⟨p,v,b⟩:=k;refine q0f rfl rfl ?_;refine rQ fi90 ?_;refine cQ c ?_;trivial
def j2D(k:Key)(u:Int)(a plain:List UInt8)(e:KeyT.ok k)(j:plain.length<=65536):PC Tryz.prog 90 [.agg (KeyT.cells k),rI u,.isl .u8 a,.isl .u8 plain] (.tup [.agg [rI 0,rI 0,.isl .u8 []],rI 2])\/
 ∃sb:List UInt8,PC Tryz.prog 90 [.agg (KeyT.cells k),rI u,.isl .u8 a,.isl .u8 plain] (.tup [.agg [rI k.1,rI k.2.1,.isl .u8 sb],rI 0])/\PC Tryz.prog 92 [.agg (KeyT.cells k),rI u,.agg [rI k.1,rI k.2.1,.isl .u8 sb]] (.tup [.isl .u8 plain,rI 0]):=by
 by_cases b:uOk k u=true
 . have h0:1<=u:=by unfold uOk at b;simp only [Aj,decide_eq_true_eq] at b;exact b.2.1
   obtain ⟨n,rfl⟩:∃n:Nat,u=n:=⟨u.toNat,by omega⟩
   have c:=j8Y k n a plain e;unfold slO at c;by_cases d:a.length=16
   . rw [if_pos ⟨b,d,j⟩] at c;have i:=j9U k n a plain b d j;obtain ⟨_,_,_,_,q1,q2⟩:=q3z b;have f:(seS k n a plain).length<=1099511627776:=by unfold seS;rw [Aa,z1B k n a plain d,z6Q];split<;>omega
     have l:=j7k k n k.1 k.2.1 (seS k n a plain) e f;rw [i] at l;exact .inr ⟨_,c,l⟩
   rw [if_neg λh=>d h.2.1] at c;exact .inl c
 exact .inl (j3J k u a plain e b)
theorem z5d(k:Key)(hk:KeyT.ok k)(u:Int)(a:Aut)(B:AutT.ok a)(i:List UInt8)(hcf:(Ty.slice .u8).ok i)(o:Prin)(Y:PrinT.ok o)(f c:Int):
 PC Tryz.prog 6 [.agg (KeyT.cells k),rI u,.agg (AutT.cells a),.isl .u8 i,.agg (PrinT.cells o),rI f,rI c] (rB true):=by
 have c1:=z5l a B;have c2:=z6j o Y;generalize hs1:smaB a=s1 at*;generalize hs2:shortB o=s2 at*;obtain ⟨C,D,z⟩:=k;obtain ⟨n,s,t,m,kk,q,d⟩:=a;obtain ⟨o1,G⟩:=o;obtain ⟨p,j,l⟩:=kk;refine q0q rfl rfl ?_;refine rQ fi6 ?_;refine q0a c1 ?_;cases s1
 . refine gQ ?_;refine cQ q2T ?_;trivial
 refine gQ ?_;refine q0a c2 ?_;cases s2
 . refine gQ ?_;refine cQ q2T ?_;trivial
 by_cases h3:500<z.length
 . have I:((500:Int) < ((List.length z:Nat):Int))=True:=eq_true (by omega);refine gy1 I ?_;refine cQ q2T ?_;trivial
 have I:((500:Int) < ((List.length z:Nat):Int))=False:=eq_false (by omega);by_cases h4:500<i.length
 . have Q:((500:Int) < ((i.length:Nat):Int))=True:=eq_true (by omega);refine gy2 I Q ?_;refine cQ q2T ?_;trivial
 have Q:((500:Int) < ((i.length:Nat):Int))=False:=eq_false (by omega);refine gy2 I Q ?_;have cE:=q5V _ B;by_cases v:vAut (n,s,t,m,(p,j,l),q,d)=true
 case neg=>rw [if_neg v,if_neg v] at cE;refine cQ cE ?_;refine cQ (q2g _) ?_;refine cQ q2T ?_;trivial
 rw [if_pos v,if_pos v] at cE;have y:=j1A v;have hle:=j6J v;have H:=λk u cf sp sv J e hs=>z9K k _ B u cf sp sv J e hs;have A:=λhb=>j2D (C,D,z) u i (autS (n,s,t,m,(p,j,l),q,d)) hk hb;generalize autS (n,s,t,m,(p,j,l),q,d)=b at*;have cD:=q5x b (by omega);rw [y,q7P] at cD;refine cQ cE ?_;refine q0a (q2g _) ?_;by_cases h5:500<b.length
 . have P:((500:Int) < ((b.length:Nat):Int))=True:=eq_true (by omega);refine gy1 P ?_;refine cQ q2T ?_;trivial
 have P:((500:Int) < ((b.length:Nat):Int))=False:=eq_false (by omega);have A:=A (by omega);refine gy1 P ?_;refine cQ cD ?_;refine cQ (q2g _) ?_;have L:=q8C _ (n,s,t,m,(p,j,l),q,d) B;rw [decide_eq_true rfl] at L;have ht:(0:Int)<=t/\t<=1099511627776:=by have h:=v;simp only [vAut,vTime,mIn,Aj,decide_eq_true_eq] at h;exact h.2.2.1
 have O:vPrin n=true:=by have h:=v;simp only [vAut,Aj] at h;exact h.1
 have c3:=z1b _ B n B.1 f c;have c4:=z1b _ B (o1,G) Y f c;refine q0a L ?_;have S:(0<=f/\f<=1099511627776)->(IntKind.i64.wrap (mxV true f t-mxV false f t)<=c)=(-c<=t-f/\t-f<=c):=λg=>j3P g ht;have E:((0<=f/\f<=1099511627776)/\0<=c/\c<=86400)->chkS (n,s,t,m,(p,j,l),q,d) n f c=if -c<=t-f/\t-f<=c then 0 else 181:=λg=>by
  have hT:vTime f=true:=by unfold vTime mIn;rw [decide_eq_true g.1.1,decide_eq_true g.1.2];rfl
  unfold chkS;rw [if_pos ⟨v,O,hT,g.2⟩,if_pos rfl]
 have R:chkS (n,s,t,m,(p,j,l),q,d) (o1,G) f c=0->(-c<=t-f/\t-f<=c)/\n=(o1,G):=λh=>by
  unfold chkS at h;split at h
  . split at h
    . rename_i K;split at h
      . exact ⟨by assumption,K⟩
      cases h
    cases h
  cases h
 generalize chkS (n,s,t,m,(p,j,l),q,d) (o1,G) f c=r at*;generalize chkS (n,s,t,m,(p,j,l),q,d) n f c=r3 at*;by_cases g:(0<=f/\f<=1099511627776)/\0<=c/\c<=86400
 case' pos=>
  have Z:(0<=f)=True:=eq_true g.1.1;have V:(f<=1099511627776)=True:=eq_true g.1.2;have g3:(0<=c)=True:=eq_true g.2.1;have X:(c<=86400)=True:=eq_true g.2.2;have S:=S g.1;have E:=E g;have hc:(r=0/\(-c<=t-f/\t-f<=c)/\n=(o1,G))\/(r≠0/\(-c<=t-f/\t-f<=c))\/(r≠0/\¬(-c<=t-f/\t-f<=c)):=by
   by_cases x:r=0
   . exact .inl ⟨x,R x⟩
   exact .inr (orMap (Classical.em _) (λh=>⟨x,h⟩) λh=>⟨x,h⟩)
  clear R;refine gy4 Z V g3 X ?_;refine cy4 c3 Z V g3 X ?_;refine cy1 (q2g _) S ?_;rcases hc with ⟨x,w,h⟩ | ⟨x,w⟩ | ⟨x,w⟩
  case' inl=>cases h
  all_goals
   first|rw [if_pos w] at E|rw [if_neg w] at E
   subst E;first|have U:=eq_false w|have U:=eq_true w
   first|have fr:=eq_false x|have fr:=eq_true x
   refine ⟨λh=>absurd (by simp [w]) h,λ_=>q0a c4 ?_⟩;refine gQ ?_;refine q0a (q2g _) ?_;refine uQ 600 _ ?_;simp (maxSteps:=3000000) only [U,fr,go_sem,↓zA,↓reduceIte,↓reduceDIte] <;>try simp only [zB]
 case' neg=>clear R E;refine gQ ?_;refine ⟨λx1=>⟨λx2=>⟨λx3=>⟨λx4=>absurd ⟨⟨x1,x2⟩,x3,x4⟩ g,λ_=> ?_⟩,λ_=> ?_⟩,λ_=> ?_⟩,λ_=> ?_⟩
 all_goals
  rcases A with N| ⟨J,N,K⟩
  . have F:=H (C,D,z) u i 0 0 [] 2 λ_=>N;rw [if_pos v,if_neg (by decide)] at F;refine cQ F ?_;refine cQ (q2g _) ?_;refine cQ q2T ?_;trivial
  have F:=H (C,D,z) u i C D J 0 λ_=>N;rw [if_pos v,if_pos rfl] at F;have W:=j1f (C,D,z) u C D J b (by omega) K;rw [y,q7P] at W;refine cQ F ?_;refine cQ (q2g _) ?_;refine cQ W ?_;refine cQ (q2g _) ?_;refine cQ L ?_;refine cQ q2T ?_;trivial
end Go.Proofs.YthbcodbcndiapaaGreatDoor