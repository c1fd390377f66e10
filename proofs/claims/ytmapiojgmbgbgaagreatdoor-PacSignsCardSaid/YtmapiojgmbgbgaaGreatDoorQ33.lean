/- Tables: a row's condition tells what the listed tables hold when the call begins. -/
import Derived.Test.YtmapiojgmbgbgaaGreatDoorQRw
set_option linter.all false
namespace Go.Proofs.YtmapiojgmbgbgaaGreatDoor
open Go Go.Sx Go.ChangeShapes Go.WideShapes Go.ChangeAt Go.RowKit
set_option maxRecDepth 100000
theorem z6p{P:Program}{x:String×DataW Unit}{r:List (String×DataW Unit)}{w:World}(h:laidMet P (x :: r) w):laidMet P r w:=by
 obtain ⟨ps,hv,hnd,hrows⟩:=h;obtain ⟨n,d⟩:=x;obtain ⟨g,t,cs,fuel,p,q,_,_,_,_,hq,rfl⟩:=hv;exact ⟨q,hq,List.Nodup.sublist (List.sublist_append_right _ _) hnd,fun b off hm=>hrows b off (List.mem_append_right _ hm)⟩
theorem q7B{P:Program}{W:World}:∀ {laid:List (String×DataW Unit)},laidMet P laid W→∀ {x},x∈laid→∃rest,laidMet P (x :: rest) W
 | [],_,x,h=>absurd h (by simp)
 |y :: r,hm,x,h=>by
  rcases Bi.1 h with rfl|h
  · exact ⟨r,hm⟩
  exact q7B (z6p hm) h
theorem j3x{P:Program}{W:World}{laid:List (String×DataW Unit)}(hm:laidMet P laid W)(name:String)(k:IntKind)(zs:List Int)(i:Nat)(hi:laid[i]?=some (name,Lib.tabData k zs)){g:Nat}{t e:TypeId}{n:Nat}
 (hg:P.globalNamed name=some g)(hty:(P.globals[g]?).map (·.type)=some t)(ht:P.underlying t=some (.array n e))(he:P.underlying e=some (.int k))(hce:P.cellsOf e=1)(hct:P.cellsOf t=n):TabB (Cx.top W) [] (g,zs.map fun z=>Value.int k z):=by
 obtain ⟨rest,hr⟩:=q7B hm (Br hi);have h:=Lib.tabIs_of_head hg hty ht he hce hct hr;unfold Lib.TabIs World.var? at h;rw [hg,Cy] at h;split at h
 · rename_i cs T fz hh;cases h;exact ⟨⟨(AD.1 hh).1,q9y⟩,T,fz,hh⟩
 cases h
theorem z0e{P:Program}{W:World}{laid:List (String×DataW Unit)}(hm:laidMet P laid W)(name:String)(k:IntKind)(zs:List Int)(i:Nat)(hi:laid[i]?=some (name,Lib.tabData k zs)){g:Nat}{t e:TypeId}{n:Nat}
 (hg:P.globalNamed name=some g)(hty:(P.globals[g]?).map (·.type)=some t)(ht:P.underlying t=some (.array n e))(he:P.underlying e=some (.int k))(hce:P.cellsOf e=1)(hct:P.cellsOf t=n)(hn:zs.length=n):TabD (Cx.top W) [] (g,⟨.arr n (.int k),zs⟩):=by
 obtain ⟨h1,T,fz,h2⟩:=j3x hm name k zs i hi hg hty ht he hce hct;refine ⟨h1,zs.map fun z=>Value.int k z,(q1f (e:=.int k) rfl).2 ⟨hn,by rw [Be];exact hn,fun j y u hy hu=> ?_⟩,fun j u hu=> ?_⟩
 · rw [AS,hy] at hu;cases hu;rfl
 rw [Ab,q0n h2];exact hu
theorem z9a{P:Program}{W:World}{laid:List (String×DataW Unit)}(hm:laidMet P laid W)(name:String)(k:IntKind)(zs:List Int)(i:Nat)(hi:laid[i]?=some (name,.slice (zs.map fun z=>.lit (.int k z)) [])){g:Nat}{t e:TypeId}
 (hg:P.globalNamed name=some g)(hty:(P.globals[g]?).map (·.type)=some t)(ht:P.underlying t=some (.slice e))(he:P.underlying e=some (.int k))(hce:P.cellsOf e=1)(hz:zs.length≤1000):TabD (Cx.top W) [] (g,⟨.slice (.int k),zs⟩):=by
 obtain ⟨rest,hr⟩:=q7B hm (Br hi);obtain ⟨ps,⟨g',t',cs,fuel,p,q,hg',ht',hvar,hd,_,_⟩,_⟩:=hr;obtain rfl:=Option.some.inj (hg.symm.trans hg');obtain rfl:=Option.some.inj (hty.symm.trans ht');unfold World.var? at hvar;rw [hg,Cy] at hvar;split at hvar
 · rename_i cs' T fz hh;cases hvar;cases fuel with
   |zero=>simp [DataW.trod] at hd
   |succ fuel=>
    simp only [DataW.trod,ht] at hd;generalize hcl:cs.toList=l at hd;have hgl:g<W.heap.size:=(AD.1 hh).1;have h0:∀u,l[0]?=some u→W.cell? ⟨g,0+0,none⟩=some u:=fun u hu=>by
     rw [q0n hh,←hu,←hcl,B3]
    split at hd;all_goals first| (rename_i hq _;cases hq;done) | (rename_i hq;cases hq;done) |skip
    all_goals first| (cases hd;done) |skip
    rename_i e' a len cap hq;cases hq;split at hd
    · rename_i hc;obtain ⟨_,hc2,hc3⟩:=hc;obtain ⟨xs,hm',hx⟩:=BI.1 hd;obtain ⟨rs,_,hx2⟩:=Ap.1 hx;have hxs:xs.map (·.1)=zs.map fun z=>(DataW.lit (.int k z):DataW Unit):=by
       have:=congrArg Prod.fst hx2;simp only [DataW.slice.injEq] at this;exact this.1
      have hxl:xs.length=len:=by rw [Lib.mapM_length hm',BS]
      have hzl:zs.length=len:=by
       have:=congrArg List.length hxs;rw [Be,Be] at this;omega
      have hel:∀j z,zs[j]?=some z→W.cell? (a.add j)=some (.int k z):=fun j z hj=>by
       have hjl:j<zs.length:=(Af.1 hj).1;obtain ⟨b,hb,hf⟩:=Lib.mapM_at hm' j j (List.getElem?_range (by omega))
       obtain ⟨us,hus,htr⟩:=BI.1 hf;obtain ⟨z',rfl,rfl,_⟩:=DataW.trod_int he htr;have h1:(xs.map (·.1))[j]?=some (DataW.lit (.int k z'):DataW Unit):=by rw [AS,hb];rfl
       rw [hxs,AS,hj] at h1;simp only [CE,Option.some.injEq,DataW.lit.injEq,Lit.int.injEq,true_and] at h1;subst h1;have h2:=cells?_cell hus 0 _ rfl;rw [hce] at h2;simpa [Addr.add] using h2
      refine ⟨⟨hgl,q9y⟩,[.slice (some a) len cap],⟨some a,len,cap,rfl,hzl.symm,hc2,by omega,?_⟩,fun j u hu=> ?_⟩
      · by_cases hz0:zs= []
        · exact .inl hz0
        refine .inr ?_;have hz1:0<zs.length:=CI.2 hz0;have h1:=cell?_spot (hel 0 zs[0] (Ae hz1));obtain ⟨ab,ao,asp⟩:=a;obtain ⟨h1,h2⟩:=h1;simp only [Addr.add] at h1 h2;subst h1;refine ⟨ab,ao,rfl,h2,fun j z hj=>⟨_,rfl,fun m u hu=> ?_⟩⟩;cases m with
        |zero=>
         have h3:=hel j z hj;cases hu;show W.cell? _=_;by_cases hj0:j=0
         · subst hj0;simpa [Addr.add,Ty.size] using h3
         simpa [Addr.add,Ty.size,hj0] using h3
        |succ m=>cases hu
      cases j with
      |zero=>exact h0 u hu
      |succ j=>cases hu
    cases hd
 cases hvar
theorem j2a{P:Program}{W:World}{laid:List (String×DataW Unit)}(h:laidMetH P laid W)(hn:(laid.all fun x=>x.2.handleName?.isNone)=true):laidMet P laid W:=by
 unfold laidMetH at h;have he:(laid.filter fun x=>x.2.handleName?.isSome)= []:=by
  rw [List.filter_eq_nil_iff];intro x hx;have:=A3.1 hn x hx
  simp_all
 rw [he] at h;exact h
end Go.Proofs.YtmapiojgmbgbgaaGreatDoor
