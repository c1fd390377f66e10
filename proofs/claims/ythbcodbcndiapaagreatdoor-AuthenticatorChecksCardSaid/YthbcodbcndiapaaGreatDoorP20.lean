/- Tables: a row's condition tells what the listed tables hold when the call begins. -/
import Derived.Test.YthbcodbcndiapaaGreatDoorPRw
set_option linter.all false
namespace Go.Proofs.YthbcodbcndiapaaGreatDoor
open Go Go.Sx Go.ChangeShapes Go.WideShapes Go.ChangeAt Go.RowKit
set_option maxRecDepth 100000
variable {P:Program}
def z5R{x:String×DataW Unit}{r:List (String×DataW Unit)}{w:World}(h:laidMet P (x :: r) w):laidMet P r w:=by obtain ⟨ps,hv,hnd,hrows⟩:=h;obtain ⟨n,d⟩:=x;obtain ⟨g,t,cs,fuel,p,q,_,_,_,_,hq,rfl⟩:=hv;exact ⟨q,hq,List.Nodup.sublist (List.sublist_append_right _ _) hnd,fun b off hm=>hrows b off (List.mem_append_right _ hm)⟩
def z0E{P:Program}{W:World}:∀ {laid:List (String×DataW Unit)},laidMet P laid W->∀ {x},x∈laid->∃rest,laidMet P (x :: rest) W
 | [],_,x,h=>absurd h (by simp)
 |y :: r,hm,x,h=>by
  rcases Bm.1 h with rfl|h
  . exact ⟨r,hm⟩
  exact z0E (z5R hm) h
variable {W:World}{laid:List (String×DataW Unit)}
theorem j3r(hm:laidMet P laid W)(name:String)(k:IntKind)(zs:List Int)(i:Nat)(hi:laid[i]?=some (name,Lib.tabData k zs)){g:Nat}{t e:TypeId}{n:Nat}
 (hg:P.globalNamed name=some g)(hty:(P.globals[g]?).map (·.type)=some t)(ht:P.underlying t=some (.array n e))(he:P.underlying e=some (.int k))(hce:P.cellsOf e=1)(hct:P.cellsOf t=n):TabB (Cx.top W) [] (g,zs.map fun z=>Value.int k z):=by
 obtain ⟨rest,hr⟩:=z0E hm (BN hi);have h:=Lib.tabIs_of_head hg hty ht he hce hct hr;unfold Lib.TabIs World.var? at h;rw [hg,CZ] at h;split at h
 . rename_i cs T fz hh;cases h;exact ⟨⟨(AE.1 hh).1,q9b⟩,T,fz,hh⟩
 cases h
theorem z7N(hm:laidMet P laid W)(name:String)(k:IntKind)(zs:List Int)(i:Nat)(hi:laid[i]?=some (name,Lib.tabData k zs)){g:Nat}{t e:TypeId}{n:Nat}
 (hg:P.globalNamed name=some g)(hty:(P.globals[g]?).map (·.type)=some t)(ht:P.underlying t=some (.array n e))(he:P.underlying e=some (.int k))(hce:P.cellsOf e=1)(hct:P.cellsOf t=n)(hn:zs.length=n):TabD (Cx.top W) [] (g,⟨.arr n (.int k),zs⟩):=by
 obtain ⟨h1,T,fz,h2⟩:=j3r hm name k zs i hi hg hty ht he hce hct;refine ⟨h1,zs.map fun z=>Value.int k z,(q0V (e:=.int k) rfl).2 ⟨hn,by rw [AX];exact hn,fun j y u hy hu=> ?_⟩,fun j u hu=> ?_⟩
 . rw [AF,hy] at hu;cases hu;rfl
 rw [Ae,q0o h2];exact hu
theorem j5M(h:laidMetH P laid W)(hn:(laid.all fun x=>x.2.handleName?.isNone)=true):laidMet P laid W:=by
 unfold laidMetH at h;have he:(laid.filter fun x=>x.2.handleName?.isSome)= []:=by
  rw [List.filter_eq_nil_iff];intro x hx;have:=Bb.1 hn x hx
  simp_all
 rw [he] at h;exact h
end Go.Proofs.YthbcodbcndiapaaGreatDoor