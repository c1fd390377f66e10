/- Tables: a row's condition tells what the listed tables hold when the call begins. -/
import Derived.Test.YtmapiojgmbgbgaaGreatDoorVRw
set_option linter.all false
namespace Go.Proofs.YtmapiojgmbgbgaaGreatDoor
open Go Go.Sx Go.ChangeShapes Go.WideShapes Go.ChangeAt Go.RowKit
set_option maxRecDepth 100000
theorem z5d{P:Program}{x:String×DataW Unit}{r:List (String×DataW Unit)}{w:World}(h:laidMet P (x :: r) w):laidMet P r w:=by
 obtain ⟨ps,hv,hnd,hrows⟩:=h;obtain ⟨n,d⟩:=x;obtain ⟨g,t,cs,fuel,p,q,_,_,_,_,hq,rfl⟩:=hv;exact ⟨q,hq,List.Nodup.sublist (List.sublist_append_right _ _) hnd,fun b off hm=>hrows b off (List.mem_append_right _ hm)⟩
theorem z0o{P:Program}{W:World}:∀ {laid:List (String×DataW Unit)},laidMet P laid W→∀ {x},x∈laid→∃rest,laidMet P (x :: rest) W
 | [],_,x,h=>absurd h (by simp)
 |y :: r,hm,x,h=>by
  rcases Bz.1 h with rfl|h
  · exact ⟨r,hm⟩
  exact z0o (z5d hm) h
theorem j1y{P:Program}{W:World}{laid:List (String×DataW Unit)}(hm:laidMet P laid W)(name:String)(k:IntKind)(zs:List Int)(i:Nat)(hi:laid[i]?=some (name,Lib.tabData k zs)){g:Nat}{t e:TypeId}{n:Nat}
 (hg:P.globalNamed name=some g)(hty:(P.globals[g]?).map (·.type)=some t)(ht:P.underlying t=some (.array n e))(he:P.underlying e=some (.int k))(hce:P.cellsOf e=1)(hct:P.cellsOf t=n):TabB (Cx.top W) [] (g,zs.map fun z=>Value.int k z):=by
 obtain ⟨rest,hr⟩:=z0o hm (BC hi);have h:=Lib.tabIs_of_head hg hty ht he hce hct hr;unfold Lib.TabIs World.var? at h;rw [hg,CQ] at h;split at h
 · rename_i cs T fz hh;cases h;exact ⟨⟨(AA.1 hh).1,q8I⟩,T,fz,hh⟩
 cases h
theorem z6C{P:Program}{W:World}{laid:List (String×DataW Unit)}(hm:laidMet P laid W)(name:String)(k:IntKind)(zs:List Int)(i:Nat)(hi:laid[i]?=some (name,Lib.tabData k zs)){g:Nat}{t e:TypeId}{n:Nat}
 (hg:P.globalNamed name=some g)(hty:(P.globals[g]?).map (·.type)=some t)(ht:P.underlying t=some (.array n e))(he:P.underlying e=some (.int k))(hce:P.cellsOf e=1)(hct:P.cellsOf t=n)(hn:zs.length=n):TabD (Cx.top W) [] (g,⟨.arr n (.int k),zs⟩):=by
 obtain ⟨h1,T,fz,h2⟩:=j1y hm name k zs i hi hg hty ht he hce hct;refine ⟨h1,zs.map fun z=>Value.int k z,(q0W (e:=.int k) rfl).2 ⟨hn,by rw [A5];exact hn,fun j y u hy hu=> ?_⟩,fun j u hu=> ?_⟩
 · rw [AN,hy] at hu;cases hu;rfl
 rw [Ac,q0g h2];exact hu
theorem j3g{P:Program}{W:World}{laid:List (String×DataW Unit)}(h:laidMetH P laid W)(hn:(laid.all fun x=>x.2.handleName?.isNone)=true):laidMet P laid W:=by
 unfold laidMetH at h;have he:(laid.filter fun x=>x.2.handleName?.isSome)= []:=by
  rw [List.filter_eq_nil_iff];intro x hx;have:=Ba.1 hn x hx
  simp_all
 rw [he] at h;exact h
end Go.Proofs.YtmapiojgmbgbgaaGreatDoor
