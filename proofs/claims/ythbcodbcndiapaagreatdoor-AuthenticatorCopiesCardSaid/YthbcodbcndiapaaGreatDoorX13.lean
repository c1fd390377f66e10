/- Tables: a row's condition tells what the listed tables hold when the call begins. -/
import Derived.Test.YthbcodbcndiapaaGreatDoorXRw
set_option linter.all false
namespace Go.Proofs.YthbcodbcndiapaaGreatDoor
open Go Go.Sx Go.ChangeShapes Go.WideShapes Go.ChangeAt Go.RowKit
set_option maxRecDepth 100000
variable {P:Program}
def z6p{x:String×DataW Unit}{r:List (String×DataW Unit)}{w:World}(h:laidMet P (x :: r) w):laidMet P r w:=by obtain ⟨ps,i,c,a⟩:=h;obtain ⟨n,d⟩:=x;obtain ⟨g,t,cs,fuel,p,q,_,_,_,_,f,rfl⟩:=i;exact ⟨q,f,List.Nodup.sublist (List.sublist_append_right _ _) c,λb off e=>a b off (List.mem_append_right _ e)⟩
def z0R{P:Program}{W:World}:∀ {laid:List (String×DataW Unit)},laidMet P laid W->∀ {x},x∈laid->∃rest,laidMet P (x :: rest) W
 | [],_,x,h=>absurd h (by simp)
 |y :: r,hm,x,h=>by
  rcases Ba.1 h with rfl|h
  . exact ⟨r,hm⟩
  exact z0R (z6p hm) h
variable {W:World}{laid:List (String×DataW Unit)}
theorem j4y(l:laidMet P laid W)(a:String)(k:IntKind)(zs:List Int)(i:Nat)(q:laid[i]?=some (a,Lib.tabData k zs)){g:Nat}{t e:TypeId}{n:Nat}
 (j:P.globalNamed a=some g)(d:(P.globals[g]?).map (·.type)=some t)(p:P.underlying t=some (.array n e))(m:P.underlying e=some (.int k))(b:P.cellsOf e=1)(c:P.cellsOf t=n):TabB (Cx.top W) [] (g,zs.map λz=>Value.int k z):=by
 obtain ⟨rest,o⟩:=z0R l (BL q);have h:=Lib.tabIs_of_head j d p m b c o;unfold Lib.TabIs World.var? at h;rw [j,Option.bind_some] at h;split at h
 . rename_i cs T fz f;cases h;exact ⟨⟨(Ax.1 f).1,q6r⟩,T,fz,f⟩
 cases h
theorem z8o(l:laidMet P laid W)(a:String)(k:IntKind)(zs:List Int)(i:Nat)(v:laid[i]?=some (a,Lib.tabData k zs)){g:Nat}{t e:TypeId}{n:Nat}
 (s:P.globalNamed a=some g)(f:(P.globals[g]?).map (·.type)=some t)(r:P.underlying t=some (.array n e))(m:P.underlying e=some (.int k))(c:P.cellsOf e=1)(d:P.cellsOf t=n)(h:zs.length=n):TabD (Cx.top W) [] (g,⟨.arr n (.int k),zs⟩):=by
 obtain ⟨q,T,fz,o⟩:=j4y l a k zs i v s f r m c d;refine ⟨q,zs.map λz=>Value.int k z,(q0V (e:=.int k) rfl).2 ⟨h,by rw [A3];exact h,λj y u p b=> ?_⟩,λj u b=> ?_⟩
 . rw [AF,p] at b;cases b;rfl
 rw [Ag,q0h o];exact b
theorem j7e(h:laidMetH P laid W)(c:(laid.all λx=>x.2.handleName?.isNone)=true):laidMet P laid W:=by
 unfold laidMetH at h;have a:(laid.filter λx=>x.2.handleName?.isSome)= []:=by
  rw [List.filter_eq_nil_iff];intro x b;have:=Bj.1 c x b
  simp_all
 rw [a] at h;exact h
end Go.Proofs.YthbcodbcndiapaaGreatDoor