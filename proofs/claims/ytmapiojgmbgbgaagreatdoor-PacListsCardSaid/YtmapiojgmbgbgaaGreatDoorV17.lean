/-
  A world that has grown: 'w.more u' keeps every block of w; regions that draw their order, walked in one order; for whatever program.
-/
import Derived.WalkKit
import Derived.WalkSpells
import Derived.Deep.QuietTactic
import Derived.Lib.Hide
import Derived.OpenShut
import Derived.Maps.AppendAt
import Derived.Deep.AppendLies
import Derived.RegionTactic
import Derived.OwnWalk
import Derived.Test.YtmapiojgmbgbgaaGreatDoorProg
import Derived.BigQuiet
import Derived.WalkLawsBesides
import Derived.RangeFuncNested
import Derived.RangeFuncBound
import Derived.RangeFuncCalls
import Derived.RangeFuncLeaves
import Derived.Lib.Bytealg
import Derived.Lib.Strings
import Derived.Lib.IndexBytes
import Derived.Shelf.Abstract
import Derived.Shelf.RegionOpen
import Derived.OwnWalkIn
import Derived.TacticsInMore
import Derived.LoopNIn
import Derived.LoopIn
import Derived.RangeFuncBox
set_option linter.all false
namespace Go
open Go.RowKit

def Gr(w w':World):Prop:=Below w.heap.size w w'

theorem Gr.refl(w:World):Gr w w:=Below.refl _ _
theorem Gr.trans{a b c:World}(h:Gr a b)(k:Gr b c):Gr a c:=Below.trans h (Below.mono k h.size)
theorem Gr.size{a b:World}(h:Gr a b):a.heap.size≤b.heap.size:=Below.size h
theorem Gr.cell{a b:World}(h:Gr a b){p:Addr}(hp:p.block<a.heap.size):b.cell? p=a.cell? p:=Below.cell h hp
theorem Gr.frozen{a b:World}(h:Gr a b){p:Addr}(hp:p.block<a.heap.size):b.frozen? p=a.frozen? p:=Below.frozen h hp
theorem Gr.block{a b:World}(h:Gr a b){k:Nat}(hk:k<a.heap.size):b.heap[k]?=a.heap[k]?:=Below.block h k hk
theorem Gr.alloc(w:World)(o:Obj):Gr w (w.alloc o):=(Below.refl _ _).alloc (Nat.le_refl _) _
theorem Gr.drew(w:World):Gr w w.drew:=(Below.refl _ _).drew
open Classical in
noncomputable def World.more(w u:World):World:=if Gr w u then u else w

section
variable {w u v:World}
theorem World.more_gr(w u:World):Gr w (w.more u):=by
  unfold World.more;split
  · assumption
  · exact Gr.refl w
theorem World.more_eq(h:Gr w u):w.more u=u:=by unfold World.more;rw [if_pos h]
theorem Gr.more(h:Gr w u):∃x,u=w.more x:=⟨u,(World.more_eq h).symm⟩
theorem World.size_more(w u:World):w.heap.size≤(w.more u).heap.size:=(World.more_gr w u).size
@[go_sem] theorem World.cell?_more(w u:World)(a:Addr)(h:a.block<w.heap.size):(w.more u).cell? a=w.cell? a:=(World.more_gr w u).cell h
@[go_sem] theorem World.frozen?_more(w u:World)(a:Addr)(h:a.block<w.heap.size):(w.more u).frozen? a=w.frozen? a:=(World.more_gr w u).frozen h
end

@[go_sem] theorem World.cell?_more_a1(w u:World)(o1:Obj)(b i:Nat)(h:b<w.heap.size):((w.alloc o1).more u).cell? ⟨b,i,none⟩=w.cell? ⟨b,i,none⟩:=by
  rw [World.cell?_more _ u ⟨b,i,none⟩ (by simp;omega)]
  rw [World.cell?_alloc_past _ _ _ h]
@[go_sem] theorem World.frozen?_more_a1(w u:World)(o1:Obj)(b i:Nat)(h:b<w.heap.size):((w.alloc o1).more u).frozen? ⟨b,i,none⟩=w.frozen? ⟨b,i,none⟩:=by
  rw [World.frozen?_more _ u ⟨b,i,none⟩ (by simp;omega)]
  rw [World.frozen?_alloc_past _ _ _ h]
@[go_sem] theorem World.cell?_more_a2(w u:World)(o1 o2:Obj)(b i:Nat)(h:b<w.heap.size):(((w.alloc o1).alloc o2).more u).cell? ⟨b,i,none⟩=w.cell? ⟨b,i,none⟩:=by
  rw [World.cell?_more _ u ⟨b,i,none⟩ (by simp;omega)]
  rw [World.cell?_alloc_past _ _ _ (by simp;omega),World.cell?_alloc_past _ _ _ h]
@[go_sem] theorem World.frozen?_more_a2(w u:World)(o1 o2:Obj)(b i:Nat)(h:b<w.heap.size):(((w.alloc o1).alloc o2).more u).frozen? ⟨b,i,none⟩=w.frozen? ⟨b,i,none⟩:=by
  rw [World.frozen?_more _ u ⟨b,i,none⟩ (by simp;omega)]
  rw [World.frozen?_alloc_past _ _ _ (by simp;omega),World.frozen?_alloc_past _ _ _ h]
@[go_sem] theorem World.cell?_more_a3(w u:World)(o1 o2 o3:Obj)(b i:Nat)(h:b<w.heap.size):((((w.alloc o1).alloc o2).alloc o3).more u).cell? ⟨b,i,none⟩=w.cell? ⟨b,i,none⟩:=by
  rw [World.cell?_more _ u ⟨b,i,none⟩ (by simp;omega)]
  rw [World.cell?_alloc_past _ _ _ (by simp;omega),World.cell?_alloc_past _ _ _ (by simp;omega),World.cell?_alloc_past _ _ _ h]
@[go_sem] theorem World.frozen?_more_a3(w u:World)(o1 o2 o3:Obj)(b i:Nat)(h:b<w.heap.size):((((w.alloc o1).alloc o2).alloc o3).more u).frozen? ⟨b,i,none⟩=w.frozen? ⟨b,i,none⟩:=by
  rw [World.frozen?_more _ u ⟨b,i,none⟩ (by simp;omega)]
  rw [World.frozen?_alloc_past _ _ _ (by simp;omega),World.frozen?_alloc_past _ _ _ (by simp;omega),World.frozen?_alloc_past _ _ _ h]
@[go_sem] theorem World.cell?_more_a4(w u:World)(o1 o2 o3 o4:Obj)(b i:Nat)(h:b<w.heap.size):(((((w.alloc o1).alloc o2).alloc o3).alloc o4).more u).cell? ⟨b,i,none⟩=w.cell? ⟨b,i,none⟩:=by
  rw [World.cell?_more _ u ⟨b,i,none⟩ (by simp;omega)]
  rw [World.cell?_alloc_past _ _ _ (by simp;omega),World.cell?_alloc_past _ _ _ (by simp;omega),World.cell?_alloc_past _ _ _ (by simp;omega),World.cell?_alloc_past _ _ _ h]
@[go_sem] theorem World.frozen?_more_a4(w u:World)(o1 o2 o3 o4:Obj)(b i:Nat)(h:b<w.heap.size):(((((w.alloc o1).alloc o2).alloc o3).alloc o4).more u).frozen? ⟨b,i,none⟩=w.frozen? ⟨b,i,none⟩:=by
  rw [World.frozen?_more _ u ⟨b,i,none⟩ (by simp;omega)]
  rw [World.frozen?_alloc_past _ _ _ (by simp;omega),World.frozen?_alloc_past _ _ _ (by simp;omega),World.frozen?_alloc_past _ _ _ (by simp;omega),World.frozen?_alloc_past _ _ _ h]
@[go_sem] theorem World.cell?_more_a5(w u:World)(o1 o2 o3 o4 o5:Obj)(b i:Nat)(h:b<w.heap.size):((((((w.alloc o1).alloc o2).alloc o3).alloc o4).alloc o5).more u).cell? ⟨b,i,none⟩=w.cell? ⟨b,i,none⟩:=by
  rw [World.cell?_more _ u ⟨b,i,none⟩ (by simp;omega)]
  rw [World.cell?_alloc_past _ _ _ (by simp;omega),World.cell?_alloc_past _ _ _ (by simp;omega),World.cell?_alloc_past _ _ _ (by simp;omega),World.cell?_alloc_past _ _ _ (by simp;omega),World.cell?_alloc_past _ _ _ h]
@[go_sem] theorem World.frozen?_more_a5(w u:World)(o1 o2 o3 o4 o5:Obj)(b i:Nat)(h:b<w.heap.size):((((((w.alloc o1).alloc o2).alloc o3).alloc o4).alloc o5).more u).frozen? ⟨b,i,none⟩=w.frozen? ⟨b,i,none⟩:=by
  rw [World.frozen?_more _ u ⟨b,i,none⟩ (by simp;omega)]
  rw [World.frozen?_alloc_past _ _ _ (by simp;omega),World.frozen?_alloc_past _ _ _ (by simp;omega),World.frozen?_alloc_past _ _ _ (by simp;omega),World.frozen?_alloc_past _ _ _ (by simp;omega),World.frozen?_alloc_past _ _ _ h]
@[go_sem] theorem World.cell?_more_a6(w u:World)(o1 o2 o3 o4 o5 o6:Obj)(b i:Nat)(h:b<w.heap.size):(((((((w.alloc o1).alloc o2).alloc o3).alloc o4).alloc o5).alloc o6).more u).cell? ⟨b,i,none⟩=w.cell? ⟨b,i,none⟩:=by
  rw [World.cell?_more _ u ⟨b,i,none⟩ (by simp;omega)]
  rw [World.cell?_alloc_past _ _ _ (by simp;omega),World.cell?_alloc_past _ _ _ (by simp;omega),World.cell?_alloc_past _ _ _ (by simp;omega),World.cell?_alloc_past _ _ _ (by simp;omega),World.cell?_alloc_past _ _ _ (by simp;omega),World.cell?_alloc_past _ _ _ h]
@[go_sem] theorem World.frozen?_more_a6(w u:World)(o1 o2 o3 o4 o5 o6:Obj)(b i:Nat)(h:b<w.heap.size):(((((((w.alloc o1).alloc o2).alloc o3).alloc o4).alloc o5).alloc o6).more u).frozen? ⟨b,i,none⟩=w.frozen? ⟨b,i,none⟩:=by
  rw [World.frozen?_more _ u ⟨b,i,none⟩ (by simp;omega)]
  rw [World.frozen?_alloc_past _ _ _ (by simp;omega),World.frozen?_alloc_past _ _ _ (by simp;omega),World.frozen?_alloc_past _ _ _ (by simp;omega),World.frozen?_alloc_past _ _ _ (by simp;omega),World.frozen?_alloc_past _ _ _ (by simp;omega),World.frozen?_alloc_past _ _ _ h]
@[go_sem] theorem nat_lt_size_more{a:Nat}(w u:World)(h:a<w.heap.size):(a< (w.more u).heap.size)=True:=eq_true (Nat.lt_of_lt_of_le h (World.size_more w u))

def stillUpon(w:World)(v:Value):Result Next→Prop
  |.ok (.value u) w'=>w'=w∧u=v
  |.ok .skip w'=>w'=w∧v=undef
  |_=>False
attribute [go_sem] stillUpon

section
variable {P:Program} {ops:Array Oper} {Q:Exit→Act→World→Prop} {md:Region.Mode} {C:World→Prop}

def NoPan(Q:Exit→Act→World→Prop):Exit→Act→World→Prop
  |.panic _,_,_=>False
  |e,a,w=>Q e a w
theorem NoPan.toQ{Q:Exit→Act→World→Prop}:∀ (e:Exit) (a:Act) (w:World),NoPan Q e a w→Q e a w:=fun e a w h=>by
  cases e<;>first|exact h|exact (h:False).elim

end
end Go

/-
  How data lie in memory: 'Rep': a type of data, the number of its cells, and when cells read as a datum. For whatever program.
-/
namespace Go
open Go.RowKit

structure Foot where
  S:Nat→Prop
  wr:Bool

structure Rep (α:Type) where
  size:Nat
  rel:World→Foot→List Value→α→Prop
  len:∀ {w F cs a},rel w F cs a→cs.length=size
  keep:∀ {w w' F cs a},(∀k,F.S k→w'.heap[k]?=w.heap[k]?)→rel w F cs a→rel w' F cs a
  mono:∀ {w F F' cs a},(∀k,F.S k→F'.S k)→(F'.wr=true→F.wr=true)→rel w F cs a→rel w F' cs a
  one:∀ {w F cs a},rel w F cs a→∀v∈cs,v.oneCell'=true

def Foot.all(w:World):Foot:=⟨fun k=>k<w.heap.size,false⟩

namespace Rep
variable {α β:Type}

theorem gr{r:Rep α}{w w':World}{cs:List Value}{a:α}(h:r.rel w (Foot.all w) cs a)(g:Gr w w'):r.rel w' (Foot.all w') cs a:=
  r.mono (F:=Foot.all w) (fun _ hk=>Nat.lt_of_lt_of_le hk g.size) (fun h=>h) (r.keep (fun _ hk=>g.block hk) h)

theorem more{r:Rep α}{w:World}{cs:List Value}{a:α}(h:r.rel w (Foot.all w) cs a)(u:World):r.rel (w.more u) (Foot.all (w.more u)) cs a:=
  r.gr h (World.more_gr w u)

def int(k:IntKind):Rep Int where
  size:=1
  rel:=fun _ _ cs n=>cs= [.int k n]∧(Lit.int k n).wf=true
  len:=fun h=>by rw [h.1];rfl
  keep:=fun _ h=>h
  mono:=fun _ _ h=>h
  one:=fun h v hv=>by rw [h.1] at hv;simp at hv;subst hv;rfl

def bool:Rep Bool where
  size:=1
  rel:=fun _ _ cs b=>cs= [.bool b]
  len:=fun h=>by rw [h];rfl
  keep:=fun _ h=>h
  mono:=fun _ _ h=>h
  one:=fun h v hv=>by rw [h] at hv;simp at hv;subst hv;rfl

def u8:Rep UInt8 where
  size:=1
  rel:=fun _ _ cs b=>cs= [.int .u8 b.toNat]
  len:=fun h=>by rw [h];rfl
  keep:=fun _ h=>h
  mono:=fun _ _ h=>h
  one:=fun h v hv=>by rw [h] at hv;simp at hv;subst hv;rfl

def str:Rep ByteArray where
  size:=1
  rel:=fun _ _ cs s=>cs= [.string s]∧s.size≤140737488355328
  len:=fun h=>by rw [h.1];rfl
  keep:=fun _ h=>h
  mono:=fun _ _ h=>h
  one:=fun h v hv=>by rw [h.1] at hv;simp at hv;subst hv;rfl

def Sl(r:Rep α)(w:World)(F:Foot)(A:Option Addr)(n:Nat)(xs:List α):Prop:=
  n=xs.length∧n*r.size≤1125899906842624∧n≤1125899906842624∧
  (0<n→∃b off,A=some ⟨b,off,none⟩∧F.S b∧b<w.heap.size∧
    ∀i (hi:i<xs.length),∃es,(∀j,j<r.size→w.cell? ⟨b,off+i*r.size+j,none⟩=es[j]?∧(F.wr=true→w.frozen? ⟨b,off+i*r.size+j,none⟩=false))∧r.rel w F es xs[i])

theorem Sl.keep{r:Rep α}{w w':World}{F:Foot}{A:Option Addr}{n:Nat}{xs:List α}(hk:∀k,F.S k→w'.heap[k]?=w.heap[k]?)(h:Sl r w F A n xs):Sl r w' F A n xs:=by
  obtain ⟨h1,h2,h3,h4⟩:=h;refine ⟨h1,h2,h3,fun hn=> ?_⟩;obtain ⟨b,off,hA,hS,hb,hc⟩:=h4 hn;have hblk:=hk b hS;refine ⟨b,off,hA,hS,?_,fun i hi=> ?_⟩
  · rcases Nat.lt_or_ge b w'.heap.size with h|h
    · exact h
    · rw [Array.getElem?_eq_none h,Array.getElem?_eq_getElem hb] at hblk;cases hblk
  · obtain ⟨es,he,hr⟩:=hc i hi;exact ⟨es,fun j hj=>⟨(World.cell?_of_block (a:=⟨b,off+i*r.size+j,none⟩) hblk).trans (he j hj).1,fun hw=>(World.frozen?_of_block (a:=⟨b,off+i*r.size+j,none⟩) hblk).trans ((he j hj).2 hw)⟩,r.keep hk hr⟩

theorem Sl.mono{r:Rep α}{w:World}{F F':Foot}{A:Option Addr}{n:Nat}{xs:List α}(hs:∀k,F.S k→F'.S k)(hw:F'.wr=true→F.wr=true)(h:Sl r w F A n xs):Sl r w F' A n xs:=by
  obtain ⟨h1,h2,h3,h4⟩:=h;refine ⟨h1,h2,h3,fun hn=> ?_⟩;obtain ⟨b,off,hA,hS,hb,hc⟩:=h4 hn;refine ⟨b,off,hA,hs b hS,hb,fun i hi=> ?_⟩;obtain ⟨es,he,hr⟩:=hc i hi;exact ⟨es,fun j hj=>⟨(he j hj).1,fun h=>(he j hj).2 (hw h)⟩,r.mono hs hw hr⟩

def slice(r:Rep α):Rep (List α) where
  size:=1
  rel:=fun w F cs xs=>∃A n c,cs= [.slice A n c]∧n≤c∧Sl r w F A n xs
  len:=fun h=>by obtain ⟨_,_,_,h,_⟩:=h;rw [h];rfl
  keep:=fun hk h=>by obtain ⟨A,n,c,h1,h2,h3⟩:=h;exact ⟨A,n,c,h1,h2,h3.keep hk⟩
  mono:=fun hs hw h=>by obtain ⟨A,n,c,h1,h2,h3⟩:=h;exact ⟨A,n,c,h1,h2,h3.mono hs hw⟩
  one:=fun h v hv=>by obtain ⟨_,_,_,h,_⟩:=h;rw [h] at hv;simp at hv;subst hv;rfl

def prod(r:Rep α)(s:Rep β):Rep (α×β) where
  size:=r.size+s.size
  rel:=fun w F cs p=>∃xs ys,cs=xs++ys∧r.rel w F xs p.1∧s.rel w F ys p.2
  len:=fun h=>by obtain ⟨xs,ys,h,hx,hy⟩:=h;rw [h,List.length_append,r.len hx,s.len hy]
  keep:=fun hk h=>by obtain ⟨xs,ys,h,hx,hy⟩:=h;exact ⟨xs,ys,h,r.keep hk hx,s.keep hk hy⟩
  mono:=fun hs hw h=>by obtain ⟨xs,ys,h,hx,hy⟩:=h;exact ⟨xs,ys,h,r.mono hs hw hx,s.mono hs hw hy⟩
  one:=fun h v hv=>by
    obtain ⟨xs,ys,h,hx,hy⟩:=h;rw [h,List.mem_append] at hv;rcases hv with hv|hv
    · exact r.one hx v hv
    · exact s.one hy v hv

def map(r:Rep α)(f:β→α):Rep β where
  size:=r.size
  rel:=fun w F cs b=>r.rel w F cs (f b)
  len:=fun h=>r.len h
  keep:=fun hk h=>r.keep hk h
  mono:=fun hs hw h=>r.mono hs hw h
  one:=fun h=>r.one h

section
variable {r:Rep α} {w w':World} {F:Foot} {A:Option Addr} {n:Nat} {xs:List α}
theorem Sl.gr(h:Sl r w (Foot.all w) A n xs)(g:Gr w w'):Sl r w' (Foot.all w') A n xs:=
  Sl.mono (F:=Foot.all w) (fun _ hk=>Nat.lt_of_lt_of_le hk g.size) (fun h=>h) (h.keep (w':=w') fun _ hk=>g.block hk)
theorem Sl.more(h:Sl r w (Foot.all w) A n xs)(u:World):Sl r (w.more u) (Foot.all (w.more u)) A n xs:=h.gr (World.more_gr w u)
theorem Sl.alloc(h:Sl r w (Foot.all w) A n xs)(o:Obj):Sl r (w.alloc o) (Foot.all (w.alloc o)) A n xs:=h.gr (Gr.alloc w o)
theorem Sl.drew(h:Sl r w (Foot.all w) A n xs):Sl r w.drew (Foot.all w.drew) A n xs:=h.gr (Gr.drew w)
theorem Sl.all(h:Sl r w F A n xs)(hh:∀k,F.S k→k<w.heap.size):Sl r w (Foot.all w) A n xs:=h.mono hh (fun h=>by cases h)
theorem Sl.len_(h:Sl r w F A n xs):n=xs.length:=h.1
theorem Sl.nil:Sl r w F A 0 []:=⟨rfl,by omega,by omega,fun h=>absurd h (by omega)⟩
end

def Chunks(r:Rep α)(w:World)(F:Foot)(cs:List Value)(xs:List α):Prop:=
  cs.length=xs.length*r.size∧∀i (hi:i<xs.length),r.rel w F ((cs.drop (i*r.size)).take r.size) xs[i]

theorem Chunks.nil{r:Rep α}{w:World}{F:Foot}:Chunks r w F [] []:=⟨by simp,fun i hi=>absurd hi (by simp)⟩
theorem Chunks.keep{r:Rep α}{w w':World}{F:Foot}{cs:List Value}{xs:List α}(hk:∀k,F.S k→w'.heap[k]?=w.heap[k]?)(h:Chunks r w F cs xs):Chunks r w' F cs xs:=⟨h.1,fun i hi=>r.keep hk (h.2 i hi)⟩
theorem Chunks.mono{r:Rep α}{w:World}{F F':Foot}{cs:List Value}{xs:List α}(hs:∀k,F.S k→F'.S k)(hw:F'.wr=true→F.wr=true)(h:Chunks r w F cs xs):Chunks r w F' cs xs:=⟨h.1,fun i hi=>r.mono hs hw (h.2 i hi)⟩
theorem Chunks.one_{r:Rep α}{w:World}{F:Foot}{cs:List Value}{x:α}(h:r.rel w F cs x):Chunks r w F cs [x]:=by
  refine ⟨by simp [r.len h],fun i hi=> ?_⟩
  obtain rfl:i=0:=by simpa using hi
  simpa [List.take_of_length_le,r.len h] using h
theorem Chunks.append{r:Rep α}{w:World}{F:Foot}{cs ds:List Value}{xs ys:List α}(h:Chunks r w F cs xs)(k:Chunks r w F ds ys):Chunks r w F (cs++ds) (xs++ys):=by
  refine ⟨by simp [h.1,k.1,Nat.add_mul],fun i hi=> ?_⟩
  by_cases hlt:i<xs.length
  · have hle:i*r.size+r.size≤cs.length:=by
      rw [h.1]
      calc i*r.size+r.size=(i+1)*r.size:=by rw [Nat.add_mul,Nat.one_mul]
        _≤xs.length*r.size:=Nat.mul_le_mul_right _ hlt
    have e1:((cs++ds).drop (i*r.size)).take r.size=(cs.drop (i*r.size)).take r.size:=by
      rw [List.drop_append_of_le_length (by omega),List.take_append_of_le_length (by simp;omega)]
    have e2:(xs++ys)[i]=xs[i]:=List.getElem_append_left hlt;rw [e1,e2];exact h.2 i hlt
  · have hlen:(xs++ys).length=xs.length+ys.length:=List.length_append;obtain ⟨j,rfl⟩:∃j,i=xs.length+j:=⟨i-xs.length,by omega⟩
    have e1:((cs++ds).drop ((xs.length+j)*r.size)).take r.size=(ds.drop (j*r.size)).take r.size:=by
      rw [Nat.add_mul,←h.1,List.drop_append,List.drop_eq_nil_of_le (by omega)]
      simp
    have e2:(xs++ys)[xs.length+j]=ys[j]'(by omega):=by simp [List.getElem_append_right]
    rw [e1,e2];exact k.2 j (by omega)

theorem Sl.flat{r:Rep α}{w:World}{F:Foot}{A:Option Addr}{n:Nat}{xs:List α}(h:Sl r w F A n xs):
    ∃cs,Chunks r w F cs xs∧(0<n→∃b off,A=some ⟨b,off,none⟩∧F.S b∧b<w.heap.size∧∀j u,cs[j]?=some u→w.cell? ⟨b,off+j,none⟩=some u):=by
  obtain ⟨h1,h2,h3,h4⟩:=h;rcases Nat.eq_zero_or_pos n with h0|h0
  · obtain rfl:xs= []:=List.eq_nil_of_length_eq_zero (by omega)
    exact ⟨[],Chunks.nil,fun h=>absurd h (by omega)⟩
  · obtain ⟨b,off,hA,hS,hb,hc⟩:=h4 h0;have hx:∀m,m≤xs.length→∃cs,Chunks r w F cs (xs.take m)∧∀j u,cs[j]?=some u→w.cell? ⟨b,off+j,none⟩=some u:=by
      intro m;induction m with
      |zero=>exact fun _=>⟨[],by simpa using Chunks.nil,by simp⟩
      |succ m ih=>
        intro hm;obtain ⟨cs,hch,hcell⟩:=ih (by omega)
        obtain ⟨es,he,hr⟩:=hc m (by omega)
        have hlen:cs.length=m*r.size:=by rw [hch.1,List.length_take,Nat.min_eq_left (by omega)]
        refine ⟨cs++es,?_,fun j u hu=> ?_⟩
        · rw [List.take_succ_eq_append_getElem (by omega)]
          exact hch.append (Chunks.one_ hr)
        · by_cases hj:j<cs.length
          · rw [List.getElem?_append_left hj] at hu;exact hcell j u hu
          · rw [List.getElem?_append_right (by omega)] at hu
            have hjs:j-cs.length<r.size:=by rw [←r.len hr];exact (List.getElem?_eq_some_iff.1 hu).1
            have:=(he (j-cs.length) hjs).1;rw [show off+m*r.size+ (j-cs.length)=off+j by omega] at this
            rw [this,hu]
    obtain ⟨cs,hch,hcell⟩:=hx xs.length (Nat.le_refl _);rw [List.take_length] at hch;exact ⟨cs,hch,fun _=>⟨b,off,hA,hS,hb,hcell⟩⟩

def OwnS(r:Rep α)(e:TypeId)(w:World)(B:Nat)(F:Foot)(v:Value)(xs:List α):Prop:=
  ∃cs,w.ownsRow B e r.size v xs.length cs∧Chunks r w F cs xs∧∀k,F.S k→v.ownBlock≠some k∧k<w.heap.size

def Foot.none:Foot:=⟨fun _=>False,true⟩
def Foot.or(F G:Foot):Foot:=⟨fun k=>F.S k∨G.S k,F.wr&& G.wr⟩
def Foot.plus(F:Foot)(b:Option Nat):Foot:=⟨fun k=>F.S k∨b=some k,F.wr⟩

theorem OwnS.nil(r:Rep α)(e:TypeId)(w:World)(B:Nat):OwnS r e w B Foot.none (.slice .none 0 0) []:=
  ⟨[],⟨by simp,.inl ⟨rfl,rfl⟩⟩,Chunks.nil,fun _ h=>h.elim⟩

theorem ownsRow_gr{w w':World}{B:Nat}{e:TypeId}{size:Nat}{v:Value}{n:Nat}{cs:List Value}(h:w.ownsRow B e size v n cs)(g:Gr w w'):w'.ownsRow B e size v n cs:=by
  obtain ⟨h1,h2⟩:=h;refine ⟨h1,?_⟩;rcases h2 with h2| ⟨b,cap,cur,hv,hg,hh,rest⟩
  · exact .inl h2
  · exact .inr ⟨b,cap,cur,hv,hg,(g.block (Array.getElem?_eq_some_iff.1 hh).1).trans hh,rest⟩

theorem OwnS.keep{r:Rep α}{e:TypeId}{w w':World}{B:Nat}{F:Foot}{v:Value}{xs:List α}(h:OwnS r e w B F v xs)(g:Gr w w'):OwnS r e w' B F v xs:=by
  obtain ⟨cs,ho,hc,hn⟩:=h;exact ⟨cs,ownsRow_gr ho g,hc.keep fun k hk=>g.block (hn k hk).2,fun k hk=>⟨(hn k hk).1,Nat.lt_of_lt_of_le (hn k hk).2 g.size⟩⟩

theorem OwnS.mono{r:Rep α}{e:TypeId}{w:World}{B:Nat}{F F':Foot}{v:Value}{xs:List α}(h:OwnS r e w B F v xs)(hs:∀k,F.S k→F'.S k)(hw:F'.wr=true→F.wr=true)(hn:∀k,F'.S k→v.ownBlock≠some k∧k<w.heap.size):OwnS r e w B F' v xs:=by
  obtain ⟨cs,ho,hc,_⟩:=h;exact ⟨cs,ho,hc.mono hs hw,hn⟩

theorem OwnS.sl{r:Rep α}{e:TypeId}{w:World}{B:Nat}{F:Foot}{v:Value}{xs:List α}(h:OwnS r e w B F v xs)(hb:xs.length*r.size≤1125899906842624)(hb2:xs.length≤1125899906842624):
    ∃A c,v= .slice A xs.length c∧xs.length≤c∧Sl r w (Foot.plus F v.ownBlock) A xs.length xs:=by
  obtain ⟨cs,⟨h1,h2⟩,hc,hn⟩:=h;rcases h2 with ⟨rfl,h0⟩ | ⟨g,cap,cur,rfl,hg,hh,hle,hmax,hsz,htk⟩
  · obtain rfl:xs= []:=List.eq_nil_of_length_eq_zero h0;exact ⟨.none,0,rfl,Nat.le_refl _,Sl.nil⟩
  · refine ⟨some ⟨g,0,.none⟩,cap,rfl,hle,rfl,hb,hb2,fun hn0=>⟨g,0,rfl,.inr rfl,(Array.getElem?_eq_some_iff.1 hh).1,fun i hi=> ?_⟩⟩;refine ⟨(cs.drop (i*r.size)).take r.size,fun j hj=>⟨?_,fun _=>by simp [World.frozen?,hh]⟩,r.mono (F:=F) (fun k hk=>.inl hk) (fun h=>h) (hc.2 i hi)⟩
    have hle2:i*r.size+r.size≤xs.length*r.size:=by
      have:=Nat.mul_le_mul_right r.size hi;rw [Nat.succ_mul] at this;exact this
    rw [List.getElem?_take_of_lt hj,List.getElem?_drop,←htk,List.getElem?_take_of_lt (by omega)]
    simp [World.cell?,hh]

theorem OwnS.blk{r:Rep α}{e:TypeId}{w:World}{B:Nat}{F:Foot}{v:Value}{xs:List α}(h:OwnS r e w B F v xs){k:Nat}(hk:v.ownBlock=some k):B≤k∧k<w.heap.size:=by
  obtain ⟨cs,⟨h1,h2⟩,_,_⟩:=h;rcases h2 with ⟨rfl,h0⟩ | ⟨g,cap,cur,rfl,hg,hh,rest⟩
  · cases hk
  · simp [Value.ownBlock] at hk;subst hk;exact ⟨hg,(Array.getElem?_eq_some_iff.1 hh).1⟩

section
variable {P:Program} (w:World)
end

def _root_.Go.Foot.fresh(B:Nat)(w:World):Foot:=⟨fun k=>B≤k∧k<w.heap.size,true⟩
def _root_.Go.Foot.sans(B:Nat)(w:World)(v:Value):Foot:=⟨fun k=>B≤k∧k<w.heap.size∧v.ownBlock≠some k,true⟩
def OwnF(r:Rep α)(e:TypeId)(w:World)(B:Nat)(v:Value)(xs:List α):Prop:=OwnS r e w B (Foot.sans B w v) v xs

theorem OwnF.nil(r:Rep α)(e:TypeId)(w:World)(B:Nat):OwnF r e w B (.slice .none 0 0) []:=
  (OwnS.nil r e w B).mono (fun _ h=>h.elim) (fun _=>rfl) (fun _ h=>⟨h.2.2,h.2.1⟩)
theorem OwnF.empty(r:Rep α)(e:TypeId)(w:World)(B g c:Nat)(hg:B≤g)(cur:Array Value)(hh:w.heap[g]?=some (.cells cur e (0,0)))(hc:cur.size=c*r.size)(hm:c≤maxLen):OwnF r e w B (.slice (some ⟨g,0,.none⟩) 0 c) []:=
  ⟨[],⟨by simp,.inr ⟨g,c,cur,rfl,hg,hh,Nat.zero_le _,hm,hc,by simp⟩⟩,Chunks.nil,fun _ h=>⟨h.2.2,h.2.1⟩⟩
theorem OwnF.gr{r:Rep α}{e:TypeId}{w w':World}{B:Nat}{v:Value}{xs:List α}(h:OwnF r e w B v xs)(g:Gr w w'):OwnF r e w' B v xs:=
  (OwnS.keep h g).mono (fun _ hk=>⟨hk.1,Nat.lt_of_lt_of_le hk.2.1 g.size,hk.2.2⟩) (fun h=>h) (fun _ hk=>⟨hk.2.2,hk.2.1⟩)
theorem OwnF.more{r:Rep α}{e:TypeId}{w:World}{B:Nat}{v:Value}{xs:List α}(h:OwnF r e w B v xs)(u:World):OwnF r e (w.more u) B v xs:=h.gr (World.more_gr w u)
theorem OwnF.sl{r:Rep α}{e:TypeId}{w:World}{B:Nat}{v:Value}{xs:List α}(h:OwnF r e w B v xs)(hb:xs.length*r.size≤1125899906842624)(hb2:xs.length≤1125899906842624):
    ∃A c,v= .slice A xs.length c∧xs.length≤c∧Sl r w (Foot.fresh B w) A xs.length xs:=by
  obtain ⟨A,c,hv,hc,hs⟩:=OwnS.sl h hb hb2;refine ⟨A,c,hv,hc,Sl.mono (F:=Foot.plus (Foot.sans B w v) v.ownBlock) (fun k hk=> ?_) (fun h=>h) hs⟩;rcases hk with hk|hk
  · exact ⟨hk.1,hk.2.1⟩
  · exact OwnS.blk h hk

section
variable {P:Program} (w:World)
end

theorem Sl.src{r:Rep α}{w:World}{F:Foot}{A:Option Addr}{n:Nat}{xs:List α}(h:Sl r w F A n xs):
    ∃cs,Chunks r w F cs xs∧(0<n→∃b off,A=some ⟨b,off,.none⟩∧∀j u,cs[j]?=some u→w.cell? ⟨b,off+j,.none⟩=some u):=by
  obtain ⟨cs,h1,h2⟩:=h.flat;exact ⟨cs,h1,fun hn=>by obtain ⟨b,off,hA,_,_,hc⟩:=h2 hn;exact ⟨b,off,hA,hc⟩⟩

def Src(w:World)(A:Option Addr)(n:Nat)(ds:List Value):Prop:=0<n→∃b off,A=some ⟨b,off,.none⟩∧∀j u,ds[j]?=some u→w.cell? ⟨b,off+j,.none⟩=some u
theorem Src.gr{w w':World}{A:Option Addr}{n:Nat}{ds:List Value}(h:Src w A n ds)(g:Gr w w'):Src w' A n ds:=fun hn=>by
  obtain ⟨b,off,e,hc⟩:=h hn;exact ⟨b,off,e,fun j u hu=>(g.cell (World.block_lt_of_cell? w ⟨b,off+j,.none⟩ (hc j u hu))).trans (hc j u hu)⟩
theorem Src.new(w:World)(ds:List Value)(t:TypeId)(n:Nat):Src (w.alloc (.cells ds.toArray t)) (some ⟨w.heap.size,0,.none⟩) n ds:=fun _=>
  ⟨w.heap.size,0,rfl,fun j u hu=>by simp [World.cell?_alloc_new,hu]⟩

end Rep
end Go

namespace Go.Proofs.YtmapiojgmbgbgaaGreatDoor
open Go Go.RowKit
def Ret(w:World)(v:Value)(e:Ending)(w':World):Prop:=e= .returned v∧Gr w w'

theorem ba_toList_inj{a b:ByteArray}(h:a.toList=b.toList):a=b:=by
  rw [ByteArray.toList_eq,ByteArray.toList_eq] at h;exact ByteArray.ext (Array.toList_inj.1 h)

theorem ret_bool{a b:Bool}(h:a=b):Ending.returned (.bool a)= .returned (.bool b):=by rw [h]
theorem ret_int{k:IntKind}{a b:Int}(h:a=b):Ending.returned (.int k a)= .returned (.int k b):=by rw [h]

def sizedB(s:ByteArray):Bool:=decide (1≤s.size) && decide (s.size≤32)

theorem sized_c(s:ByteArray)(w:World)(hs:s.size≤140737488355328)(B:Bool)(HB:Hid (B=sizedB s)):Calls Tryz.prog 171 #[.string s] w (Ret w (.bool B)):=by
  by_cases h1:1≤s.size
  all_goals
    go_enter Tryz.func171,Tryz.ntmps171
    go_wp2
    go_ret
    refine ⟨ret_bool ?_,Gr.refl w⟩;rw [HB.out,sizedB];simp [h1];try omega

theorem take_snoc(s:ByteArray)(k:Nat)(h:k<s.size):s.data.toList.take (k+1)=s.data.toList.take k++ [s[k]]:=by
  rw [List.take_succ_eq_append_getElem (by simpa using h)];rfl

theorem all_snoc{s:ByteArray}{k:Nat}(h:k<s.size){f:UInt8→Bool}(ha:(s.data.toList.take k).all f=true)(hk:f s[k]=true):(s.data.toList.take (k+1)).all f=true:=by
  rw [take_snoc s k h,List.all_append,ha];simp [hk]
theorem all_not{s:ByteArray}{k:Nat}(h:k<s.size){f:UInt8→Bool}(hk:f s[k]=false):s.data.toList.all f=false:=by
  rw [List.all_eq_false];exact ⟨s[k],by rw [show s[k]=s.data.toList[k]'(by simpa using h) from rfl];exact List.getElem_mem _,by simp [hk]⟩
theorem all_end{s:ByteArray}{k:Nat}(h:¬k<s.size){f:UInt8→Bool}(ha:(s.data.toList.take k).all f=true):s.data.toList.all f=true:=by
  rw [List.take_of_length_le (by have:s.size=s.data.toList.length:=by simp
                                 omega)] at ha
  exact ha
end Go.Proofs.YtmapiojgmbgbgaaGreatDoor
/-
  A range over a function whose iterator keeps variables of its own in memory: the contract of the iterator and the law of the loop; for whatever program.
-/
namespace Go
open Go.RowKit

structure GrX (X:Nat→Prop) (W W':World):Prop where
  os:W'.os=W.os
  tape:W'.tape=W.tape
  output:W'.output=W.output
  size:W.heap.size≤W'.heap.size
  block:∀k,k<W.heap.size→¬X k→W'.heap[k]?=W.heap[k]?

theorem GrX.refl(X:Nat→Prop)(W:World):GrX X W W:=⟨rfl,rfl,rfl,Nat.le_refl _,fun _ _ _=>rfl⟩
theorem GrX.trans{X:Nat→Prop}{A B C:World}(h:GrX X A B)(k:GrX X B C):GrX X A C:=
  ⟨k.os.trans h.os,k.tape.trans h.tape,k.output.trans h.output,Nat.le_trans h.size k.size,fun i hi hx=>(k.block i (Nat.lt_of_lt_of_le hi h.size) hx).trans (h.block i hi hx)⟩
theorem GrX.of_gr{X:Nat→Prop}{A B:World}(h:Gr A B):GrX X A B:=⟨Below.os h,Below.tape h,Below.output h,Below.size h,fun k hk _=>Below.block h k hk⟩
theorem GrX.gr{A B:World}(h:GrX (fun _=>False) A B):Gr A B:=⟨h.os,h.tape,h.output,h.size,fun k hk=>h.block k hk (fun h=>h)⟩
theorem GrX.mono{X Y:Nat→Prop}{A B:World}(h:GrX X A B)(hx:∀k,k<A.heap.size→X k→Y k):GrX Y A B:=⟨h.os,h.tape,h.output,h.size,fun k hk hy=>h.block k hk (fun e=>hy (hx k hk e))⟩
theorem GrX.setCell{X:Nat→Prop}(W:World)(p:Addr)(u:Value)(hp:X p.block):GrX X W (W.setCell p u):=
  ⟨rfl,rfl,rfl,by simp,fun k _ hx=>Below.heap_setCell W p u k (fun e=>hx (e▸hp))⟩
theorem GrX.putObj{X:Nat→Prop}(W:World)(l:Nat)(o:Obj)(hl:X l):GrX X W (W.putObj l o):=
  ⟨rfl,rfl,rfl,by simp,fun k _ hx=>World.putObj_heap_other (fun e=>hx (e▸hl))⟩
theorem GrX.cell{X:Nat→Prop}{A B:World}(h:GrX X A B){p:Addr}(hp:p.block<A.heap.size)(hx:¬X p.block):B.cell? p=A.cell? p:=World.cell?_of_block (h.block _ hp hx)
theorem GrX.frozen{X:Nat→Prop}{A B:World}(h:GrX X A B){p:Addr}(hp:p.block<A.heap.size)(hx:¬X p.block):B.frozen? p=A.frozen? p:=World.frozen?_of_block (h.block _ hp hx)

def AbX{β:Type}(X:Nat→Prop)(J:β→World→Prop):Prop:=∀s W W',J s W→GrX X W W'→J s W'

def SeqX{α:Type}(P:Program)(g:Nat)(lb:Array Value)(encs:α→Array Value)(X:Nat→Prop)(Kp:World→World→Prop)(S Sp:List α→Prop)(w:World):Prop:=
  ∀ (l n:Nat) (J Jx:List α→World→Prop) (W:World),Gr w W→AbX X J→AbX X Jx→
    (∀pre x W1,J pre W1→YieldAt Fence.wide (n-1) P l (encs x) W1 fun e W'=>
      (e= .returned (.bool true)∧J (pre++ [x]) W'∧Kp W1 W')∨(e= .returned (.bool false)∧Jx (pre++ [x]) W'))→
    J [] W→
    CallsIn Fence.wide n P g (#[.func (.yield l) #[] #[]]++lb) W fun e W'=>(∃v,e= .returned v)∧((∃xs,S xs∧J xs W')∨(∃pre,Sp pre∧Jx pre W'))

def TurnX(X:Nat→Prop)(B:Nat)(W:World)(k:Nat):Prop:=X k∨(B≤k∧∃o:Obj,W.heap[k]?=some o∧o.isCells=false)
def OwnX{β:Type}(X:Nat→Prop)(B:Nat)(I:β→World→Prop):Prop:=∀s W W',I s W→GrX (TurnX X B W) W W'→I s W'

def ownPostX{α:Type}(B:Nat)(Kp:World→World→Prop)(I:List α→World→Prop)(Ix:Code→List α→World→Prop)(xs:List α)(W:World):Exit→Act→World→Prop
  |.normal,_,W'=>KeepsFrom B W W'∧Kp W W'∧I xs W'
  |.ret,_,W'=>KeepsFrom B W W'∧Ix .ret xs W'
  |.exit id,_,W'=>KeepsFrom B W W'∧Ix (.exit id) xs W'
  |.goto t,_,W'=>KeepsFrom B W W'∧Ix (.goto t) xs W'
  |.panic _,_,_=>False
  |.outgrown,_,_=>False

variable {P:Program} {n:Nat}

theorem wpIn_rangeFunc_X{α:Type}{g:Operand}{ps:Array Tmp}{assign body:Code}{Q:Exit→Act→World→Prop}{a:Act}{w:World}
    {gf:Nat}{lb:Array Value}(hg:a.eval g= .func (.func gf) #[] lb)(eg:∀args w,(callFunc gf args).run P w= .ok (.enter gf args) w)
    {encs:α→Array Value}{X:Nat→Prop}{Kp:World→World→Prop}{S Sp:List α→Prop}{w0:World}(hseq:SeqX P gf lb encs X Kp S Sp w0)(h1:1≤n)
    (hX:∀k,X k→k<w.heap.size)
    (hKt:∀ {A B C:World},Kp A B→Kp B C→Kp A C)(hKb:∀ (W:World) (l:Nat) (o o':Obj),w.heap.size≤l→W.heap[l]?=some o→o.isCells=false→Kp W (W.putObj l o'))(hb0:Gr w0 w)(hps:∀x,(encs x).size=ps.size)
    (I:List α→World→Prop)(Ix:Code→List α→World→Prop)(hI:OwnX X w.heap.size I)(hIx:∀c,OwnX X w.heap.size (Ix c))(h0:I [] w)(Ax:α→Act→World→Prop)
    (hassign:∀ (l:Nat) (pre:List α) (x:α) (W:World) (K:Act→World→Prop),I pre W→(∀a' W',KeepsFrom w.heap.size W W'→Kp W W'→I pre W'→Ax x a' W'→K a' W')→
      assign.wpIn (Fence.wide.inRound l) (n-1-1) P (Exit.then K (fun _ _ _=>False)) {tmps:=(ps.zip (encs x)).foldl (fun t (p,v)=>t.setIfInBounds p v) a.tmps,defers:=[]} W)
    (hAx:∀x a',OwnX X w.heap.size (fun (_:Unit) W=>Ax x a' W))
    (hbody:∀ (l:Nat) (pre:List α) (x:α) (a':Act) (W:World),I pre W→Ax x a' W→w.heap.size≤l→(∃r,W.heap[l]?=some (.loop r))→body.wpIn (Fence.wide.inRound l) (n-1-1) P (ownPostX w.heap.size Kp I Ix (pre++ [x]) W) a' W)
    (hdone:∀ (D:Nat) (xs:List α) (W:World),w.heap.size≤D→S xs→I xs W→W.heap[D]?=some (.deferred (some []))→Q .normal {a with defers:={target:=.collected D,args:= #[]} :: a.defers} W)
    (hstop:∀ (D:Nat) (c:Code) (pre:List α) (W:World),w.heap.size≤D→Sp pre→Ix c pre W→W.heap[D]?=some (.deferred (some []))→c.wpIn Fence.wide n P Q {a with defers:={target:=.collected D,args:= #[]} :: a.defers} W):
    (Code.rangeFunc g ps assign body).wpIn Fence.wide n P Q a w:=by
  have hIput:∀ {W:World} {s:List α} {l:Nat} {o:Obj} (o':Obj),I s W→w.heap.size≤l→W.heap[l]?=some o→o.isCells=false→I s (W.putObj l o'):=
    fun o' hi hl ho hc=>hI _ _ _ hi (GrX.putObj _ _ o' (.inr ⟨hl,_,ho,hc⟩))
  have hIxput:∀ {c:Code} {W:World} {s:List α} {l:Nat} {o:Obj} (o':Obj),Ix c s W→w.heap.size≤l→W.heap[l]?=some o→o.isCells=false→Ix c s (W.putObj l o'):=
    fun o' hi hl ho hc=>hIx _ _ _ _ hi (GrX.putObj _ _ o' (.inr ⟨hl,_,ho,hc⟩))
  have hAput:∀ {x:α} {a':Act} {W:World} {l:Nat} {o:Obj} (o':Obj),Ax x a' W→w.heap.size≤l→W.heap[l]?=some o→o.isCells=false→Ax x a' (W.putObj l o'):=
    fun o' hi hl ho hc=>hAx _ _ () _ _ hi (GrX.putObj _ _ o' (.inr ⟨hl,_,ho,hc⟩))
  refine wpIn_rangeFunc ?_;intro fn hfn;rw [show Fence.wide.round=none from rfl]
  obtain ⟨rec,hrec⟩:∃rec:LoopState→Option Code→Loop,rec=fun st pe=>{state:=st,pending:=pe,fn,tmps:=a.tmps,params:=ps,assign,body,defers:=w.heap.size}:=⟨_,rfl⟩;obtain ⟨W1,hW1⟩:∃W1,(w.alloc (.deferred (some []))).alloc (.loop (rec .ready none))=W1:=⟨_,rfl⟩;have hg1:Gr w W1:=by rw [←hW1];exact (Gr.alloc _ _).trans (Gr.alloc _ _)
  have hL1:W1.heap[w.heap.size+1]?=some (.loop (rec .ready none)):=by
    rw [←hW1];have:=World.alloc_heap_new (w.alloc (.deferred (some []))) (.loop (rec .ready none));rwa [World.size_alloc] at this
  have hK1:W1.heap[w.heap.size]?=some (.deferred (some [])):=by
    rw [←hW1];exact (Below.heap_alloc _ _ _ (by simp)).trans (World.alloc_heap_new w _)
  have hI1:I [] W1:=hI _ _ _ h0 (GrX.of_gr hg1)
  refine ⟨w.heap.size+1,[{target:=.collected w.heap.size,args:= #[]}],W1,{target:=.fn (.func gf) lb,args:= #[.func (.yield (w.heap.size+1)) #[] #[]]},W1,gf,
    #[.func (.yield (w.heap.size+1)) #[] #[]]++lb,W1,?_,?_,?_,?_,fun _=>h1,?_⟩
  · rw [←hW1,hrec];exact run_enterLoop_outer _ _ _ _ _
  · simp only [resolve,hg];simp [go_sem]
  · intro f' hf';simp [Target.leads] at hf';subst hf';exact trivial
  · simp [invoke,go_sem,eg]
  · have habs:∀ {A B:World} {k:Nat} {o:Obj},GrX X A B→w.heap.size≤k→A.heap[k]?=some o→B.heap[k]?=some o:=fun hg hk ho=>
      (hg.block _ (Array.getElem?_eq_some_iff.1 ho).1 (fun hx=>by have:=hX _ hx;omega)).trans ho
    refine (hseq (w.heap.size+1) (n-1)
      (fun pre W=>I pre W∧W.heap[w.heap.size+1]?=some (.loop (rec .ready none))∧W.heap[w.heap.size]?=some (.deferred (some [])))
      (fun pre W=>∃c,Ix c pre W∧W.heap[w.heap.size+1]?=some (.loop (rec .done (some c)))∧W.heap[w.heap.size]?=some (.deferred (some [])))
      W1 (hb0.trans hg1)
      (fun s A B hs hg'=>⟨hI s A B hs.1 (hg'.mono fun _ _ h=>.inl h),habs hg' (by omega) hs.2.1,habs hg' (by omega) hs.2.2⟩)
      (fun s A B hs hg'=>by
        obtain ⟨c,hc,hl,hk⟩:=hs
        exact ⟨c,hIx c s A B hc (hg'.mono fun _ _ h=>.inl h),habs hg' (by omega) hl,habs hg' (by omega) hk⟩)
      ?_ ⟨hI1,hL1,hK1⟩).mono ?_
    · rintro pre x W ⟨hi,hl,hk⟩;have hlt:w.heap.size+1<W.heap.size:=(Array.getElem?_eq_some_iff.1 hl).1;have hy:=run_yield (P:=P) (args:=encs x) hl (by rw [hrec];exact hps x)
      rw [hrec] at hy;refine ⟨fn,_,assign,body,hy,roundIn_of_wpIn hfn (hassign _ pre x W _ hi ?_)⟩;intro a' Wa hka hkpa hia hax;have hla:=hka.same _ _ (by omega) hl rfl
      have hkb:=hka.same _ _ (by omega) hk rfl
      have hlta:w.heap.size+1<Wa.heap.size:=(Array.getElem?_eq_some_iff.1 hla).1;refine ⟨_,run_beginRound hla (by rw [hrec]),?_⟩
      have hl2:(Wa.putObj (w.heap.size+1) (.loop {rec .ready none with state:=.busy})).heap[w.heap.size+1]?=some (.loop {rec .ready none with state:=.busy}):=World.putObj_heap_same hlta
      have hk2:(Wa.putObj (w.heap.size+1) (.loop {rec .ready none with state:=.busy})).heap[w.heap.size]?=some (.deferred (some [])):=(World.putObj_heap_other (by omega)).trans hkb
      have hw2:Kp Wa (Wa.putObj (w.heap.size+1) (.loop {rec .ready none with state:=.busy})):=hKb _ _ _ _ (by omega) hla rfl
      refine wpIn_mono (hbody (w.heap.size+1) pre x a' _ (hIput _ hia (by omega) hla rfl) (hAput _ hax (by omega) hla rfl) (by omega) ⟨_,hl2⟩) ?_
      have fin:∀ (jump:Option Code) (W3:World),KeepsFrom w.heap.size (Wa.putObj (w.heap.size+1) (.loop {rec .ready none with state:=.busy})) W3→
          (Instr.endRound (w.heap.size+1) jump).run P W3= .ok (.bool jump.isNone) (W3.putObj (w.heap.size+1) (.loop (rec (if jump.isNone then .ready else .done) jump)))∧
          W3.heap[w.heap.size+1]?=some (.loop {rec .ready none with state:=.busy})∧
          (W3.putObj (w.heap.size+1) (.loop (rec (if jump.isNone then .ready else .done) jump))).heap[w.heap.size+1]?=some (.loop (rec (if jump.isNone then .ready else .done) jump))∧
          (W3.putObj (w.heap.size+1) (.loop (rec (if jump.isNone then .ready else .done) jump))).heap[w.heap.size]?=some (.deferred (some [])):=fun jump W3 hk3=>by
        have hl3:=hk3.same _ _ (by omega) hl2 rfl
        have:=run_endRound (P:=P) jump hl3;rw [hrec] at this⊢;exact ⟨this,by rw [hrec] at hl3;exact hl3,World.putObj_heap_same (Array.getElem?_eq_some_iff.1 hl3).1,(World.putObj_heap_other (by omega)).trans (hk3.same _ _ (Nat.le_refl _) hk2 rfl)⟩
      rintro e a3 W3 hp;cases e with
      |normal=>
        obtain ⟨hk3,hkp3,hi3⟩:=hp;obtain ⟨hr,hl3,hl4,hk4⟩:=fin none W3 hk3;exact ⟨_,_,hr,.inl ⟨rfl,⟨hIput _ hi3 (by omega) hl3 rfl,hl4,hk4⟩,hKt hkpa (hKt (hKt hw2 hkp3) (hKb _ _ _ _ (by omega) hl3 rfl))⟩⟩
      |ret=>
        obtain ⟨hk3,hi3⟩:=hp;obtain ⟨hr,hl3,hl4,hk4⟩:=fin (some .ret) W3 hk3;exact ⟨_,_,hr,.inr ⟨rfl,.ret,hIxput _ hi3 (by omega) hl3 rfl,hl4,hk4⟩⟩
      |exit id=>
        obtain ⟨hk3,hi3⟩:=hp;obtain ⟨hr,hl3,hl4,hk4⟩:=fin (some (.exit id)) W3 hk3;exact ⟨_,_,hr,.inr ⟨rfl,.exit id,hIxput _ hi3 (by omega) hl3 rfl,hl4,hk4⟩⟩
      |goto t=>
        obtain ⟨hk3,hi3⟩:=hp;obtain ⟨hr,hl3,hl4,hk4⟩:=fin (some (.goto t)) W3 hk3;exact ⟨_,_,hr,.inr ⟨rfl,.goto t,hIxput _ hi3 (by omega) hl3 rfl,hl4,hk4⟩⟩
      |panic ch=>exact hp.elim
      |outgrown=>exact hp.elim
    · rintro e W2 ⟨⟨v,rfl⟩,(⟨xs,hS,hi,hl,hk⟩ | ⟨pre,hSp,c,hi,hl,hk⟩)⟩
      · exact ⟨none,_,by have:=run_endLoop (P:=P) hl (by rw [hrec];simp);rw [hrec] at this;exact this,hdone _ xs _ (Nat.le_refl _) hS (hIput _ hi (by omega) hl rfl) ((World.putObj_heap_other (by omega)).trans hk)⟩
      · exact ⟨some c,_,by have:=run_endLoop (P:=P) hl (by rw [hrec];simp);rw [hrec] at this;exact this,hstop _ c pre _ (Nat.le_refl _) hSp (hIxput _ hi (by omega) hl rfl) ((World.putObj_heap_other (by omega)).trans hk)⟩
end Go

namespace Go.Proofs.YtmapiojgmbgbgaaGreatDoor
open Go Go.RowKit
set_option maxHeartbeats 1000000 in
set_option maxRecDepth 100000 in
theorem indexByte_c(s:ByteArray)(c:Int)(w:World):
    Calls Tryz.prog 284 #[.string s,.int .u8 c] w fun e w'=>e= .returned (.int .i64 (Lib.indexByte s.data.toList c.toNat.toUInt8))∧w'=w:=by
  go_enter Tryz.func284,Tryz.ntmps284
  go_wp2
  rw [run_callFunc_extern Tryz.func301 (by kernel_rfl) (by kernel_rfl) (by kernel_rfl) (e:=Extern.BytealgIndexByte.indexByte) (by kernel_rfl),Lib.run_indexByteString]
  simp only [Result.andThen];rw [Oper.upon_value]
  go_wp2
  go_ret
  exact ⟨rfl,rfl⟩

set_option maxHeartbeats 1000000 in
set_option maxRecDepth 100000 in
theorem liteIndex_c(s:ByteArray)(w:World):
    Calls Tryz.prog 267 #[.string s,.string ⟨#[46]⟩] w fun e w'=>e= .returned (.int .i64 (Lib.indexByte s.data.toList 46))∧w'=w:=by
  by_cases he:s=⟨#[46]⟩
  · subst he
    go_enter Tryz.func267,Tryz.ntmps267
    go_wp2
    go_ret
    exact ⟨ret_int (by decide),rfl⟩
  · have hne:([46]==s.toList)=false:=by
      rw [beq_eq_false_iff_ne];exact fun h=>he (ba_toList_inj (h.symm.trans (by rw [ByteArray.toList_eq])))
    go_enter Tryz.func267,Tryz.ntmps267
    go_wp2_with (go_at_call 284;refine (indexByte_c _ _ _).mono ?_;rintro e w' ⟨rfl,rfl⟩)
    go_ret
    exact ⟨ret_int rfl,rfl⟩

theorem index_c(s:ByteArray)(w:World):
    Calls Tryz.prog 242 #[.string s,.string ⟨#[46]⟩] w fun e w'=>e= .returned (.int .i64 (Lib.indexByte s.data.toList 46))∧w'=w:=by
  go_enter Tryz.func242,Tryz.ntmps242
  go_wp2_with (go_at_call 267;refine (liteIndex_c _ _).mono ?_;rintro e w' ⟨rfl,rfl⟩)
  go_ret
  exact ⟨rfl,rfl⟩

theorem splitSeq_c(s:ByteArray)(w:World):
    Calls Tryz.prog 218 #[.string s,.string ⟨#[46]⟩,.int .i64 0] w fun e w'=>
      e= .returned (.func (.func 240) #[] #[.pointer (some ⟨w.heap.size+1,0,none⟩),.pointer (some ⟨w.heap.size,0,none⟩),.pointer (some ⟨w.heap.size+1+1,0,none⟩)])∧
      w'=(((w.alloc (.cells #[.string s] 9)).alloc (.cells #[.string ⟨#[46]⟩] 9)).alloc (.cells #[.int .i64 0] 3)):=by
  go_enter Tryz.func218,Tryz.ntmps218
  go_wp2
  go_ret
  exact ⟨rfl,rfl⟩

theorem splitSeqPub_c(s:ByteArray)(w:World):
    Calls Tryz.prog 172 #[.string s,.string ⟨#[46]⟩] w fun e w'=>
      e= .returned (.func (.func 240) #[] #[.pointer (some ⟨w.heap.size+1,0,none⟩),.pointer (some ⟨w.heap.size,0,none⟩),.pointer (some ⟨w.heap.size+1+1,0,none⟩)])∧
      w'=(((w.alloc (.cells #[.string s] 9)).alloc (.cells #[.string ⟨#[46]⟩] 9)).alloc (.cells #[.int .i64 0] 3)):=by
  go_enter Tryz.func172,Tryz.ntmps172
  go_wp2_with (go_at_call 218;refine (splitSeq_c _ _).mono ?_;rintro e w' ⟨rfl,rfl⟩)
  go_ret
  exact ⟨rfl,rfl⟩
def splitGo:List UInt8→List UInt8→List (List UInt8)
  |cur,[]=>[cur.reverse]
  |cur,c :: cs=>if c==46 then cur.reverse :: splitGo [] cs else splitGo (c :: cur) cs
def splitDot(l:List UInt8):List (List UInt8):=splitGo [] l

theorem splitGo_none:∀ (l cur:List UInt8),Lib.indexByte l 46= -1→splitGo cur l= [cur.reverse++l]
  | [],cur,_=>by simp [splitGo]
  |c :: l,cur,h=>by
    unfold Lib.indexByte at h;by_cases hc:(c==46)=true
    · rw [if_pos hc] at h;omega
    · have hg:=Lib.indexByte_ge l 46;rw [if_neg hc] at h;have h':Lib.indexByte l 46= -1:=by
        by_cases h2:(Lib.indexByte l 46== -1)=true
        · simpa using h2
        · rw [if_neg h2] at h;simp at h2;omega
      unfold splitGo;rw [if_neg hc,splitGo_none l (c :: cur) h'];simp

theorem splitGo_some:∀ (l cur:List UInt8) (i:Nat),Lib.indexByte l 46=(i:Int)→i<l.length∧splitGo cur l=(cur.reverse++l.take i) :: splitGo [] (l.drop (i+1))
  | [],cur,i,h=>by unfold Lib.indexByte at h;omega
  |c :: l,cur,i,h=>by
    unfold Lib.indexByte at h;by_cases hc:(c==46)=true
    · rw [if_pos hc] at h;obtain rfl:i=0:=by omega
      refine ⟨by simp,?_⟩
      conv=>lhs;unfold splitGo
      rw [if_pos hc];simp
    · rw [if_neg hc] at h;by_cases h2:(Lib.indexByte l 46== -1)=true
      · rw [if_pos h2] at h;omega
      · rw [if_neg h2] at h;have hg:=Lib.indexByte_ge l 46;simp at h2;obtain ⟨j,rfl⟩:∃j,i=j+1:=⟨i-1,by omega⟩
        obtain ⟨h3,h4⟩:=splitGo_some l (c :: cur) j (by omega)
        refine ⟨by simp;omega,?_⟩
        conv=>lhs;unfold splitGo
        rw [if_neg hc,h4];simp

def splitB(s:ByteArray):List ByteArray:=(splitDot s.data.toList).map fun l=>⟨l.toArray⟩

theorem splitB_none(s:ByteArray)(h:Lib.indexByte s.data.toList 46= -1):splitB s= [s]:=by
  unfold splitB splitDot;rw [splitGo_none _ _ h];simp
theorem splitB_some(s:ByteArray)(i:Nat)(h:Lib.indexByte s.data.toList 46=(i:Int)):i<s.size∧splitB s=s.extract 0 i :: splitB (s.extract (i+1) s.size):=by
  obtain ⟨h1,h2⟩:=splitGo_some s.data.toList [] i h;refine ⟨by simpa using h1,?_⟩
  unfold splitB splitDot;rw [h2,Lib.extract_data,Lib.extract_eq];have:List.take (s.size- (i+1)) (List.drop (i+1) s.data.toList)=List.drop (i+1) s.data.toList:=by
    rw [List.take_of_length_le];simp
  rw [this];simp

def Kp3(b1 b2 b3:Nat)(W W':World):Prop:=W'.heap[b1]?=W.heap[b1]?∧W'.heap[b2]?=W.heap[b2]?∧W'.heap[b3]?=W.heap[b3]?

def Box(W:World)(b:Nat)(t:TypeId)(v:Value):Prop:=W.heap[b]?=some (.cells #[v] t (0,0))
theorem Box.cell{W:World}{b:Nat}{t:TypeId}{v:Value}(h:Box W b t v):W.cell? ⟨b,0,none⟩=some v:=by unfold Box at h;simp [World.cell?,h]
theorem Box.frozen{W:World}{b:Nat}{t:TypeId}{v:Value}(h:Box W b t v):W.frozen? ⟨b,0,none⟩=false:=by unfold Box at h;simp [World.frozen?,h]
theorem Box.lt{W:World}{b:Nat}{t:TypeId}{v:Value}(h:Box W b t v):b<W.heap.size:=(Array.getElem?_eq_some_iff.1 h).1
theorem Box.set{W:World}{b:Nat}{t:TypeId}{v:Value}(h:Box W b t v)(u:Value):Box (W.setCell ⟨b,0,none⟩ u) b t u:=by
  unfold Box at*;simp [World.setCell,Array.getElem?_modify,h]
theorem Box.far{W:World}{b c:Nat}{t:TypeId}{v:Value}(h:Box W b t v)(hne:b≠c)(u:Value):Box (W.setCell ⟨c,0,none⟩ u) b t v:=(Below.heap_setCell W ⟨c,0,none⟩ u b hne).trans h
theorem Box.gr{W W':World}{b:Nat}{t:TypeId}{v:Value}(h:Box W b t v)(g:Gr W W'):Box W' b t v:=(g.block h.lt).trans h
theorem Box.new(W:World)(t:TypeId)(v:Value):Box (W.alloc (.cells #[v] t)) W.heap.size t v:=World.alloc_heap_new W _
theorem Box.alloc{W:World}{b:Nat}{t:TypeId}{v:Value}(h:Box W b t v)(o:Obj):Box (W.alloc o) b t v:=h.gr (Gr.alloc W o)

def strLeft(W:World)(b:Nat):Nat:=match W.cell? ⟨b,0,none⟩ with|some (.string t)=>t.size|_=>0
theorem strLeft_of{W:World}{b:Nat}{t:TypeId}{s:ByteArray}(h:Box W b t (.string s)):strLeft W b=s.size:=by unfold strLeft;rw [h.cell]

attribute [local go_sem] Oper.semAt_some

abbrev Sm:={x:ByteArray // x.size≤140737488355328}

set_option maxHeartbeats 1000000 in
set_option maxRecDepth 100000 in
theorem split_seq(s:ByteArray)(bs bp bv:Nat)(w:World)(hs:s.size≤140737488355328)(h1:Box w bs 9 (.string s))(h2:Box w bp 9 (.string ⟨#[46]⟩))(h3:Box w bv 3 (.int .i64 0))(n12:bp≠bs)(n13:bv≠bs):
    SeqX Tryz.prog 240 #[.pointer (some ⟨bp,0,none⟩),.pointer (some ⟨bs,0,none⟩),.pointer (some ⟨bv,0,none⟩)] (fun x:Sm=> #[.string x.1]) (fun k=>k=bs) (Kp3 bs bp bv)
      (fun xs=>xs.map (·.1)=splitB s) (fun pre=>pre.map (·.1) <+:splitB s) w:=by
  intro l n J Jx W hW hJ hJx hY hJ0;have b1:=h1.gr hW;have b2:=h2.gr hW;have b3:=h3.gr hW;have c2:=b2.cell;refine callsIn_of_wp Tryz.func240 rfl trivial ?_ rfl;simp only [Tryz.ntmps240,List.size_toArray,List.length_cons,List.length_nil,Nat.reduceAdd,Nat.reduceSub,Array.replicate_succ,Array.replicate_zero,List.push_toArray,List.append_toArray,List.nil_append,List.cons_append]
  gi_wp2
  clear c2;have hlen:∀t:ByteArray,t.size≤s.size→t.size≤9223372036854775807:=fun t h=>by omega
  have HL:=Lib.hid hlen;clear hlen
  gi_loopw [7] (fun _ wr=>∃ (pre:List Sm) (t:ByteArray),splitB s=pre.map (·.1)++splitB t∧t.size≤s.size∧Box wr bs 9 (.string t)∧Box wr bp 9 (.string ⟨#[46]⟩)∧Box wr bv 3 (.int .i64 0)∧J pre wr)
    (fun _ wr=>strLeft wr bs)
  case atStart=>exact ⟨[],s,rfl,Nat.le_refl _,b1,b2,b3,hJ0⟩
  case round=>
    obtain ⟨pre,t,hsp,hts,x1,x2,x3,hJs⟩:=hrel;have HS:=Lib.hid hsp;clear hsp;have c1:=x1.cell;have c2:=x2.cell;have c3:=x3.cell;have f1:=x1.frozen;have HX1:=Lib.hid x1;have HX2:=Lib.hid x2;have HX3:=Lib.hid x3;clear x1 x2 x3 b1 b2 b3;have ht:=HL.out t hts;have hge:=Lib.indexByte_ge t.data.toList 46;rcases Int.lt_or_le (Lib.indexByte t.data.toList 46) 0 with hi|hi
    · -- no point is left
      obtain ⟨fn,tmps,assign,body,hy,hR⟩:=hY pre ⟨t,by omega⟩ wr hJs
      gi_wp2_with fail
      refine ⟨trivial,(fun h=>by cases h),?_⟩
      refine (callsIn_wide.2 (index_c _ _)).mono ?_;rintro e w' ⟨rfl,rfl⟩
      gi_wp2
      refine ⟨(fun h=>by cases h),?_⟩
      refine hR.mono ?_;rintro e W3 (⟨rfl,hJ3,hk3⟩ | ⟨rfl,hJx3⟩)
      · gi_wp2
        go_end0
        have e:=HS.out;rw [splitB_none t (by omega)] at e
        exact ⟨⟨_,rfl⟩,.inl ⟨pre++ [⟨t,by omega⟩],by rw [e];simp,hJ3⟩⟩
      · gi_wp2
        go_end0
        have e:=HS.out;rw [splitB_none t (by omega)] at e
        exact ⟨⟨_,rfl⟩,.inr ⟨pre++ [⟨t,by omega⟩],⟨[],by rw [List.append_nil,e];simp⟩,hJx3⟩⟩
    · obtain ⟨i,hi'⟩:∃i:Nat,Lib.indexByte t.data.toList 46=(i:Int):=⟨_,(Int.toNat_of_nonneg hi).symm⟩;obtain ⟨hil,hsp2⟩:=splitB_some t i hi';have HS2:=Lib.hid hsp2;have HI:=Lib.hid hi';clear hsp2;obtain ⟨fn,tmps,assign,body,hy,hR⟩:=hY pre ⟨t.extract 0 i,by simp;omega⟩ wr hJs
      dsimp only at hy;clear hge hi
      gi_wp2_with fail
      refine ⟨trivial,(fun h=>by cases h),?_⟩
      refine (callsIn_wide.2 (index_c _ _)).mono ?_;rintro e w' ⟨rfl,rfl⟩
      gi_wp2
      refine ⟨(fun h=>by cases h),?_⟩
      refine hR.mono ?_;rintro e W3 (⟨rfl,hJ3,hk3⟩ | ⟨rfl,hJx3⟩)
      · have y1:Box W3 bs 9 (.string t):=hk3.1.trans HX1.out;have y2:Box W3 bp 9 (.string ⟨#[46]⟩):=hk3.2.1.trans HX2.out;have y3:Box W3 bv 3 (.int .i64 0):=hk3.2.2.trans HX3.out;have d1:=y1.cell;have d2:=y2.cell;have d3:=y3.cell;have g1:=y1.frozen;have HY1:=Lib.hid y1;have HY2:=Lib.hid y2;have HY3:=Lib.hid y3;clear y1 y2 y3 c1 c2 c3 f1
        gi_wp2
        go_roundw
        case rel=>
          refine ⟨pre++ [⟨t.extract 0 i,by simp;omega⟩],t.extract (i+1) t.size,?_,?_,HY1.out.set _,HY2.out.far n12 _,HY3.out.far n13 _,hJ _ _ _ hJ3 (GrX.setCell _ _ _ rfl)⟩
          · rw [HS.out,HS2.out];simp
          · simp;omega
        case measure=>
          rw [strLeft_of (HY1.out.set _),strLeft_of HX1.out];simp;omega
      · gi_wp2
        refine bodyPost_ret (results_none rfl _ _ _) rfl ?_;exact ⟨⟨_,rfl⟩,.inr ⟨pre++ [⟨t.extract 0 i,by simp;omega⟩],⟨splitB (t.extract (i+1) t.size),by rw [HS.out,HS2.out];simp⟩,hJx3⟩⟩
end Go.Proofs.YtmapiojgmbgbgaaGreatDoor
