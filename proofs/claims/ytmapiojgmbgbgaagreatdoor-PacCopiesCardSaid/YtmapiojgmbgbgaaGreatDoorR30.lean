/- A part of the proof: a symbolic executor over abstract values, and its soundness. -/
import Derived.Test.YtmapiojgmbgbgaaGreatDoorR29
set_option linter.all false
namespace Go.Sx
open Go

variable {P:Program} {AQ:Ex→List SV→List SObj→Prop} {k0:Nat} {k:List It} {t:List SV} {H:List SObj}
variable {c:C2P} {E:EnD} {tm:List SV} {β:Nat→Bool} {vs:List Value} {q:Nat→Prop} {b4 b5:Nat} {C C':Cx} {a:Act}

theorem j1b{L:Array Bool}{i:Nat}(h:i<L.size):(fun j=>(L.setIfInBounds i true).getD j false)=upd (fun j=>L.getD j false) i:=by
 funext j;unfold upd;by_cases e:j=i
 · subst e;simp [h]
 rw [if_neg e];exact getD_set_ne false (Ne.symm e)

def C2Inv(c:C2P)(E:EnD)(tm:List SV)(H:List SObj)(L:Array Bool)(a:Act)(w:World):Prop:=
 ∃ (C:Cx) (vs:List Value) (q:Nat→Prop) (b4 b5:Nat),C.w=w∧L.size=8∧R2 c E tm H (fun j=>L.getD j false) vs q b4 b5 C a

theorem q4U{I:Nat→Prop}{w:World}(t:Ty)(x:t.den)(vs:List Value)(h:t.rel I w x vs):∀v∈vs,v.oneCell'=true:=q4m t x vs h

theorem j2u{all:Array Oper}{n:Nat}{ro:Option Nat}{Q:Exit→Act→World→Prop}{h:Nat}{T':TypeId}(h2:IsC2 P all c)(hflat:(datList.all fun e=>e.2.1.flat)=true)(hkn:c.ty.known=true)(hok:c.ty.ok c.x)(hp:tm[c.p]?=some (.ptr h 0))(hH:H[h]?=some (.cells T' (c.ty.cells c.x)))
 (hany:∀d∈ [c.d0,c.d1,c.d2,c.d3,c.d4,c.d5],tm[d]?=some .any)
 (hfresh:∀ (q:Nat→Prop) (w0:World) (vs:List Value),c.ty.rel q w0 c.x vs→PCZ q w0 P c.f [.agg (rawL vs)] (.agg (c.ty.cells c.x)))(hpc:PC P c.f [.agg (c.ty.cells c.x)] (.agg (c.ty.cells c.x)))
 (L:Array Bool)(a:Act)(w:World)(i:Nat)(hi:C2Inv c E tm H L a w)(hr:i∈Region.ready .any all L):wpOpIn (Fw ro) n P all Q i (C2Inv c E tm H (L.setIfInBounds i true)) a w:=by
 obtain ⟨C,vs,q,b4,b5,rfl,hL,R⟩:=hi;obtain ⟨hun,oi,hoi,hall⟩:=mem_ready.1 hr;have hi8:i<8:=by rw [←h2.size];exact (Az.1 hoi).1
 have hbi:L.getD i false=false:=by
  have:i<L.size:=by omega
  simpa [this] using hun
 have hneed:∀j,needs oi j→L.getD j false=true:=fun j ⟨e,he,hb,hj⟩=>hj▸hall e he hb;have hopn:∀ (o:Oper),all[i]?=some o→o.guard=none→o.wpIn (Fw ro) n P a C.w (C2Inv c E tm H (L.setIfInBounds i true)) Q→wpOpIn (Fw ro) n P all Q i (C2Inv c E tm H (L.setIfInBounds i true)) a C.w:=fun o ho hg hw=>by
  unfold wpOpIn;simp only [ho];rw [if_pos (by unfold Region.wanted;rw [hg])]
  exact hw
 have hfin:∀ (a':Act) (C':Cx) (vs':List Value) (q':Nat→Prop) (b4' b5':Nat),R2 c E tm H (upd (fun j=>L.getD j false) i) vs' q' b4' b5' C' a'→C2Inv c E tm H (L.setIfInBounds i true) a' C'.w:=fun a' C' vs' q' b4' b5' R'=>
  ⟨C',vs',q',b4',b5',rfl,by simpa using hL,by rw [j1b (by omega)];exact R'⟩
 have hsz:(P.info? c.T).map (·.size)=some c.m:=q5o h2.ag
 have hnd:=h2.nd
 match i,hi8 with
 |0,_=>
  obtain ⟨o,ho,hop,hdst,hg⟩:=h2.o0;refine hopn o ho hg ?_;obtain ⟨ws,hrun,hws⟩:=j3L (P:=P) hop h2.ag h2.tsz R.den hp hH;refine q6F (by rw [hop];intro c hc;cases hc) (.inl hrun) ?_
  rw [hdst];have R1:=R.put (v:=.agg ws.toArray) (i:=0) hnd hbi rfl (hany _ (by simp))
  refine hfin _ C vs q b4 b5 ⟨R1.den,fun _=>⟨ws,q5x R.den (hany _ (by simp)),hws⟩,R1.f1,R1.f2,R1.f3,R1.f4,R1.f5,R1.i6,R1.i7⟩
 |2,_=>
  obtain ⟨o,ho,hop,hdst,hg⟩:=h2.o2;refine hopn o ho hg ?_;obtain ⟨ws,hrun,hws⟩:=j3L (P:=P) hop h2.ag h2.tsz R.den hp hH;refine q6F (by rw [hop];intro c hc;cases hc) (.inl hrun) ?_
  rw [hdst];have R1:=R.put (v:=.agg ws.toArray) (i:=2) hnd hbi rfl (hany _ (by simp))
  refine hfin _ C vs q b4 b5 ⟨R1.den,R1.f0,R1.f1,fun _=>⟨ws,q5x R.den (hany _ (by simp)),hws⟩,R1.f3,R1.f4,R1.f5,R1.i6,R1.i7⟩
 |1,_=>
  obtain ⟨o,cl,ho,hop,hc,ha,hdst,hg,hn0⟩:=h2.o1;refine hopn o ho hg ?_;rw [ho] at hoi;cases hoi;obtain ⟨ws,hv,hws⟩:=R.f0 (hneed 0 hn0);refine z5t hop hc ha h2.en hv (z2m hflat R.den.defs.2.1.tab hkn R.den.wd hok (c.ty.cells_rel _ _ hkn hok hws) hfresh) ?_;rintro e w' ⟨q',vs',rfl,hrel,hq,g1,g2⟩;refine ⟨_,rfl,?_⟩;rw [hdst];have R1:=(R.ext g1 g2).put (v:=.agg vs'.toArray) (i:=1) hnd hbi rfl (hany _ (by simp))
  have hb6:L.getD 6 false=false:=by
   cases h6:L.getD 6 false with
   |false=>rfl
   |true=>have:=(R.i6 h6).2;rw [hbi] at this;cases this
  refine hfin _ {C with w:=w'} vs' q' b4 b5 ⟨R1.den,R1.f0,fun _=>⟨q5x (R.ext g1 g2).den (hany _ (by simp)),hrel,fun b hb=> ?_⟩,R1.f2,R1.f3,fun h4=> ?_,fun h5=> ?_,fun h6=> ?_,R1.i7⟩
  · obtain ⟨q1,q2,q3⟩:=hq b hb;exact ⟨An R.den.ext.size q1,q2,fun hI=>absurd (R.den.wd.imm b hI) (AE.2 q1),fun hO=>absurd (R.den.wd.own b hO).2 (AE.2 q1),q3⟩
  · obtain ⟨k1,k2,_,k4⟩:=R1.f4 h4;have hlt:=(R.f4 h4).2.1.2.1;refine ⟨k1,k2,fun _ hq4=>absurd (hq _ hq4).1 (Nat.not_le.2 hlt),?_⟩;have e6:upd (fun j=>L.getD j false) 1 6=false:=hb6;rw [e6];simp only [hb6] at k4;exact k4
  · obtain ⟨k1,k2,_,k4,k5⟩:=R1.f5 h5;have hlt:=(R.f5 h5).2.1.2.1;exact ⟨k1,k2,fun _ hq4=>absurd (hq _ hq4).1 (Nat.not_le.2 hlt),k4,k5⟩
  have h6':L.getD 6 false=true:=h6;rw [hb6] at h6';cases h6'
 |3,_=>
  obtain ⟨o,cl,ho,hop,hc,ha,hdst,hg,hn0⟩:=h2.o3;refine hopn o ho hg ?_;rw [ho] at hoi;cases hoi;obtain ⟨ws,hv,hws⟩:=R.f2 (hneed 2 hn0);refine z5t hop hc ha h2.en hv (hpc.2 H (fun o H'=>o= .ret (.agg (c.ty.cells c.x))∧H'=H) ⟨rfl,rfl⟩ C [.agg ws.toArray] R.den.wd R.den.defs.2.1.tab (q0c.2 ⟨_,[],rfl,by rw [SV.den];exact ⟨_,rfl,hws⟩,q0o.2 rfl⟩)) ?_
  rintro e w' ⟨o',H',C',⟨rfl,rfl⟩,rfl,g1,g2,v,rfl,hd⟩;rw [SV.den] at hd;obtain ⟨us,rfl,hus⟩:=hd;refine ⟨_,rfl,?_⟩;rw [hdst];have R1:=(R.ext g1 g2).put (v:=.agg us.toArray) (i:=3) hnd hbi rfl (hany _ (by simp))
  exact hfin _ C' vs q b4 b5 ⟨R1.den,R1.f0,R1.f1,R1.f2,fun _=>⟨us,q5x (R.ext g1 g2).den (hany _ (by simp)),hus⟩,R1.f4,R1.f5,R1.i6,fun h7=>by
   have h7':L.getD 7 false=true:=h7
   exact ⟨(R1.i7 h7').1,rfl⟩⟩
 |4,_=>
  obtain ⟨o,ho,hop,hdst,hg⟩:=h2.o4;refine hopn o ho hg ?_;refine q6F (by rw [hop];intro c hc;cases hc) (.inl (z3A hop h2.zero C.w)) ?_
  rw [hdst];obtain ⟨g1,g2,g3,g4⟩:=z0E (T:=c.T) (zs:=c.zs) R.den;have R1:=(R.ext g1 g2).put (v:=.pointer (some ⟨C.w.heap.size,0,none⟩)) (i:=4) hnd hbi rfl (hany _ (by simp))
  have hb6:L.getD 6 false=false:=by
   cases h6:L.getD 6 false with
   |false=>rfl
   |true=>have:=(R.i6 h6).1;rw [hbi] at this;cases this
  refine hfin _ {C with w:=C.w.alloc (.cells c.zs.toArray c.T)} vs q C.w.heap.size b5 ⟨R1.den,R1.f0,R1.f1,R1.f2,R1.f3,fun _=>⟨q5x (R.ext g1 g2).den (hany _ (by simp)),g3,fun h1 hq4=> ?_,?_⟩,fun h5=> ?_,fun h6=> ?_,R1.i7⟩
  · have:=((R.f1 h1).2.2 _ hq4).2.1;omega
  · have e6:upd (fun j=>L.getD j false) 4 6=false:=hb6;rw [e6];exact g4
  · obtain ⟨k1,k2,k3,_,k5⟩:=R1.f5 h5;have hlt:=(R.f5 h5).2.1.2.1;exact ⟨k1,k2,k3,fun _ e=>by omega,k5⟩
  have h6':L.getD 6 false=true:=h6;rw [hb6] at h6';cases h6'
 |5,_=>
  obtain ⟨o,ho,hop,hdst,hg⟩:=h2.o5;refine hopn o ho hg ?_;refine q6F (by rw [hop];intro c hc;cases hc) (.inl (z3A hop h2.zero C.w)) ?_
  rw [hdst];obtain ⟨g1,g2,g3,g4⟩:=z0E (T:=c.T) (zs:=c.zs) R.den;have R1:=(R.ext g1 g2).put (v:=.pointer (some ⟨C.w.heap.size,0,none⟩)) (i:=5) hnd hbi rfl (hany _ (by simp))
  have hb7:L.getD 7 false=false:=by
   cases h7:L.getD 7 false with
   |false=>rfl
   |true=>have:=(R.i7 h7).1;rw [hbi] at this;cases this
  refine hfin _ {C with w:=C.w.alloc (.cells c.zs.toArray c.T)} vs q b4 C.w.heap.size ⟨R1.den,R1.f0,R1.f1,R1.f2,R1.f3,R1.f4,fun _=>⟨q5x (R.ext g1 g2).den (hany _ (by simp)),g3,fun h1 hq4=> ?_,fun h4 e=> ?_,c.zs,g4,h2.zlen,fun h7=> ?_⟩,R1.i6,fun h7=> ?_⟩
  · have:=((R.f1 h1).2.2 _ hq4).2.1;omega
  · have:=(R.f4 h4).2.1.2.1;omega
  · have h7':L.getD 7 false=true:=h7;rw [hb7] at h7';cases h7'
  have h7':L.getD 7 false=true:=h7;rw [hb7] at h7';cases h7'
 |6,_=>
  obtain ⟨o,ho,hop,hdst,hg,hn4,hn1⟩:=h2.o6;refine hopn o ho hg ?_;rw [ho] at hoi;cases hoi;obtain ⟨k1,k2,k3,k4⟩:=R.f4 (hneed 4 hn4);obtain ⟨l1,l2,l3⟩:=R.f1 (hneed 1 hn1);simp only [hbi,A7,if_false] at k4;have hvl:vs.length=c.m:=by rw [c.ty.rel_size _ _ l2,h2.tsz]
  have hrun:=z3P (P:=P) hop hsz k1 l1 k4 h2.zlen hvl (q4U _ _ _ l2);refine q6F (by rw [hop];intro c hc;cases hc) (.inr ⟨hrun,rfl⟩) ?_
  rw [hdst];obtain ⟨m1,m2,m3,m4,m5,m6⟩:=z0I R.den k2 k4 (hvl.trans h2.zlen.symm);have hq4:∀b,q b→b≠b4:=fun b hb e=>k3 (hneed 1 hn1) (e▸hb);refine hfin _ {C with w:=C.w.setCells b4 0 vs} vs q b4 b5 ⟨m3,fun h=> ?_,fun h=> ?_,fun h=> ?_,fun h=> ?_,fun h=>⟨k1,m5,k3,m1⟩,fun h5=> ?_,fun _=>⟨hneed 4 hn4,hneed 1 hn1⟩,R.i7⟩
  · obtain ⟨ws,h1,h2⟩:=R.f0 h;exact ⟨ws,h1,q0d m4 h2⟩
  · exact ⟨l1,Ty.rel_keep (fun b hb=>⟨hb,m2 b (hq4 b hb)⟩) _ _ _ l2,fun b hb=>m6 b (hq4 b hb) (l3 b hb)⟩
  · obtain ⟨ws,h1,h2⟩:=R.f2 h;exact ⟨ws,h1,q0d m4 h2⟩
  · obtain ⟨ws,h1,h2⟩:=R.f3 h;exact ⟨ws,h1,q0d m4 h2⟩
  obtain ⟨n1,n2,n3,n4,us,n5,n6,n7⟩:=R.f5 h5;have hne:=n4 (hneed 4 hn4);exact ⟨n1,m6 b5 hne n2,n3,n4,us,(m2 b5 hne).trans n5,n6,fun h7=>q0d m4 (n7 h7)⟩
 |7,_=>
  obtain ⟨o,ho,hop,hdst,hg,hn5,hn3⟩:=h2.o7;refine hopn o ho hg ?_;rw [ho] at hoi;cases hoi;obtain ⟨n1,n2,n3,n4,us,n5,n6,n7⟩:=R.f5 (hneed 5 hn5);obtain ⟨ws,l1,l2⟩:=R.f3 (hneed 3 hn3);have hwl:ws.length=c.m:=by rw [q0t l2,Ty.cells_length,h2.tsz]
  have hrun:=z3P (P:=P) hop hsz n1 l1 n5 n6 hwl (q4U _ _ _ (c.ty.cells_rel _ _ hkn hok l2));refine q6F (by rw [hop];intro c hc;cases hc) (.inr ⟨hrun,rfl⟩) ?_
  rw [hdst];obtain ⟨m1,m2,m3,m4,m5,m6⟩:=z0I R.den n2 n5 (hwl.trans n6.symm);refine hfin _ {C with w:=C.w.setCells b5 0 ws} vs q b4 b5 ⟨m3,fun h=> ?_,fun h=> ?_,fun h=> ?_,fun h=> ?_,fun h4=> ?_,fun _=>⟨n1,m5,n3,n4,ws,m1,hwl,fun _=>q0d m4 l2⟩,R.i6,fun _=>⟨hneed 5 hn5,hneed 3 hn3⟩⟩
  · obtain ⟨ws,h1,h2⟩:=R.f0 h;exact ⟨ws,h1,q0d m4 h2⟩
  · obtain ⟨p1,p2,p3⟩:=R.f1 h;have hq5:∀b,q b→b≠b5:=fun b hb e=>n3 h (e▸hb);exact ⟨p1,Ty.rel_keep (fun b hb=>⟨hb,m2 b (hq5 b hb)⟩) _ _ _ p2,fun b hb=>m6 b (hq5 b hb) (p3 b hb)⟩
  · obtain ⟨ws,h1,h2⟩:=R.f2 h;exact ⟨ws,h1,q0d m4 h2⟩
  · obtain ⟨ws,h1,h2⟩:=R.f3 h;exact ⟨ws,h1,q0d m4 h2⟩
  obtain ⟨p1,p2,p3,p4⟩:=R.f4 h4;have hne:=(n4 h4).symm;exact ⟨p1,m6 b4 hne p2,p3,(m2 b4 hne).trans p4⟩
end Go.Sx
namespace Go.Sx
open Go

variable {P:Program} {AQ:Ex→List SV→List SObj→Prop} {k0:Nat} {k:List It} {t:List SV} {H:List SObj}
variable {c:C2P}

theorem q7n:∀ (ws:List Nat) (t:List SV) (i:Nat),i ∉ ws→(maskT ws t)[i]?=t[i]?
 | [],_,_,_=>rfl
 |d :: ws,t,i,h=>by
  show (maskT ws (t.set d .any))[i]?=_;rw [q7n ws _ i (fun h1=>h (AS _ h1))];exact Ao (fun e=>h (by rw [e];exact BK))
theorem z0P:∀ (ws:List Nat) (t:List SV) (i:Nat),i∈ws→i<t.length→(maskT ws t)[i]?=some .any
 |d :: ws,t,i,h,hl=>by
  show (maskT ws (t.set d .any))[i]?=_;by_cases h1:i∈ws
  · exact z0P ws _ i h1 (by simpa using hl)
  rw [q7n ws _ i h1];rcases Bs.1 h with rfl|h2
  · rw [As hl]
  exact absurd h2 h1
theorem z8F(ws:List Nat)(t:List SV):leL t (maskT ws t):=z2x (q6K ws t).symm fun i s s' hs hs'=>by
 rcases q9d ws t i s' hs' with rfl| ⟨_,h2⟩
 · exact .inl rfl
 rw [hs] at h2;cases h2;exact .inr rfl

theorem j4f{all:Array Oper}(h2:IsC2 P all c){L:Array Bool}(hL:L.size=8)(hr:Region.ready .any all L= []):∀i,i<8→L.getD i false=true:=by
 intro i;induction i using Nat.strongRecOn with
 |_ i ih=>
  intro hi;cases hb:L.getD i false with
  |true=>rfl
  |false=>
   have hlt:i<all.size:=by rw [h2.size];exact hi
   have:i∈Region.ready .any all L:=mem_ready.2 ⟨by
    have h1:i<L.size:=by omega
    simpa [h1] using hb,all[i],Be hlt,fun e he _=>by
    have:=h2.top i _ (Be hlt) e he
    exact ih e.on this (by omega)⟩
   rw [hr] at this;cases this

theorem z9m{all:Array Oper}{id h:Nat}{T':TypeId}(hm:P.follows .mixedOrders=true)(h2:IsC2 P all c)(hflat:(datList.all fun e=>e.2.1.flat)=true)(hkn:c.ty.known=true)(hok:c.ty.ok c.x)(hp:t[c.p]?=some (.ptr h 0))(hH:H[h]?=some (.cells T' (c.ty.cells c.x)))
 (hlen:∀d∈ [c.d0,c.d1,c.d2,c.d3,c.d4,c.d5],d<t.length)(hns:noStop k=true)
 (hfresh:∀ (q:Nat→Prop) (w0:World) (vs:List Value),c.ty.rel q w0 c.x vs→PCZ q w0 P c.f [.agg (rawL vs)] (.agg (c.ty.cells c.x)))(hpc:PC P c.f [.agg (c.ty.cells c.x)] (.agg (c.ty.cells c.x)))
 (hk:∀ (q:Nat→Prop) (w1:World) (N:Nat) (vs:List Value),c.ty.rel q w1 c.x vs→(∀b,q b→N≤b∧Unf w1 b)→
  @Sound (frzN q w1 N) P AQ ⟨k0,k,((maskT [c.d0,c.d1,c.d2,c.d3,c.d4,c.d5] t).set c.d4 (.ptr H.length 0)).set c.d5 (.ptr (H.length+1) 0),H++ [.cells c.T (rawL vs),.cells c.T (c.ty.cells c.x)]⟩):
 @Sound noGhost P AQ ⟨k0,.code (.region id all true) :: k,t,H⟩:=by
 intro E r n C a h0 hd;simp only [wpT];have hds:[c.d0,c.d1,c.d2,c.d3,c.d4,c.d5].Nodup:=(Bk.1 h2.nd).2;have hpn:c.p ∉ [c.d0,c.d1,c.d2,c.d3,c.d4,c.d5]:=(Bk.1 h2.nd).1
 let tm:=maskT [c.d0,c.d1,c.d2,c.d3,c.d4,c.d5] t
 have hany:∀d∈ [c.d0,c.d1,c.d2,c.d3,c.d4,c.d5],tm[d]?=some .any:=fun d hd=>z0P _ _ _ hd (hlen d hd);have hp':tm[c.p]?=some (.ptr h 0):=(q7n _ _ _ hpn).trans hp;have hd': @Den noGhost E C.drew tm H a:=⟨q2K hd.wd,hd.ext.trans (q1G C H),⟨hd.defs.1,⟨hd.defs.2.1.tab.next (q1G C H),hd.defs.2.1.old⟩,trivial⟩,q2I (z8F _ _) (q0d (q1Y C) hd.tmps)⟩
 have hno:∀j,(Array.replicate all.size false).getD j false=true→False:=fun j hj=>by
  rcases AB j all.size with q|q
  · simp [q] at hj
  simp [q] at hj
 have h00:C2Inv c E tm H (Array.replicate all.size false) a C.drew.w:=⟨C.drew,[],fun _=>False,0,0,rfl,by simp [h2.size],hd',fun h=>(hno _ h).elim,fun h=>(hno _ h).elim,fun h=>(hno _ h).elim,fun h=>(hno _ h).elim,fun h=>(hno _ h).elim,fun h=>(hno _ h).elim,fun h=>(hno _ h).elim,fun h=>(hno _ h).elim⟩
 refine wpIn_region_any hm (z1a (C2Inv c E tm H) ?_ (fun L a w i hi hr=>j2u h2 hflat hkn hok hp' hH hany hfresh hpc L a w i hi hr) _ _ _ _ h00 ?_)
 · rintro L a w ⟨C,vs,q,b4,b5,rfl,hL,R⟩ hr;have hall:=j4f h2 hL hr;obtain ⟨p1,p2,p3⟩:=R.f1 (hall 1 (by omega))
   obtain ⟨k1,k2,k3,k4⟩:=R.f4 (hall 4 (by omega))
   obtain ⟨n1,n2,n3,n4,us,n5,n6,n7⟩:=R.f5 (hall 5 (by omega))
   have k3:=k3 (hall 1 (by omega))
   have n3:=n3 (hall 1 (by omega))
   have n4:=n4 (hall 4 (by omega))
   have n7:=n7 (hall 7 (by omega))
   have e6:=hall 6 (by omega)
   simp only [e6,if_true] at k4
   let C1:Cx:={C with ρ:=(fun h=>if h=C.n then some b4 else C.ρ h),n:=C.n+1}
   obtain ⟨g1,g2,g3⟩:=q7K R.den.wd (some b4) (.cells c.T (rawL vs)) (fun b hb=>by cases hb;exact ⟨k2.2.2.1,k2.2.1,k2.2.2.2.1⟩) C1 rfl ⟨b4,vs,by simp [C1],k4,q0Y vs⟩
   have n41:¬OwnB C1 (H++ [.cells c.T (rawL vs)]) b5:=fun ho=>(g3 b5 ho).elim n2.2.2.2.1 fun e=>n4 (Option.some.inj e).symm
   let C2:Cx:={C1 with ρ:=(fun h=>if h=C1.n then some b5 else C1.ρ h),n:=C1.n+1}
   obtain ⟨m1,m2,m3⟩:=q7K g1 (some b5) (.cells c.T (c.ty.cells c.x)) (fun b hb=>by cases hb;exact ⟨n2.2.2.1,n2.2.1,n41⟩) C2 rfl ⟨b5,us,by simp [C2],n5,q0d (C:=C) (C':=C2) ⟨by show C.n≤C.n+1+1;omega,fun h hh=>by
    have hh:h<C.n:=hh;show (if h=C.n+1 then _ else if h=C.n then _ else _)=_
    rw [if_neg (by omega),if_neg (by omega)],Keeps.refl _ _,fun _ _ h=>h⟩ n7⟩
   have hevo:=g2.trans m2;have hown:∀b,OwnB C2 (H++ [.cells c.T (rawL vs)]++ [.cells c.T (c.ty.cells c.x)]) b→OwnB C H b∨b=b4∨b=b5:=fun b hb=>(m3 b hb).elim (fun h=>orMap (g3 b h) (fun h=>h) fun e=>.inl (Option.some.inj e).symm) fun e=>.inr (.inr (Option.some.inj e).symm);have hn:=R.den.wd.n;have hext:Ext E C2 (H++ [.cells c.T (rawL vs)]++ [.cells c.T (c.ty.cells c.x)]):=
    ⟨R.den.ext.evo.trans hevo,R.den.ext.size,R.den.ext.os,R.den.ext.tape,R.den.ext.output,R.den.ext.frame,R.den.ext.immNew,fun b hb=>(hown b hb).elim (R.den.ext.ownNew b) fun e=>e.elim (fun e=>.inl (e▸k2.1)) fun e=>.inl (e▸n2.1),fun m h0 hm=>q2k (q2k (R.den.ext.keep0 m h0 hm))⟩
   have hlt4:=hany c.d4 (by simp)
   have hlt5:=hany c.d5 (by simp)
   have setSame:∀ (l:List Value) (i:Nat) (v:Value),l[i]?=some v→l.set i v=l:=fun l i v hv=>by
    apply Bd;intro j;by_cases e:i=j
    · subst e;rw [As (Aa.1 hv).1,hv]
    rw [Ao e]
   have ht1:=q0d hevo R.den.tmps
   have ht2:=q1W (i:=c.d4) (s:=.ptr H.length 0) (v:=.pointer (some ⟨b4,0,none⟩)) ht1 (by
    rw [SV.den];refine ⟨by show H.length<C.n+1+1;omega,b4,?_,rfl⟩
    show (if H.length=C.n+1 then _ else if H.length=C.n then _ else _)=_
    rw [if_neg (by omega),if_pos hn.symm])
   rw [setSame _ _ _ (by simpa using k1)] at ht2
   have ht3:=q1W (i:=c.d5) (s:=.ptr (H.length+1) 0) (v:=.pointer (some ⟨b5,0,none⟩)) ht2 (by
    rw [SV.den];refine ⟨by show H.length+1<C.n+1+1;omega,b5,?_,rfl⟩
    show (if H.length+1=C.n+1 then _ else _)=_
    rw [if_pos (by omega)])
   rw [setSame _ _ _ (by simpa using n1)] at ht3
   have hz:ZInv q C.w C2 (H++ [.cells c.T (rawL vs)]++ [.cells c.T (c.ty.cells c.x)]):=fun b hb=>by
    obtain ⟨f0,f1,f2,f3,f4⟩:=p3 b hb;exact ⟨f1,f2,fun ho=>(hown b ho).elim f3 fun e=>e.elim (fun e=>k3 (e▸hb)) fun e=>n3 (e▸hb),rfl⟩
   have hden: @Den (frzN q C.w E.C.w.heap.size) E C2 ((tm.set c.d4 (.ptr H.length 0)).set c.d5 (.ptr (H.length+1) 0)) (H++ [.cells c.T (rawL vs),.cells c.T (c.ty.cells c.x)]) a:=by
    have e:H++ [SObj.cells c.T (rawL vs),.cells c.T (c.ty.cells c.x)]=H++ [.cells c.T (rawL vs)]++ [.cells c.T (c.ty.cells c.x)]:=by simp
    rw [e];exact ⟨m1,hext,⟨R.den.defs.1,⟨R.den.defs.2.1.tab.keep (Keeps.refl _ _) (fun b hb g1 g2=>⟨g1,fun ho=>(hown b ho).elim g2 fun e=>e.elim (fun e=>absurd (R.den.defs.2.1.old b hb) (AE.2 (e▸k2.1))) fun e=>absurd (R.den.defs.2.1.old b hb) (AE.2 (e▸n2.1)),rfl⟩),R.den.defs.2.1.old⟩,⟨Af _,R.den.defs.2.1.old⟩,hz⟩,ht3⟩
   have hs:=hk q C.w E.C.w.heap.size vs p2 (fun b hb=>⟨(p3 b hb).1,(p3 b hb).2.2.2.2⟩) E r n C2 a h0 hden;exact (q2t (fun e a w hh=>q8a (G:=noGhost) (G':=frzN q C.w E.C.w.heap.size) (fun _ _ _ _ h=>⟨h.1,h.2.1,trivial⟩) e a w hh) k hns).1 a C.w hs
 unfold unl;simpa using List.countP_le_length (p:=fun b=> !b) (l:=(Array.replicate all.size false).toList)
end Go.Sx
namespace Go.Sx
open Go

variable {P:Program} {AQ:Ex→List SV→List SObj→Prop} {k0:Nat} {k:List It} {t:List SV} {H:List SObj}

def ckOp(all:Array Oper)(i:Nat)(d:Option Nat)(p:Op→Bool):Bool:=match all[i]? with
 |some o=>p o.op&& decide (o.dst=d) && o.guard.isNone
 |none=>false
theorem q3s{all:Array Oper}{i:Nat}{d:Option Nat}{p:Op→Bool}(h:ckOp all i d p=true):∃o,all[i]?=some o∧p o.op=true∧o.dst=d∧o.guard=none:=by
 unfold ckOp at h;split at h
 · rename_i o ho;simp only [Ai,decide_eq_true_eq,Option.isNone_iff_eq_none] at h;exact ⟨o,ho,h.1.1,h.1.2,h.2⟩
 cases h
def ckNeed(all:Array Oper)(i j:Nat):Bool:=match all[i]? with
 |some o=>o.after.toList.any fun e=>Region.binds .any e&& decide (e.on=j)
 |none=>false
theorem q2Q{all:Array Oper}{i j:Nat}{o:Oper}(ho:all[i]?=some o)(h:ckNeed all i j=true):needs o j:=by
 unfold ckNeed at h;rw [ho] at h;simp only [List.any_eq_true,Ai,decide_eq_true_eq] at h;obtain ⟨e,he,h1,h2⟩:=h;exact ⟨e,by simpa using he,h1,h2⟩
def isLoad(T p:Nat):Op→Bool
 |.load T' (.tmp p')=>decide (T'=T) && decide (p'=p)
 |_=>false
theorem z1d{T p:Nat}{o:Op}(h:isLoad T p o=true):o= .load T (.tmp p):=by
 unfold isLoad at h;split at h
 · simp only [Ai,decide_eq_true_eq] at h;rw [h.1,h.2]
 cases h
def isAlloc(T:Nat):Op→Bool
 |.alloc T'=>decide (T'=T)
 |_=>false
theorem q8l{T:Nat}{o:Op}(h:isAlloc T o=true):o= .alloc T:=by
 unfold isAlloc at h;split at h
 · simp only [decide_eq_true_eq] at h;rw [h]
 cases h
def isStore(T p v:Nat):Op→Bool
 |.store T' (.tmp p') (.tmp v')=>decide (T'=T) && decide (p'=p) && decide (v'=v)
 |_=>false
theorem q8c{T p v:Nat}{o:Op}(h:isStore T p v o=true):o= .store T (.tmp p) (.tmp v):=by
 unfold isStore at h;split at h
 · simp only [Ai,decide_eq_true_eq] at h;rw [h.1.1,h.1.2,h.2]
 cases h
def isCall1(f d:Nat):Op→Bool
 |.call cl=>match cl.callee,cl.args.toList with
  |.value (.func f'),[.tmp d']=>decide (f'=f) && decide (d'=d)
  |_,_=>false
 |_=>false
theorem q8B{f d:Nat}{o:Op}(h:isCall1 f d o=true):∃cl,o= .call cl∧cl.callee= .value (.func f)∧cl.args= #[.tmp d]:=by
 unfold isCall1 at h;split at h
 · rename_i cl;split at h
   · rename_i f' d' h1 h2;simp only [Ai,decide_eq_true_eq] at h;refine ⟨cl,rfl,by rw [h1,h.1],?_⟩
     rw [h.2] at h2;exact Bh.1 h2
   cases h
 cases h
def isC2B(P:Program)(all:Array Oper)(c:C2P):Bool:=
 decide (all.size=8) && ((List.range all.size).all fun i=>match all[i]? with
  |some o=>o.after.toList.all fun e=>decide (e.on<i)
  |none=>true) &&
 (ckOp all 0 (some c.d0) (isLoad c.T c.p) && ckOp all 1 (some c.d1) (isCall1 c.f c.d0) && ckOp all 2 (some c.d2) (isLoad c.T c.p) && ckOp all 3 (some c.d3) (isCall1 c.f c.d2) && ckOp all 4 (some c.d4) (isAlloc c.T) && ckOp all 5 (some c.d5) (isAlloc c.T) && ckOp all 6 none (isStore c.T c.d4 c.d1) && ckOp all 7 none (isStore c.T c.d5 c.d3)) &&
 (ckNeed all 1 0&& ckNeed all 3 2&& ckNeed all 6 4&& ckNeed all 6 1&& ckNeed all 7 5&& ckNeed all 7 3) && enters P c.f&& decide ([c.p,c.d0,c.d1,c.d2,c.d3,c.d4,c.d5].Nodup)
theorem j1d{all:Array Oper}{c:C2P}(h:isC2B P all c=true)(ag:aggOf P c.T=some (some c.m))(zero:(P.info? c.T).bind (fun i=>i.zero.map (·.cells.toList))=some c.zs)(zlen:c.zs.length=c.m)(tsz:c.ty.size=c.m):IsC2 P all c:=by
 unfold isC2B at h;simp only [Ai,decide_eq_true_eq] at h;obtain ⟨⟨⟨⟨⟨hs,ht⟩,⟨⟨⟨⟨⟨⟨⟨k0,k1⟩,k2⟩,k3⟩,k4⟩,k5⟩,k6⟩,k7⟩⟩,⟨⟨⟨⟨⟨n1,n3⟩,n64⟩,n61⟩,n75⟩,n73⟩⟩,he⟩,hn⟩:=h;obtain ⟨o0,a0,b0,c0,g0⟩:=q3s k0;obtain ⟨o1,a1,b1,c1,g1⟩:=q3s k1;obtain ⟨o2,a2,b2,c2,g2⟩:=q3s k2;obtain ⟨o3,a3,b3,c3,g3⟩:=q3s k3;obtain ⟨o4,a4,b4,c4,g4⟩:=q3s k4;obtain ⟨o5,a5,b5,c5,g5⟩:=q3s k5;obtain ⟨o6,a6,b6,c6,g6⟩:=q3s k6;obtain ⟨o7,a7,b7,c7,g7⟩:=q3s k7;obtain ⟨cl1,e1,e2,e3⟩:=q8B b1;obtain ⟨cl3,e4,e5,e6⟩:=q8B b3
 refine ⟨hs,fun i o ho e he=> ?_,⟨o0,a0,z1d b0,c0,g0⟩,⟨o1,cl1,a1,e1,e2,e3,c1,g1,q2Q a1 n1⟩,⟨o2,a2,z1d b2,c2,g2⟩,⟨o3,cl3,a3,e4,e5,e6,c3,g3,q2Q a3 n3⟩,⟨o4,a4,q8l b4,c4,g4⟩,⟨o5,a5,q8l b5,c5,g5⟩,
  ⟨o6,a6,q8c b6,c6,g6,q2Q a6 n64,q2Q a6 n61⟩,⟨o7,a7,q8c b7,c7,g7,q2Q a7 n75,q2Q a7 n73⟩,ag,zero,zlen,tsz,he,hn⟩
 rw [A3] at ht;have h1:=ht i (B7.2 (Az.1 ho).1);rw [ho] at h1;simp only [A3,decide_eq_true_eq] at h1;exact h1 e (by simpa using he)
end Go.Sx
namespace Go.Sx
open Go

variable {P:Program} {AQ:Ex→List SV→List SObj→Prop} {k0:Nat} {td:List IT} {t:List SV} {H:List SObj}

theorem z8z{q:Nat→Prop}{w1:World}{N:Nat}{E:EnD}{C:Cx}{a:Act}(hd: @Den (frzN q w1 N) E C t H a)(hq:∀b,q b→N≤b∧Unf w1 b):
 SInv q C.w E.toEn C H∧∀ (ty:Ty) (x:ty.den) (vs:List Value),ty.rel q w1 x vs→ty.rel q C.w x vs:=by
 have hz:ZInv q w1 C H:=hd.defs.2.2.2;have hN:E.C.w.heap.size≤N:=hd.defs.2.2.1.1;refine ⟨fun b hb=> ?_,fun ty x vs h=>Ty.rel_keep (fun b hb=>⟨hb,(hz b hb).2.2.2⟩) _ _ _ h⟩;obtain ⟨g1,g2,g3,g4⟩:=hz b hb;exact ⟨⟨.inl (An hN (hq b hb).1),fun h=>absurd (hd.defs.2.2.1.2 b h) (AE.2 (hq b hb).1)⟩,g1,g2,g3,(hq b hb).2.keep g4,.inl rfl⟩
theorem j3q{q:Nat→Prop}{w1:World}{N:Nat}(hq:∀b,q b→N≤b∧Unf w1 b)(hp:plainT td=true)(hns:noStopI td=true)
 (hk:∀ (w':World),(∀ (ty:Ty) (x:ty.den) (vs:List Value),ty.rel q w1 x vs→ty.rel q w' x vs)→ @SoundI (scrG q w') P AQ ⟨k0,td,t,H⟩): @SoundI (frzN q w1 N) P AQ ⟨k0,td,t,H⟩:= @q0e (frzN q w1 N) P AQ k0 t H _ (fun td' hr'=>by
 intro E rr n C a h0 hd;obtain ⟨s1,s2⟩:=z8z hd hq;have hd2: @Den (scrG q C.w) E C t H a:=⟨hd.wd,hd.ext,⟨hd.defs.1,hd.defs.2.1,s1⟩,hd.tmps⟩;have h5:= @q0f (scrG q C.w) P AQ k0 _ H _ td' (hk C.w s2) hr' E rr n _ _ h0 hd2
 exact (@q2t P (frzN q w1 N) (scrG q C.w) (Fw rr) n E E (@conc (frzN q w1 N) E AQ) (@conc (scrG q C.w) E AQ)
  (fun ex a w hh=> @q8a AQ (frzN q w1 N) (scrG q C.w) E (fun _ _ _ _ h=>⟨h.1,h.2.1,trivial⟩) ex a w hh) td' (q2v hr' hns)).1 _ _ h5) hp
theorem z4Q{q:Nat→Prop}{w0:World}{N:Nat}{f:FuncId}{args args':List SV}{v:Value}{d:Option Tmp}{m:IM}(hp:PC P f args' (.raw v))(hl:LendA q w0 args args')(h: @SoundI (frzN q w0 N) P AQ {m with tmps:=putT m.tmps d (.raw v)}):
 @CallI (frzN q w0 N) P AQ f args d m:=by
 refine ⟨hp.1,fun E C vs hw hg hv=> ?_⟩;refine (hp.2 [] (PK (.raw v)) rfl (C.lend q) vs (z7M hw hg.2.2) (hg.1.tab.nil rfl fun b hb=>.inl hb) (hl C _ vs hg.2.2 hv)).mono ?_;rintro e w' ⟨o,H',C',rfl,rfl,hw',hx,u,rfl,hd⟩;rw [SV.den] at hd;subst hd;obtain ⟨g1,g2⟩:=q9W (q:=q) (w0:=w0) hw hx;exact ⟨.ret (.raw u),m.heap,{C with w:=C'.w},h,rfl,g1, @Stp.of (frzN q w0 N) E C {C with w:=C'.w} m.heap m.heap g2,u,rfl,by rw [SV.den]⟩
end Go.Sx
namespace Go.Sx
open Go
variable {P:Program} {AQ:Ex→List SV→List SObj→Prop} {k0:Nat}

theorem z9Q{q:Nat→Prop}{w0:World}{t t':Ty}{by_ d:Nat}{l:List OpI}{td:List IT}{x y:Operand}{tm:List SV}{H:List SObj}{xs:List t.den}{v:Value}(f:t.den→t'.den)(hsz:t'.size=t.size)
 (hf:∀ (z:t.den) us,t.rel q w0 z us→∀I w,t'.rel I w (f z) us)(hx:evT tm x= .raw (.slice none 0 0))(hy:evT tm y= .raw v)(hv:Sl q w0 t xs v)(hb:xs.length*by_≤140737488355328)
 (hk: @SoundI (frzG q w0) P AQ ⟨k0,.ops l :: td,putT tm (some d) (.bld (H.length+1) t' xs.length),H++ [.dead]++ [.row t' (xs.map f)]⟩): @SoundI (frzG q w0) P AQ ⟨k0,.ops (⟨some d,.app t by_ x y,none⟩ :: l) :: td,tm,H⟩:= @q0e (frzG q w0) P AQ k0 tm H _ (fun td' hr=>by
 obtain ⟨all,idx,r,rfl,ho,hr⟩:=hr;cases idx with
 |nil=>exact ho.elim
 |cons i idx=>
  obtain ⟨⟨o,ho1,ho2⟩,ho⟩:=ho;obtain ⟨hc,hd⟩:=q0L ho2;simp only at hc hd;obtain ⟨c,tS,tX,e,ti,z,bb,hop,hcal,ha,hty,ht,hsx,hi,rfl,h1,h2,h3⟩:=j1K hc;refine @q9G (frzG q w0) P AQ k0 r tm H all i idx o ho1 ((q0s ho2).1 rfl) ?_;intro E C rr n a next Q hw hg hvs hret hpan
  have hz:ZInv q w0 C H:=hg.2;have hvx:=hvs x (by rw [hop];simp [Op.operands,Call.operands,hcal,ha])
  have hvy:=hvs y (by rw [hop];simp [Op.operands,Call.operands,hcal,ha])
  rw [hx,SV.den] at hvx;rw [hy,SV.den] at hvy
  let C1:Cx:={C with ρ:=(fun h=>if h=C.n then none else C.ρ h),n:=C.n+1}
  have hn:=hw.n;obtain ⟨hw1,hev,hown⟩:=q7K hw none (.row t' []) (fun b h=>by cases h) C1 rfl (.inl ⟨if_pos rfl,rfl⟩)
  have hx1:Ext ⟨C,H⟩ C1 (H++ [.row t' []]):=⟨hev,Af _,rfl,rfl,rfl,fun _ _ _=>rfl,fun _ h=>.inl h,fun b hbb=>.inr ((hown b hbb).elim id fun e=>by cases e),fun m h0 hm=>q2k hm⟩
  have hvx':(SV.bld H.length t' 0).den C1 (a.eval x):=by
   rw [hvx,SV.den];exact ⟨by show H.length<C.n+1;omega,.inl ⟨if_pos (by omega),rfl,rfl⟩⟩
  obtain ⟨A,cp,rfl,hA⟩:=hv.out;have hrow:∀ (I:Nat→Prop) (w:World),(∀b,q b→w.heap[b]?=w0.heap[b]?)→(xs.map f= []∨∃b off,A=some ⟨b,off,none⟩∧rowAt I w t' (xs.map f) b off):=fun I w hq=>by
   rcases hA with rfl| ⟨b,off,rfl,hA⟩
   · exact .inl rfl
   refine .inr ⟨b,off,rfl,fun j y hj=> ?_⟩;rw [AR] at hj;cases hxj:xs[j]? with
   |none=>rw [hxj] at hj;cases hj
   |some u=>
    rw [hxj] at hj;cases hj;obtain ⟨hqb,vs,g1,g2⟩:=hA j u hxj;exact ⟨vs,hf u vs g1 I w,fun k u' hu=>by rw [hsz,World.cell?_of_block (a:=⟨b,off+j*t.size+k,none⟩) (hq b hqb)];exact g2 k u' hu⟩
  have hlen:(xs.map f).length=xs.length:=Bc ..;have src:∀C0:Cx,(∀b,q b→C0.w.heap[b]?=w0.heap[b]?)→Src P t' C0 (.slice A xs.length cp) (xs.map f):=fun C0 hq=>by
   obtain ⟨news,g1,g2⟩:=q1t (P:=P) (C:=C0) (A:=A) (c:=cp) (hrow C0.I C0.w hq);rw [hlen] at g2;exact ⟨news,g1,by simp [Builtin.lenOf],by rw [hlen];exact g2⟩
  have hxl:xs.length≤1125899906842624:=(Ty.rel_ok _ _ _ hv).1
  obtain ⟨rv,C',hrun,w1,w2,w3⟩:=q8h (P:=P) (ty:=o.type) (tS:=tS) (tX:=tX) (Hk:=(H++ [SObj.row t' []]).set H.length .dead) (xs:=([]:List t'.den)) (n:=0) hw1 hvx' (by
   unfold dstOf
   simp only [List.getElem?_concat_length,and_self,dite_true,cast_eq]) rfl (src C1 fun b hb=>(hz b hb).2.2.2) (src C1.drew fun b hb=>(hz b hb).2.2.2) ht hsx hi (h1.trans hsz.symm) h2 (h3.trans hsz.symm) (by simpa using hxl) (by simpa using hb)
  have hset:(H++ [SObj.row t' []]).set H.length .dead=H++ [.dead]:=by rw [List.set_append_right _ _ (Af _),CV];rfl
  rw [hset,Au] at w1 w2;simp only [BG,Ac,Bc,BD,Ae,AC] at w3;have hk':= @q0f (frzG q w0) P AQ _ _ _ _ _ hk ⟨all,idx,r,rfl,ho,hr⟩;refine q6F (w':=C'.w) (v:=rv) (by rw [hop];intro c hc;cases hc) (.inl ?_) (hret (.bld (H.length+1) t' xs.length) rv _ C' (by rw [←hd];exact hk') w1 (@Stp.of (frzG q w0) E C C' H _ (hx1.trans w2)) w3)
  change Sem.run P _ C.w=_ at hrun;rw [←hvy] at hrun
  simp [execOp,hop,resolve,hcal,ha,hty,invoke,builtin,hrun,Result.andThen]) rfl
end Go.Sx
/- Authorisation data: copies: sealed; in new memory, of what lies as it lay. -/
namespace Go.Proofs.YtmapiojgmbgbgaaGreatDoor
open Go Go.Sx Go.Proofs
set_option maxRecDepth 100000
set_option maxHeartbeats 40000000

def cpOk(p:Pac):Prop:=p.1.1.length≤1000∧p.2.2.2.1.length≤1000∧p.2.2.2.2.length≤1000∧(∀x∈p.2.2.2.2,PrinT.ok x)∧∀x∈p.2.2.2.2,x.1.length≤1000
theorem z8p(p:Pac)(hs:cpOk p):PC Tryz.prog 35 [.agg (PacT.cells p)] (.agg (PacT.cells p)):=by
 obtain ⟨c,a,u,g,w⟩:=p;obtain ⟨h1,h2,h3,h4,h5⟩:=hs;dsimp only at h1 h2 h3 h4 h5;refine q0q rfl rfl ?_;refine rQ fi35 ?_;refine cQ (z6X c (by omega)) ?_
 refine ⟨⟨by omega,by omega⟩,?_⟩
 rw [Ac];refine q1u 2 rfl rfl (by omega) ?_ ?_ ?_
 · with_reducible refine sxE ?_
   exact Af _
 · with_reducible refine sxE ?_
   exact Af _
 with_reducible refine sxE ?_
 rw [AA];refine q3G 3 PrinT (fun i=>List.take i w) (fun i=>[(17,rI i)]) (List.length w) (fun _=>True) rfl (by simp) (by simp) rfl (fun i=>rfl) ?_ fun i hi _=> ?_
 · with_reducible refine sxE ?_;trivial
 have hwr:=wsx i (by omega)
 refine gQ ?_;refine ⟨fun hlt=>⟨⟨by omega,hlt⟩,q0a (z6X (w.getD i PrinT.dflt) (by have:=h5 _ (q1a (d:=PrinT.dflt) hlt);omega)) ?_⟩,fun hge=> ?_⟩
 · have hst:w.take (i+1)=w.take i++ [w.getD i PrinT.dflt]:=q0W hlt;have hlen:(w.take i).length=i:=by simp;omega
   refine gQ ?_;refine ⟨(h4 _ (q1a hlt)).2,⟨by omega,by omega⟩,q2g [_,_,_] [] hlt trivial (by rw [hst];rfl) ?_⟩
   with_reducible refine sx3 hwr hst ?_;trivial
 obtain rfl:i=List.length w:=by omega
 rw [AA,AA];exact ⟨⟨Af _,by omega⟩,rfl⟩
variable {q:Nat→Prop} {w0:World}
theorem z2q{t:Ty}{xs:List t.den}{vs:List Value}(h:(Ty.slice t).rel q w0 xs vs):∃A c,vs= [.slice A xs.length c]∧Sl q w0 t xs (.slice A xs.length c):=by
 obtain ⟨A,n,c,rfl,h1⟩:=j0q h;obtain ⟨A',c',h2,_⟩:=h1.out;cases h2;exact ⟨A,c,rfl,h1⟩
theorem z7v{p:Pac}{vs:List Value}(hv:PacT.rel q w0 p vs):∃A1 c1 A4 c4 A5 c5,vs= [.slice A1 p.1.1.length c1,.string p.1.2,.int .i64 p.2.1,.int .i64 p.2.2.1,.slice A4 p.2.2.2.1.length c4,.slice A5 p.2.2.2.2.length c5]∧
 PrinT.rel q w0 p.1 [.slice A1 p.1.1.length c1,.string p.1.2]∧Sl q w0 .str p.1.1 (.slice A1 p.1.1.length c1)∧Sl q w0 I64 p.2.2.2.1 (.slice A4 p.2.2.2.1.length c4)∧Sl q w0 PrinT p.2.2.2.2 (.slice A5 p.2.2.2.2.length c5):=by
 obtain ⟨v1,u1,rfl,r1,hv⟩:=q8r hv;obtain ⟨v2,u2,rfl,r2,hv⟩:=q8r hv;obtain ⟨v3,u3,rfl,r3,hv⟩:=q8r hv;obtain ⟨v4,v5,rfl,r4,r5⟩:=q8r hv;obtain ⟨x1,x2,rfl,p1,p2⟩:=q8r r1;obtain ⟨A1,c1,rfl,s1⟩:=z2q p1;obtain rfl:=z7r p2;obtain rfl:=z6q r2;obtain rfl:=z6q r3;obtain ⟨A4,c4,rfl,s4⟩:=z2q r4;obtain ⟨A5,c5,rfl,s5⟩:=z2q r5;exact ⟨A1,c1,A4,c4,A5,c5,rfl,r1,s1,s4,s5⟩
theorem z9M(p:Pac){vs:List Value}(hv:PacT.rel q w0 p vs)(hs:cpOk p):PCZ q w0 Tryz.prog 35 [.agg (rawL vs)] (.agg (PacT.cells p)):=by
 letI:Ghost:=frzG q w0
 obtain ⟨A1,c1,A4,c4,A5,c5,rfl,r1,s1,s4,s5⟩:=z7v hv;obtain ⟨c,a,u,g,w⟩:=p;obtain ⟨h1,h2,h3,h4,h5⟩:=hs;dsimp only at h1 h2 h3 h4 h5 r1 s1 s4 s5⊢;refine z3a rfl rfl ?_;refine runZ mixed fi35 ?_<;>try with_reducible exact True.intro
 refine callZ (z6j c r1 (by omega)) ?_
 refine uQ 7 _ ?_;with_reducible refine sxE ?_
 refine z9Q (t':=I64) id rfl (fun z us h I w=>h) rfl rfl s4 (by omega) ?_
 rw [List.map_id];refine gQ ?_;refine q1u 3 rfl rfl (by omega) ?_ ?_ ?_
 · with_reducible refine sxE ?_
   exact Af _
 · with_reducible refine sxE ?_
   exact Af _
 with_reducible refine sxE ?_
 rw [AA];obtain ⟨B5,d5,e5,hA⟩:=s5.out;cases e5;refine q3G 3 PrinT (fun i=>List.take i w) (fun i=>[(17,rI i)]) (List.length w) (fun _=>True) rfl (by simp) (by simp) rfl (fun i=>rfl) ?_ fun i hi _=> ?_
 · with_reducible refine sxE ?_;trivial
 have hwr:=wsx i (by omega)
 rcases hA with h0| ⟨b,o,rfl,hat⟩
 · have h0':List.length w=0:=by rw [h0];rfl
   obtain rfl:i=0:=by omega
   have hz:((0:Nat) <List.length w)=False:=eq_false (by omega)
   rcases A5 with _| ⟨b,o,_|_⟩
   all_goals
    refine uQ 600 _ ?_;simp (maxSteps:=3000000) [go_sem,bothG,h0'];try omega
 refine gQ ?_;refine ⟨fun hlt=>⟨⟨by omega,hlt⟩,zldF (hat i (w.getD i PrinT.dflt) (by rw [Ad,Ab hlt];rfl)) fun vs hvs=> ?_⟩,fun hge=> ?_⟩
 · obtain ⟨A,n,c',rfl,h1'⟩:=z2R hvs;refine gQ ?_;refine callZ (z6j (w.getD i PrinT.dflt) hvs (by have:=h5 _ (q1a (d:=PrinT.dflt) hlt);omega)) ?_
   have hst:w.take (i+1)=w.take i++ [w.getD i PrinT.dflt]:=q0W hlt;have hlen:(w.take i).length=i:=by simp;omega
   refine gQ ?_;refine ⟨(h4 _ (q1a hlt)).2,⟨by omega,by omega⟩,q2g [_,_,_] [] hlt trivial (by rw [hst];rfl) ?_⟩
   with_reducible refine sx3 hwr hst ?_;trivial
 obtain rfl:i=List.length w:=by omega
 rw [AA,AA];exact ⟨⟨Af _,by omega⟩,rfl⟩
end Go.Proofs.YtmapiojgmbgbgaaGreatDoor

namespace Go.Proofs.YtmapiojgmbgbgaaGreatDoor
open Go Go.Sx Go.Proofs
set_option maxRecDepth 100000
set_option maxHeartbeats 40000000
theorem q4c(e:Int):PC Tryz.prog 17 [rI e] (rI e):=by
 refine q0w rfl rfl ?_;refine rQ fi17 ?_;trivial
theorem j0y(c:UInt8)(n:Nat)(hn:n≤1048576):PC Tryz.prog 25 [.raw (.int .u8 c.toNat),rI n] (.isl .u8 (List.replicate n c)):=by
 refine q0q rfl rfl ?_;refine rQ fi25 ?_;refine q3G 5 .u8 (fun i=>List.replicate i c) (fun i=>[(6,rI i)]) n (fun _=>True) rfl (by simp) (by simp) rfl (fun i=>rfl) ?_ fun i hi _=> ?_
 · with_reducible refine sxE ?_;trivial
 have hwr:=wsx i (by omega)
 have hl:(List.replicate i c).length=i:=BO;refine gy1 hl ?_;refine ⟨fun hlt=> ?_,fun hge=> ?_⟩
 · have hst:List.replicate (i+1) c=List.replicate i c++ [c]:=CG;refine ⟨by rw [CQ],⟨by omega,by omega⟩,q2g [_,_] [] hlt trivial (by rw [hst,CQ];rfl) ?_⟩
   simp (maxSteps:=3000000) only [hwr,hl,BO,go_sem,↓zA,↓reduceIte,↓reduceDIte] <;>try simp only [zB]
 obtain rfl:i=n:=by omega
 refine ⟨⟨Af _,by omega⟩,Ah (by omega)⟩
def strAt(l:List ByteArray)(j:Nat):Bool:=decide ((l.getD j ByteArray.empty).size≤40)
def shortB(p:Prin):Bool:=allN p.1.length (strAt p.1) && (decide ((p.1.length:Int)≤6) && decide ((p.2.size:Int)≤40))
theorem z3z(p:Prin)(ho:PrinT.ok p):PC Tryz.prog 26 [.agg (PrinT.cells p)] (rB (shortB p)):=by
 obtain ⟨l,r⟩:=p;have hl:l.length≤1125899906842624:=ho.1.1;have hd:shortB (l,r)=(allN l.length (strAt l) && (decide ((l.length:Int)≤6) && decide ((r.size:Int)≤40))):=rfl;rw [hd];refine q0w rfl rfl ?_;refine rQ fi26 ?_;refine q0X (fun i=>[(3,.raw (.int .i64 ((i:Nat):Int)))]) (l.length) (fun j=>(strAt l) j=true) (by first|decide|simp) (fun i=>rfl) ?_ fun i hi hall=> ?_
 · (with_reducible refine sxE ?_<;>try exact True.intro)
   all_goals (try rfl)
 have hwr:=wsx i (by omega)
 refine gQ ?_;have bad:i< (l.length)→(strAt l) i=false→allN (l.length) (strAt l)=false:=fun hlt hv=>q0y hlt hv;have fin:¬i< (l.length)→allN (l.length) (strAt l)=true:=fun h=>q0B fun j hj=>hall j (by omega)
 try dsimp only at bad fin hall
 have hsd:strAt l i=decide ((l.getD i ByteArray.empty).size≤40):=rfl;refine ⟨fun hlt=>⟨⟨by omega,hlt⟩,fun h=> ?_,fun h=>⟨hlt,q0Z hall ?_,⟨[],rfl⟩,?_⟩⟩,fun hge=> ?_⟩
 · rw [bad hlt (by rw [hsd];exact decide_eq_false (show ¬(l.getD i ByteArray.empty).size≤40 from fun h2=>by have h:40< (((l.getD i ByteArray.empty).size:Nat):Int):=h;omega)),AW]
 · rw [hsd];exact decide_eq_true (show (l.getD i ByteArray.empty).size≤40 from Nat.le_of_not_lt fun h2=>h (show (40:Int) < (((l.getD i ByteArray.empty).size:Nat):Int) by omega))
 · with_reducible refine sx1 hwr ?_;trivial
 rw [fin hge,AJ];exact ⟨fun h=>by rw [decide_eq_true h,AJ],fun h=>by rw [decide_eq_false h,AW]⟩
def viaAt(l:List Prin)(j:Nat):Bool:=shortB (l.getD j PrinT.dflt)
def smallP(p:Pac):Bool:=allN p.2.2.2.2.length (viaAt p.2.2.2.2) && (shortB p.1&& (decide ((p.2.2.2.1.length:Int)≤70) && decide ((p.2.2.2.2.length:Int)≤20)))
theorem z2J(p:Pac)(ho:PacT.ok p):PC Tryz.prog 9 [.agg (PacT.cells p)] (rB (smallP p)):=by
 obtain ⟨c,a,u,g,w⟩:=p;obtain ⟨o1,_,_,o4,o5⟩:=ho;have hd:smallP (c,a,u,g,w)=(allN w.length (viaAt w) && (shortB c&& (decide ((g.length:Int)≤70) && decide ((w.length:Int)≤20)))):=rfl;rw [hd];have hwl:List.length w≤1125899906842624:=o5.1;refine q0w rfl rfl ?_;refine rQ fi9 ?_;refine q0X (fun i=>[(3,.raw (.int .i64 ((i:Nat):Int)))]) (List.length w) (fun j=>(viaAt w) j=true) (by first|decide|simp) (fun i=>rfl) ?_ fun i hi hall=> ?_
 · (with_reducible refine sxE ?_<;>try exact True.intro)
   all_goals (try rfl)
 have hwr:=wsx i (by omega)
 refine gQ ?_;have bad:i< (List.length w)→(viaAt w) i=false→allN (List.length w) (viaAt w)=false:=fun hlt hv=>q0y hlt hv;have fin:¬i< (List.length w)→allN (List.length w) (viaAt w)=true:=fun h=>q0B fun j hj=>hall j (by omega)
 try dsimp only at bad fin hall
 have hsd:viaAt w i=shortB (w.getD i PrinT.dflt):=rfl;refine ⟨fun hlt=>⟨⟨by omega,hlt⟩,q0a (z3z (w.getD i PrinT.dflt) (o5.2 _ (q1a hlt))) ?_⟩,fun hge=> ?_⟩
 · cases hk:shortB (w.getD i PrinT.dflt) with
   |true=>
    refine gQ ?_;refine ⟨hlt,q0Z hall (hsd.trans hk),⟨[],rfl⟩,?_⟩;with_reducible refine sx1 hwr ?_;trivial
   |false=>
    refine gQ ?_;rw [bad hlt (hsd.trans hk),AW]
 rw [fin hge,AJ];refine q0a (z3z c o1) ?_;cases shortB c with
 |true=>
  refine gQ ?_;exact ⟨fun h=>by rw [decide_eq_true h,AJ],fun h=>by rw [decide_eq_false h,AW]⟩
 |false=>
  refine gQ ?_;trivial
theorem z9L(k:Key)(u:Nat)(x:List UInt8):fitK k (sigK k u x)=true:=by simp [fitK,sigK]
theorem q5R(k:Key)(u:Nat)(x:List UInt8):rightB k u x (sigK k u x)=true:=by
 unfold rightB;rw [z9L];simp [sigK]
theorem q8t{k:Key}(u:Nat)(x:List UInt8)(s:Key)(h:noK k=true):rightB k u x s=true:=by
 unfold rightB;rw [h,CB]
theorem q9L{p:Pac}{s r s' r':Key}(hv:vPac p=true)(hs:vKey s=true)(hr:vKey r=true)(h1:s'=s∨noK s'=true)(h2:r'=r∨noK r'=true):vfyS (sgnS (signX p s r)) s' r'=(p,0):=by
 have a1:argK s'=true:=by
  unfold argK;rcases h1 with rfl|h
  · rw [hs,Ca]
  rw [h,CB]
 have a2:argK r'=true:=by
  unfold argK;rcases h2 with rfl|h
  · rw [hr,Ca]
  rw [h,CB]
 have hX:signX p s r=(p,sigK s 17 (pacS p),sigK r 18 (smS s 17 (pacS p))):=rfl;unfold vfyS;rw [a1,a2,BI,if_pos rfl,z3I (z2A hv hs hr),hX];dsimp only;have e1:rightB s' 17 (pacS p) (sigK s 17 (pacS p))=true:=by
  rcases h1 with rfl|h
  · exact q5R _ _ _
  exact q8t _ _ _ h
 have e2:rightB r' 18 (sigK s 17 (pacS p)).2.2 (sigK r 18 (smS s 17 (pacS p)))=true:=by
  rcases h2 with rfl|h
  · exact q5R _ _ _
  exact q8t _ _ _ h
 rw [e1,if_pos rfl,e2,if_pos rfl]
def cliK:Prin:=([⟨#[97]⟩],⟨#[82]⟩)
def pK:Pac:=(cliK,10,1000,[5,7],[])
def r16(c:UInt8):List UInt8:=List.replicate 16 c
def sK:Key:=(1,1,r16 1)
def rK:Key:=(1,4,r16 2)
theorem vpK:vPac pK=true:=by kernel_rfl
theorem vsK:vKey sK=true:=by decide
theorem vrK:vKey rK=true:=by decide
theorem lpK:(pacS pK).length=44:=by kernel_rfl
def m16(f:Nat→UInt8):List UInt8:=(List.range 16).map f
theorem z6N{l:List UInt8}(h:l.length=16):l=m16 (fun i=>l.getD i 0):=by
 unfold m16;apply AO
 · simp [h]
 intro i h1 h2;simp [Ab h1]
theorem lsgn(f g:Nat→UInt8):(sgnS (pK,(1,1,m16 f),(1,4,m16 g))).length=116:=by kernel_rfl
def cK:List UInt8:=sgnS (signX pK sK rK)
theorem lcK:cK.length=116:=by
 have h1:=q5L sK 17 (pacS pK) (by decide)
 have h2:=q5L rK 18 (smS sK 17 (pacS pK)) (by decide)
 have e:signX pK sK rK=(pK,(1,1,smS sK 17 (pacS pK)),(1,4,smS rK 18 (smS sK 17 (pacS pK)))):=rfl;unfold cK;rw [e,z6N (l:=smS sK 17 (pacS pK)) h1];rw [z6N (l:=smS rK 18 _) (by rw [z6N (l:=smS sK 17 (pacS pK)) h1] at h2;exact h2)]
 exact lsgn _ _
theorem sgK:signS pK sK rK=(cK,0):=by
 have h:=lcK;unfold signS;rw [vpK,vsK,vrK,BI,BI,if_pos rfl,if_neg (by rw [show (sgnS (signX pK sK rK)).length=116 from h];decide)]
 rfl
theorem vf1:vfyS cK sK rK=(pK,0):=q9L vpK vsK vrK (.inl rfl) (.inl rfl)
theorem vf2:vfyS cK sK KeyT.dflt=(pK,0):=q9L vpK vsK vrK (.inl rfl) (.inr rfl)
theorem vf3:vfyS cK KeyT.dflt rK=(pK,0):=q9L vpK vsK vrK (.inr rfl) (.inl rfl)
theorem z0n{p:Pac}{s r s' r':Key}{e:Int}(hv:vPac p=true)(hs:vKey s=true)(hr:vKey r=true)(h1:vKey s'=true)(h2:vKey r'=true)(n1:noK s'=false)(n2:noK r'=false)
 (hw:(e=230∧fitK s' (sigK s 17 (pacS p))=false)∨(e=231∧s'=s∧fitK r' (sigK r 18 (smS s 17 (pacS p)))=false)):vfyS (sgnS (signX p s r)) s' r'=(PacT.dflt,e):=by
 have hX:signX p s r=(p,sigK s 17 (pacS p),sigK r 18 (smS s 17 (pacS p))):=rfl;have a1:argK s'=true:=by unfold argK;rw [h1,Ca]
 have a2:argK r'=true:=by unfold argK;rw [h2,Ca]
 unfold vfyS;rw [a1,a2,BI,if_pos rfl,z3I (z2A hv hs hr),hX];dsimp only;rcases hw with ⟨rfl,h⟩ | ⟨rfl,rfl,h⟩
 · rw [show rightB s' 17 (pacS p) (sigK s 17 (pacS p))=false by unfold rightB;rw [n1,h];rfl,if_neg (by decide)]
 rw [q5R,if_pos rfl,show rightB r' 18 (sigK s' 17 (pacS p)).2.2 (sigK r 18 (smS s' 17 (pacS p)))=false by unfold rightB;rw [n2,h];rfl,if_neg (by decide)]
theorem vf4:vfyS cK rK rK=(PacT.dflt,230):=z0n vpK vsK vrK vrK vrK (by decide) (by decide) (.inl ⟨rfl,rfl⟩)
theorem vf5:vfyS cK sK sK=(PacT.dflt,231):=z0n vpK vsK vrK vsK vsK (by decide) (by decide) (.inr ⟨rfl,rfl,rfl⟩)
theorem vf6:vfyS [48,0] sK rK=(PacT.dflt,6):=by
 have h:decSg [48,0]=none:=by kernel_rfl
 unfold vfyS;rw [show argK sK=true by decide,show argK rK=true by decide,BI,if_pos rfl,h]
theorem okpK:PacT.ok pK:=by
 refine ⟨⟨⟨by decide,fun s hs=> ?_⟩,show (1:Nat)≤_ by decide⟩,trivial,trivial,⟨by decide,fun _ _=>trivial⟩,z2U⟩
 rw [Cp.1 hs];show (1:Nat)≤_;decide
theorem okK16(v:Int)(c:UInt8):KeyT.ok ((1,v,r16 c):Key):=⟨trivial,trivial,⟨by show (List.replicate 16 c).length≤_;simp,fun _ _=>trivial⟩⟩
theorem okK0:KeyT.ok KeyT.dflt:=⟨trivial,trivial,z2U⟩
theorem z8k:PC Tryz.prog 12 [] (rB true):=by
 have ce:=z8W pK okpK;rw [vpK,if_pos rfl,if_pos rfl] at ce;have cs:=z7V pK sK rK okpK (okK16 1 1) (okK16 4 2);rw [sgK] at cs;have v1:=q3Z cK sK rK (by rw [lcK];decide) (okK16 1 1) (okK16 4 2)
 rw [vf1] at v1;have v2:=q3Z cK sK KeyT.dflt (by rw [lcK];decide) (okK16 1 1) okK0
 rw [vf2] at v2;have v3:=q3Z cK KeyT.dflt rK (by rw [lcK];decide) okK0 (okK16 4 2)
 rw [vf3] at v3;have v4:=q3Z cK rK rK (by rw [lcK];decide) (okK16 4 2) (okK16 4 2)
 rw [vf4] at v4;have v5:=q3Z cK sK sK (by rw [lcK];decide) (okK16 1 1) (okK16 1 1)
 rw [vf5] at v5;have v6:=q3Z [48,0] sK rK (by decide) (okK16 1 1) (okK16 4 2)
 rw [vf6] at v6;have b1:=z0A pK cliK 10 okpK okpK.1;have b2:=z0A pK cliK 11 okpK okpK.1;rw [show bindS pK cliK 10=0 by kernel_rfl] at b1
 rw [show bindS pK cliK 11=232 by kernel_rfl] at b2
 have m7:=q9s pK 7 okpK;have m6:=q9s pK 6 okpK;rw [show (decide ((7:Int)∈pK.2.2.2.1))=true from by decide] at m7
 rw [show (decide ((6:Int)∈pK.2.2.2.1))=false from by decide] at m6
 have hs:=q5t pK pK okpK;rw [decide_eq_true rfl] at hs;have l1:=lpK;have l2:=lcK;have l1i:((pacS pK).length:Int)=44:=by omega
 have l2i:(cK.length:Int)=116:=by omega
 generalize pacS pK=bb at*;generalize cK=cc at*;refine q0w rfl rfl ?_;refine q4r fi12 ?_;refine gQ ?_;refine ⟨by decide,q0a (j0y 1 16 (by decide)) ?_⟩
 with_reducible refine sxE ?_
 refine q1u 2 rfl rfl (by simp) ?_ ?_ ?_
 · with_reducible refine sxE ?_;trivial
 · with_reducible refine sxE ?_;trivial
 with_reducible refine sxE ?_
 refine q1u 0 rfl rfl (by simp) ?_ ?_ ?_
 · with_reducible refine sxE ?_;trivial
 · with_reducible refine sxE ?_;trivial
 with_reducible refine sxE ?_
 refine gQ ?_;refine cQ (j0y 2 16 (by decide)) ?_
 refine q0a (ce.arg ?_) ?_
 · simp (maxSteps:=3000000) only [pK,cliK,go_sem,↓zA,↓reduceIte,↓reduceDIte] <;>try simp only [zB]
 refine gQ ?_;refine q0a (cs.arg ?_) ?_
 · simp (maxSteps:=3000000) only [pK,cliK,sK,rK,r16,go_sem,↓zA,↓reduceIte,↓reduceDIte] <;>try simp only [zB]
 refine gQ ?_;refine q0a (v1.arg ?_) ?_
 · simp (maxSteps:=3000000) only [sK,rK,r16,go_sem,↓zA,↓reduceIte,↓reduceDIte] <;>try simp only [zB]
 refine gQ ?_;refine q0a (v2.arg ?_) ?_
 · simp (maxSteps:=3000000) only [sK,rK,r16,go_sem,↓zA,↓reduceIte,↓reduceDIte] <;>try simp only [zB]
   exact ⟨rfl,rfl,rfl⟩
 refine gQ ?_;refine q0a (v3.arg ?_) ?_
 · simp (maxSteps:=3000000) only [sK,rK,r16,go_sem,↓zA,↓reduceIte,↓reduceDIte] <;>try simp only [zB]
   exact ⟨rfl,rfl,rfl⟩
 refine gQ ?_;refine q0a (v4.arg ?_) ?_
 · simp (maxSteps:=3000000) only [sK,rK,r16,go_sem,↓zA,↓reduceIte,↓reduceDIte] <;>try simp only [zB]
 refine gQ ?_;refine q0a (v5.arg ?_) ?_
 · simp (maxSteps:=3000000) only [sK,rK,r16,go_sem,↓zA,↓reduceIte,↓reduceDIte] <;>try simp only [zB]
 refine gQ ?_;refine ⟨⟨rfl,rfl⟩,q0z 12 ?_⟩;with_reducible refine sxE ?_
 refine q0a (v6.arg ?_) ?_
 · simp (maxSteps:=3000000) only [sK,rK,r16,go_sem,↓zA,↓reduceIte,↓reduceDIte] <;>try simp only [zB]
   rfl
 have hw00:IntKind.i64.wrap (0+0)=0:=by decide
 refine gQ ?_;refine cQ (q4c _) ?_;refine cy1 (q4c _) hw00 ?_;refine cy1 (q4c _) hw00 ?_;refine cy1 (q4c _) hw00 ?_;refine q0a (q4c _) ?_;refine gy3 hw00 l1i l2i ?_;refine cQ (q4c _) ?_;refine cQ (q4c _) ?_;refine cQ (q4c _) ?_;refine q0a (hs.arg ?_) ?_
 · simp (maxSteps:=3000000) only [pK,cliK,go_sem,↓zA,↓reduceIte,↓reduceDIte] <;>try simp only [zB]
 refine gQ ?_;refine q0a (hs.arg ?_) ?_
 · simp (maxSteps:=3000000) only [pK,cliK,go_sem,↓zA,↓reduceIte,↓reduceDIte] <;>try simp only [zB]
 refine gQ ?_;refine q0a (hs.arg ?_) ?_
 · simp (maxSteps:=3000000) only [pK,cliK,go_sem,↓zA,↓reduceIte,↓reduceDIte] <;>try simp only [zB]
 refine gQ ?_;refine q0a (b1.arg ?_) ?_
 · simp (maxSteps:=3000000) only [pK,cliK,go_sem,↓zA,↓reduceIte,↓reduceDIte] <;>try simp only [zB]
 refine gQ ?_;refine cQ (q4c _) ?_;refine q0a (b2.arg ?_) ?_
 · simp (maxSteps:=3000000) only [pK,cliK,go_sem,↓zA,↓reduceIte,↓reduceDIte] <;>try simp only [zB]
 refine gQ ?_;refine cQ (q4c _) ?_;refine q0a (m7.arg ?_) ?_
 · simp (maxSteps:=3000000) only [pK,cliK,go_sem,↓zA,↓reduceIte,↓reduceDIte] <;>try simp only [zB]
 refine gQ ?_;refine q0a (m6.arg ?_) ?_
 · simp (maxSteps:=3000000) only [pK,cliK,go_sem,↓zA,↓reduceIte,↓reduceDIte] <;>try simp only [zB]
 refine gQ ?_;trivial
end Go.Proofs.YtmapiojgmbgbgaaGreatDoor
