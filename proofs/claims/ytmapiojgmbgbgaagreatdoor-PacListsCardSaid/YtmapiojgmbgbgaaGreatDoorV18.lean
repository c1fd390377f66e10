/-
  Contract: name.Realm.
-/
import Derived.Test.YtmapiojgmbgbgaaGreatDoorV17
import Derived.Test.YtmapiojgmbgbgaaGreatDoorV16
set_option linter.all false
namespace Go.Proofs.YtmapiojgmbgbgaaGreatDoor
open Go Go.RowKit
attribute [local go_sem] Oper.semAt_some

def realmChar(c:UInt8):Bool:=(decide (65≤c.toNat) && decide (c.toNat≤90)) || (decide (48≤c.toNat) && decide (c.toNat≤57)) ||c==45
def labelB(l:ByteArray):Bool:=decide (0<l.size) && l.data.toList.all realmChar
def allL(pre:List Sm):Bool:=(pre.map (·.1)).all labelB
theorem allL_snoc(pre:List Sm)(x:Sm):allL (pre++ [x])=(allL pre&& labelB x.1):=by simp [allL]
theorem allL_no(pre:List Sm)(x:Sm)(h:labelB x.1=false):allL (pre++ [x])=false:=by rw [allL_snoc,h];simp
theorem allL_yes(pre:List Sm)(x:Sm)(h0:allL pre=true)(h:labelB x.1=true):allL (pre++ [x])=true:=by rw [allL_snoc,h,h0];rfl
def realmB(s:ByteArray):Bool:=sizedB s&& (splitB s).all labelB

theorem empty_size{x:ByteArray}(h:x.toList= []):x.size=0:=by
  rw [ByteArray.toList_eq] at h;simpa using congrArg List.length h
theorem size_pos{x:ByteArray}(h:¬x.toList= []):0<x.size:=by
  rcases Nat.eq_zero_or_pos x.size with h0|h0
  · exact absurd (by rw [ByteArray.toList_eq];exact List.eq_nil_of_length_eq_zero (by simpa using h0)) h
  · exact h0

theorem realm_cases(c:UInt8):
    ((65:Int)≤(c.toNat:Int)∧(c.toNat:Int)≤90∧realmChar c=true)∨((48:Int)≤(c.toNat:Int)∧(c.toNat:Int)≤57∧realmChar c=true)∨
    ((c.toNat:Int) <48∧((c.toNat:Int) !=45)=false∧realmChar c=true)∨((c.toNat:Int) <48∧((c.toNat:Int) !=45)=true∧realmChar c=false)∨
    ((57:Int) < (c.toNat:Int)∧(c.toNat:Int) <65∧realmChar c=false)∨((90:Int) < (c.toNat:Int)∧((c.toNat:Int) !=45)=true∧realmChar c=false):=by
  have hc:(c==45)=decide (c.toNat=45):=by rw [Bool.eq_iff_iff];simp [←UInt8.toNat_inj]
  unfold realmChar;rw [hc];simp;omega

set_option maxHeartbeats 1000000 in
set_option maxRecDepth 100000 in
theorem realm_no(s:ByteArray)(w:World)(hs:s.size≤140737488355328)(h:sizedB s=false):Calls Tryz.prog 118 #[.string s] w (Ret w (.bool false)):=by
  go_enter Tryz.func118,Tryz.ntmps118
  go_wp2_with fail
  refine (sized_c s _ hs false (Lib.hid h.symm)).mono ?_;rintro e w1 ⟨rfl,hg⟩;have b0:Box w1 w.heap.size 4 (.bool false):=(Box.new w _ _).gr hg;have c0:=b0.cell;have f0:=b0.frozen
  go_wp2
  refine bodyPost_ret (v:=.bool false) ?_ rfl ⟨rfl,?_⟩
  · have:=((b0.set (.bool false)).cell);simp [results,Tryz.results118,go_sem,this]
  · exact ((Gr.alloc _ _).trans hg:Below _ _ _).setCell (Nat.le_refl _) _

set_option maxHeartbeats 1000000 in
set_option maxRecDepth 100000 in
theorem realm_yes(s:ByteArray)(w:World)(hs:s.size≤140737488355328)(h:sizedB s=true)(B:Bool)(HB:Hid (B=(splitB s).all labelB)):Calls Tryz.prog 118 #[.string s] w (Ret w (.bool B)):=by
  refine (callsIn_wide (n:=9)).1 ?_;refine callsIn_of_wp_marks Tryz.func118 rfl trivial ?_ rfl;simp only [Tryz.ntmps118,List.size_toArray,List.length_cons,List.length_nil,Nat.reduceAdd,Nat.reduceSub,Array.replicate_succ,Array.replicate_zero,List.push_toArray,List.append_toArray,List.nil_append,List.cons_append]
  gi_wp2_with fail
  refine ⟨trivial,?_⟩;refine (callsIn_wide.2 (sized_c s _ hs true (Lib.hid h.symm))).mono ?_;rintro e w1 ⟨rfl,hg⟩;have b0:Box w1 w.heap.size 4 (.bool false):=(Box.new w _ _).gr hg;have HB0:=Lib.hid b0;clear b0
  gi_wp2_with fail
  refine ⟨trivial,?_⟩;refine (callsIn_wide.2 (splitSeqPub_c _ _)).mono ?_;rintro e w2 ⟨rfl,rfl⟩
  gi_wp2_with fail
  have x1:=((Box.new w1 9 (.string s)).alloc (.cells #[.string ⟨#[46]⟩] 9)).alloc (.cells #[.int .i64 0] 3);have x2:=(Box.new (w1.alloc (.cells #[.string s] 9)) 9 (.string ⟨#[46]⟩)).alloc (.cells #[.int .i64 0] 3);have x3:=Box.new ((w1.alloc (.cells #[.string s] 9)).alloc (.cells #[.string ⟨#[46]⟩] 9)) 3 (.int .i64 0);simp only [World.size_alloc] at x2 x3;obtain ⟨W2,hW2⟩:∃W2,W2=((w1.alloc (.cells #[.string s] 9)).alloc (.cells #[.string ⟨#[46]⟩] 9)).alloc (.cells #[.int .i64 0] 3):=⟨_,rfl⟩;rw [←hW2] at x1 x2 x3⊢;have g2:Gr w1 W2:=by rw [hW2];exact ((Gr.alloc _ _).trans (Gr.alloc _ _)).trans (Gr.alloc _ _)
  have gw:Gr w w1:=(Gr.alloc _ _).trans hg;have z1:w.heap.size<w1.heap.size:=by have:=hg.size;simp at this;omega
  have z2:w1.heap.size+1+1<W2.heap.size:=x3.lt;have B0:=HB0.out.gr g2;clear hW2;refine wpIn_rangeFunc_X (P:=Tryz.prog) (gf:=240) rfl (enters_of Tryz.func240 (by kernel_rfl) rfl)
    (split_seq s w1.heap.size (w1.heap.size+1) (w1.heap.size+1+1) W2 hs x1 x2 x3 (by omega) (by omega)) (by omega) (fun k hk=>by omega)
    (fun h k=>⟨k.1.trans h.1,k.2.1.trans h.2.1,k.2.2.trans h.2.2⟩)
    (fun W l o o' hl _ _=>⟨World.putObj_heap_other (by omega),World.putObj_heap_other (by omega),World.putObj_heap_other (by omega)⟩)
    (Gr.refl _) (fun _=>rfl)
    (fun pre W=>Box W w.heap.size 4 (.bool false)∧allL pre=true∧Below w.heap.size w W)
    (fun c pre W=>c= .ret∧Box W w.heap.size 4 (.bool false)∧allL pre=false∧Below w.heap.size w W)
    ?hI ?hIx ⟨B0,rfl,(gw.trans g2)⟩ (fun x a' _=>a'={tmps:= #[.string s,undef,.pointer (some ⟨w.heap.size,0,none⟩),.string x.1,undef,undef,.string s,.bool true,.bool false,.string s,
      .func (.func 240) #[] #[.pointer (some ⟨w1.heap.size+1,0,none⟩),.pointer (some ⟨w1.heap.size,0,none⟩),.pointer (some ⟨w1.heap.size+1+1,0,none⟩)],.string x.1,undef,undef,undef,undef,undef,undef,undef,undef,undef,undef,undef,undef,undef,undef,undef,undef,undef,undef,undef,undef,undef,undef,undef,undef,undef,undef,undef,undef,undef],defers:=[]}) ?assign ?hAx ?body ?done ?stop
  case hI=>
    rintro pre W W' ⟨hb,ha,hbl⟩ g;have hn:∀k,k≤w.heap.size→¬TurnX (fun k=>k=w1.heap.size) W2.heap.size W k:=fun k hk h=>by rcases h with h| ⟨h,_⟩ <;>omega
    exact ⟨(g.block _ hb.lt (hn _ (Nat.le_refl _))).trans hb,ha,hbl.trans ⟨g.os,g.tape,g.output,g.size,fun k hk=>g.block k (by have:=hbl.size;omega) (hn k (by omega))⟩⟩
  case hIx=>
    rintro c pre W W' ⟨hc,hb,ha,hbl⟩ g;have hn:∀k,k≤w.heap.size→¬TurnX (fun k=>k=w1.heap.size) W2.heap.size W k:=fun k hk h=>by rcases h with h| ⟨h,_⟩ <;>omega
    exact ⟨hc,(g.block _ hb.lt (hn _ (Nat.le_refl _))).trans hb,ha,hbl.trans ⟨g.os,g.tape,g.output,g.size,fun k hk=>g.block k (by have:=hbl.size;omega) (hn k (by omega))⟩⟩
  case assign=>
    intro l pre x W K hi hK
    gi_wp2
    exact hK _ _ (KeepsFrom.refl _ _) ⟨rfl,rfl,rfl⟩ hi rfl
  case hAx=>exact fun x a' _ W W' h _=>h
  case body=>
    rintro l pre ⟨x,hxs⟩ a' W ⟨hb,ha,hbl⟩ rfl hl hr;dsimp only;have HA:=Lib.hid ha;have c0:=hb.cell;have f0:=hb.frozen;clear ha hr;have hbs:Below w.heap.size w (W.setCell ⟨w.heap.size,0,none⟩ (.bool false)):=hbl.setCell (Nat.le_refl _) _;have hks:KeepsFrom W2.heap.size W (W.setCell ⟨w.heap.size,0,none⟩ (.bool false)):=(KeepsOthers.setCell _ _ _).from _
    have hbx:=hb.set (.bool false);by_cases hx:x.toList= []
    · have hx2:x.toList.isEmpty=true:=by simp [hx]
      gi_wp2
      exact ⟨hks,rfl,hbx,allL_no _ _ (by simp [labelB,empty_size hx]),hbs⟩
    · have hx2:x.toList.isEmpty=false:=by simp [hx]
      have hpos:=size_pos hx;have HK:=Lib.hid hks;have HX:=Lib.hid hbx;have HBS:=Lib.hid hbs;clear hx hks hbx hbs
      gi_wp2
      gi_loopw [4,5,16] (fun _ _ i wr=>W=wr∧∃k:Nat,k≤x.size∧i= .int .i64 k∧(x.data.toList.take k).all realmChar=true) (fun _ _ i _=>x.size- (intOf i).toNat)
      case atStart=>exact ⟨rfl,0,Nat.zero_le _,rfl,by simp⟩
      case round=>
        obtain ⟨rfl,k,hk,rfl,hall⟩:=hrel;have HL:=Lib.hid hall;clear hall;by_cases hlt:k<x.size
        · rcases realm_cases x[k] with ⟨a1,a2,hv⟩ | ⟨a1,a2,hv⟩ | ⟨a1,a2,hv⟩ | ⟨a1,a2,hv⟩ | ⟨a1,a2,hv⟩ | ⟨a1,a2,hv⟩
          all_goals have HV:=Lib.hid hv
          all_goals clear hv
          · gi_wp2
            go_roundw
            case rel=>exact ⟨trivial,k+1,by omega,by go_num,all_snoc hlt HL.out HV.out⟩
            case measure=>simp [intOf];omega
          · gi_wp2
            go_roundw
            case rel=>exact ⟨trivial,k+1,by omega,by go_num,all_snoc hlt HL.out HV.out⟩
            case measure=>simp [intOf];omega
          · gi_wp2
            go_roundw
            case rel=>exact ⟨trivial,k+1,by omega,by go_num,all_snoc hlt HL.out HV.out⟩
            case measure=>simp [intOf];omega
          all_goals
            gi_wp2
            exact ⟨HK.out,rfl,HX.out,allL_no _ _ (by simp only [labelB,all_not hlt HV.out,Bool.and_false]),HBS.out⟩
        · gi_wp2
          have e:=all_end hlt HL.out;exact ⟨KeepsFrom.refl _ _,⟨rfl,rfl,rfl⟩,hb,allL_yes _ _ HA.out (by simp [labelB,e,hpos]),hbl⟩
  case done=>
    rintro D xs W hD hxs ⟨hb,ha,hbl⟩ hK;have HX:=Lib.hid hxs;have HA:=Lib.hid ha;clear hxs ha;have c0:=hb.cell;have f0:=hb.frozen
    gi_wp2
    have hK2:(W.setCell ⟨w.heap.size,0,none⟩ (.bool true)).heap[D]?=some (.deferred (some [])):=(KeepsOthers.setCell _ _ _).same D _ hK rfl;have hb2:=hb.set (.bool true);refine ⟨by simp,.inl ⟨_,_,rfl,run_takeDeferred hK2,?_⟩⟩
    have hb3:Box ((W.setCell ⟨w.heap.size,0,none⟩ (.bool true)).putObj D (.deferred none)) w.heap.size 4 (.bool true):=(World.putObj_heap_other (by omega)).trans hb2
    have c3:=hb3.cell;refine ⟨.bool true,?_,?_⟩
    · simp [results,Tryz.results118,go_sem,c3]
    · refine ⟨ret_bool ?_,(hbl.setCell (Nat.le_refl _) _).trans ⟨rfl,rfl,rfl,by simp,fun k hk=>World.putObj_heap_other (by omega)⟩⟩
      rw [HB.out,←HX.out];exact HA.out.symm
  case stop=>
    rintro D c pre W hD hpre ⟨rfl,hb,ha,hbl⟩ hK;have HP:=Lib.hid hpre;have HA:=Lib.hid ha;clear hpre ha
    gi_wp2
    refine ⟨by simp,.inl ⟨_,_,rfl,run_takeDeferred hK,?_⟩⟩
    have hb3:Box (W.putObj D (.deferred none)) w.heap.size 4 (.bool false):=(World.putObj_heap_other (by omega)).trans hb
    have c3:=hb3.cell;refine ⟨.bool false,?_,?_⟩
    · simp [results,Tryz.results118,go_sem,c3]
    · refine ⟨ret_bool ?_,hbl.trans ⟨rfl,rfl,rfl,by simp,fun k hk=>World.putObj_heap_other (by omega)⟩⟩
      obtain ⟨rest,hr⟩:=HP.out;rw [HB.out,←hr,List.all_append];have e:(pre.map (·.1)).all labelB=false:=HA.out
      rw [e];rfl

theorem realm_c(s:ByteArray)(w:World)(hs:s.size≤140737488355328)(B:Bool)(HB:Hid (B=realmB s)):Calls Tryz.prog 118 #[.string s] w (Ret w (.bool B)):=by
  have e:=HB.out;unfold realmB at e;by_cases h:sizedB s=true
  · rw [h,Bool.true_and] at e;exact realm_yes s w hs h B (Lib.hid e)
  · have h':sizedB s=false:=by simpa using h
    rw [h',Bool.false_and] at e;rw [e];exact realm_no s w hs h'
end Go.Proofs.YtmapiojgmbgbgaaGreatDoor
namespace Go.Proofs.YtmapiojgmbgbgaaGreatDoor
open Go Go.Sx Go.Proofs
set_option maxRecDepth 100000
set_option maxHeartbeats 4000000
def szB(s:ByteArray):Bool:=decide (1≤(s.size:Int)) && decide ((s.size:Int)≤32)
theorem j4B(s:ByteArray):PC Tryz.prog 171 [rS s] (rB (szB s)):=by
 refine q0w rfl rfl ?_;refine rQ fi171 ?_
 grind [szB]
def visC(c:UInt8):Bool:=decide (33≤(c.toNat:Int)) && decide ((c.toNat:Int)≤126)
theorem z7N{c:UInt8}(h1:¬(c.toNat:Int) <33)(h2:¬126< (c.toNat:Int)):visC c=true:=by simp [visC];omega
theorem z5e{c:UInt8}(h1:(c.toNat:Int) <33):visC c=false:=by simp [visC];omega
theorem z5Z{c:UInt8}(h1:126< (c.toNat:Int)):visC c=false:=by simp [visC];omega
def visB(s:ByteArray):Bool:=allN s.size fun j=>visC (s.data.toList.getD j 0)
theorem j4w(s:ByteArray)(hs:s.size≤140737488355328):PC Tryz.prog 119 [rS s] (rB (visB s&& szB s)):=by
 refine q0w rfl rfl ?_;refine rQ fi119 ?_;refine q5Y 6 s.size (fun j=>visC (s.data.toList.getD j 0)=true) ?_ fun i hi hall=> ?_
 · with_reducible refine sxE ?_;trivial
 refine gQ ?_;refine ⟨fun hlt=>⟨⟨by omega,hlt⟩,fun h33=>⟨⟨by omega,hlt⟩,fun h126=> ?_,fun h126=>q3W hlt hall ?_ ?_⟩,fun h33=> ?_⟩,fun hge=>q0a (j4B s) ?_⟩
 · rw [show visB s=false from q0l hlt (z5Z h126)];rfl
 · exact z7N h33 h126
 · with_reducible refine sxE ?_
   rw [q1L (by omega)]
 · rw [show visB s=false from q0l hlt (z5e h33)];rfl
 refine gQ ?_;rw [show visB s=true from q0q fun j hj=>hall j (by omega)];rfl

def fidx(l:List Bool):Int:=if l.all id then -1 else ((l.findIdx (!·):Nat):Int)
theorem j2t{l:List Bool}{i:Nat}(hlt:i<l.length)(hall:∀j,j<i→l.getD j false=true)(h:l.getD i false=false):fidx l=i:=by
 have h1:¬l.all id=true:=fun ha=>by
  rw [Ba] at ha;have:=ha _ (q0O (d:=false) hlt);rw [h] at this;cases this
 unfold fidx;rw [if_neg h1,Int.ofNat_inj,List.findIdx_eq hlt];refine ⟨by rw [Ad,Ab hlt] at h;simpa using h,fun j hj=> ?_⟩
 have:=hall j hj;rw [Ad,Ab (by omega)] at this
 simpa using this
theorem j0X{l:List Bool}(hall:∀j,j<l.length→l.getD j false=true):fidx l= -1:=by
 have h1:l.all id=true:=by
  rw [Ba];intro x hx;obtain ⟨j,hj,rfl⟩:=AV hx;have:=hall j hj;rw [Ad,Ab hj] at this;simpa using this
 unfold fidx;rw [if_pos h1]
theorem z8X(l:List Bool)(hl:l.length≤1125899906842624):PC Tryz.prog 217 [.isl .bool l,rB false] (rI (fidx l)):=by
 refine q0w rfl rfl ?_;refine rQ fi217 ?_;refine q5Y 8 l.length (fun j=>l.getD j false=true) ?_ fun i hi hall=> ?_
 · with_reducible refine sxE ?_;trivial
 refine gQ ?_;refine ⟨fun hlt=>⟨⟨by omega,hlt⟩,fun h=> ?_,fun h=>q3W hlt hall ?_ ?_⟩,fun hge=> ?_⟩
 · rw [j2t hlt hall h.symm]
 · simpa [Ty.dflt] using h
 · with_reducible refine sxE ?_
   rw [q1L (by omega)]
 rw [j0X (fun j hj=>hall j (by omega))]
theorem q6I(l:List Bool)(hl:l.length≤1125899906842624):PC Tryz.prog 170 [.isl .bool l,rB false] (rB (!l.all id)):=by
 refine q0w rfl rfl ?_;refine rQ fi170 ?_;refine cQ (z8X l hl) ?_;unfold fidx;split
 · simp_all
 rename_i h;simp [h]
theorem j3m(l:List Bool)(hl:l.length≤1125899906842624):PC Tryz.prog 117 [.isl .bool l] (rB (l.all id)):=by
 refine q0w rfl rfl ?_;refine rQ fi117 ?_;refine cQ (q6I l hl) ?_;simp

theorem j4u(s:ByteArray)(hs:s.size≤140737488355328):PC Tryz.prog 118 [rS s] (rB (realmB s)):=
 z9V (vs:=[.string s]) (by kernel_rfl) fun w=>realm_c s w hs _ (Lib.hid rfl)

def vPart(s:ByteArray):Bool:=visB s&& szB s
def vPrin(p:Prin):Bool:=(decide (1≤(p.1.length:Int)) && (decide ((p.1.length:Int)≤4) && realmB p.2)) && allN p.1.length fun j=>vPart (p.1.getD j ByteArray.empty)
theorem q4Y(p:Prin)(hp:PrinT.ok p):PC Tryz.prog 63 [.agg (PrinT.cells p)] (rB (vPrin p)):=by
 obtain ⟨l,r⟩:=p;refine q0w rfl rfl ?_;refine rQ fi63 ?_;refine cR (j4u r hp.2) ?_;refine q0L 1 (by decide) ?_
 with_reducible refine sxE ?_
 refine q0k (j3m _ (by simp)) ?_
 refine uQ 600 _ ?_;simp (maxSteps:=3000000) only [Bt,Cs,id,go_sem,↓zA,↓reduceIte,↓reduceDIte] <;>try simp only [zB]
 refine ⟨fun h=> ?_,fun h=> ?_⟩
 · rw [vPrin,h];rfl
 refine q5Y 22 l.length (fun j=>vPart (l.getD j ByteArray.empty)=true) ?_ fun i hi hall=> ?_
 · with_reducible refine sxE ?_;trivial
 have hl:l.length≤1125899906842624:=hp.1.1;refine gQ ?_;refine ⟨fun hlt=>⟨⟨by omega,hlt⟩,q0a (j4w _ (hp.1.2 _ (q0O hlt))) ?_⟩,fun hge=> ?_⟩
 · refine gQ ?_;refine ⟨fun hb=> ?_,fun hb=>q3W hlt hall hb ?_⟩
   · rw [vPrin,show (allN l.length fun j=>vPart (l.getD j ByteArray.empty))=false from q0l hlt hb];simp
   with_reducible refine sxE ?_
   rw [q1L (by omega)]
 rw [vPrin,h,show (allN l.length fun j=>vPart (l.getD j ByteArray.empty))=true from q0q fun j hj=>hall j (by omega)];rfl
def beN(l:List UInt8):Nat:=l.foldl (fun v c=>v*256+c.toNat) 0
theorem q6v(l:List UInt8)(i:Nat)(h:i<l.length):beN (l.take (i+1))=beN (l.take i)*256+ (l.getD i 0).toNat:=by
 unfold beN;rw [List.take_add_one,List.foldl_append,Ab h,Ad,Ab h];rfl
theorem q7y:∀ (l:List UInt8),beN l<256^ l.length:=by
 intro l;have:∀ (l:List UInt8) (v:Nat),l.foldl (fun v c=>v*256+c.toNat) v< (v+1)*256^ l.length:=by
  intro l;induction l with
  |nil=>intro v;simp
  |cons c l ih=>
   intro v;have h1:=ih (v*256+c.toNat);have h2:c.toNat<256:=c.toNat_lt;simp only [Bl,AB,CF];refine Am h1 ?_;have:(v*256+c.toNat+1)*256^ l.length≤((v+1)*256)*256^ l.length:=AX _ (by omega)
   calc _≤_:=this
    _=_:=by rw [Nat.mul_assoc,Ct 256]
 have h:=this l 0;simpa [beN] using h
theorem q9c(v c:Nat)(hv:v<36028797018963968)(hc:c<256):IntKind.i64.wrap ((BitVec.ofInt 64 ((v*256:Nat):Int) |||BitVec.ofInt 64 ((c:Nat):Int)).toNat:Int)=((v*256+c:Nat):Int):=by
 have h1:(BitVec.ofInt 64 ((v*256:Nat):Int)).toNat=v*256:=by rw [AI,AS];exact AL (by omega)
 have h2:(BitVec.ofInt 64 ((c:Nat):Int)).toNat=c:=by rw [AI,AS];exact AL (by omega)
 have h3:v*256|||c=v*256+c:=by
  have:=Cz (b:=c) (i:=8) hc v;rw [Nat.shiftLeft_eq] at this;exact this.symm
 rw [Cl,h1,h2,h3];exact wrapi (by omega)
theorem z4p(b:List UInt8)(hb:b.length≤7):PC Tryz.prog 186 [.isl .u8 b] (rI (beN b)):=by
 refine q0w rfl rfl ?_;refine rQ fi186 ?_;refine q0Q (fun i=>[(2,rI (beN (b.take i))),(7,.raw (.int .i64 ((i:Nat):Int)))]) (b.length) (fun j=>(fun _=>true) j=true) (by first|decide|simp) (fun i=>rfl) ?_ fun i hi hall=> ?_
 · (with_reducible refine sxE ?_<;>try exact True.intro)
   all_goals (try rfl)
 have hwr:=wsx i (by omega)
 refine gQ ?_;have bad:i< (b.length)→(fun _=>true) i=false→allN (b.length) (fun _=>true)=false:=fun hlt hv=>q0l hlt hv;have fin:¬i< (b.length)→allN (b.length) (fun _=>true)=true:=fun h=>q0q fun j hj=>hall j (by omega)
 try dsimp only at bad fin hall
 refine ⟨fun hlt=>⟨⟨by omega,hlt⟩,?_⟩,fun hge=> ?_⟩
 · have hv:=q7y (b.take i);have hv2:256^ (b.take i).length≤256^ 6:=Br (by decide) (by simp;omega)
   have hc:(b.getD i Ty.u8.dflt).toNat<256:=B6 _;have e1:IntKind.i64.wrap ((beN (b.take i):Int)*2^ min 8 64)=((beN (b.take i)*256:Nat):Int):=by
    rw [show ((beN (b.take i):Int)*2^ min 8 64)=((beN (b.take i)*256:Nat):Int) by simp]
    exact wrapi (by omega)
   have e2:IntKind.i64.wrap ((b.getD i Ty.u8.dflt).toNat:Int)=(((b.getD i Ty.u8.dflt).toNat:Nat):Int):=wrapi (by omega)
   have e3:=q9c (beN (b.take i)) (b.getD i Ty.u8.dflt).toNat (by omega) hc
   have e4:=q6v b i hlt;rw [e1,e2];refine ⟨hlt,trivial,⟨[],rfl⟩,?_⟩;with_reducible refine sx1 hwr ?_
   rw [e4];exact congrArg (Value.int .i64) e3
 obtain rfl:i=b.length:=by omega
 rw [Az]
def minLen:Nat→Nat
 |1=>128|2=>256|3=>65536|_=>0
def measE(b:List UInt8)(at_ n:Nat):Nat×Nat×Nat:=if b.length-at_<n then (0,0,4) else (at_,at_+n,0)
def meas(b:List UInt8):Nat×Nat×Nat:=
 if b.length<2 then (0,0,4) else
 if (b.getD 1 0).toNat<128 then measE b 2 (b.getD 1 0).toNat else
 if (b.getD 1 0).toNat-128<1∨3< (b.getD 1 0).toNat-128 then (0,0,6) else
 if b.length<2+ ((b.getD 1 0).toNat-128) then (0,0,4) else
 if beN ((b.drop 2).take ((b.getD 1 0).toNat-128)) <minLen ((b.getD 1 0).toNat-128) then (0,0,6) else
 measE b (2+ ((b.getD 1 0).toNat-128)) (beN ((b.drop 2).take ((b.getD 1 0).toNat-128)))
def measV(m:Nat×Nat×Nat):SV:=.tup [rI m.1,rI m.2.1,rI m.2.2]
theorem z6n(b:List UInt8)(hb:b.length≤1099511627776):PC Tryz.prog 243 [.isl .u8 b] (measV (meas b)):=by
 refine q0w rfl rfl ?_;have hx:(b.getD 1 Ty.u8.dflt).toNat<256:=B6 _;have e0:IntKind.i64.wrap ((b.getD 1 Ty.u8.dflt).toNat:Int)=(((b.getD 1 Ty.u8.dflt).toNat:Nat):Int):=wrapi (by omega)
 have e1:IntKind.i64.wrap (((b.getD 1 Ty.u8.dflt).toNat:Int) -128)=((b.getD 1 Ty.u8.dflt).toNat:Int) -128:=wrapi (by omega)
 have e2:IntKind.i64.wrap (2+ (((b.getD 1 Ty.u8.dflt).toNat:Int) -128))=2+ (((b.getD 1 Ty.u8.dflt).toNat:Int) -128):=wrapi (by omega)
 have e3:IntKind.i64.wrap ((b.length:Int) -2)=(b.length:Int) -2:=wrapi (by omega)
 have e4:IntKind.i64.wrap (2+ ((b.getD 1 Ty.u8.dflt).toNat:Int))=2+ ((b.getD 1 Ty.u8.dflt).toNat:Int):=wrapi (by omega)
 have hm:∀r,meas b=r→measV (meas b)=measV r:=fun r h=>by rw [h]
 unfold measV;refine ry5 fi243 e0 e1 e2 e3 e4 ?_;have hd:b.getD 1 0=b.getD 1 Ty.u8.dflt:=rfl;generalize hxx:b.getD 1 Ty.u8.dflt=x at*;refine ⟨fun h=> ?_,fun h=>⟨by omega,fun h2=>⟨fun h3=>⟨fun h4=> ?_,fun h4=>⟨fun h5=> ?_,fun h5=>⟨⟨by omega,by omega,by omega⟩,?_⟩⟩⟩,fun h3=> ?_⟩,fun h2=>⟨fun h3=> ?_,fun h3=> ?_⟩⟩⟩
 · have:meas b=(0,0,4):=by unfold meas;rw [if_pos (by omega)]
   rw [this];rfl
 · have:meas b=(0,0,6):=by unfold meas;rw [hd,if_neg (by omega),if_neg (by omega),if_pos (by omega)]
   rw [this];rfl
 · have:meas b=(0,0,4):=by unfold meas;rw [hd,if_neg (by omega),if_neg (by omega),if_neg (by omega),if_pos (by omega)]
   rw [this];rfl
 · obtain ⟨m,hxm⟩:∃m:Nat,(x.toNat:Int) -128=(m:Int):=⟨x.toNat-128,by omega⟩
   have hm3:1≤m∧m≤3:=by omega
   have ht2:((2:Int)+ (m:Int)).toNat=2+m:=by omega
   have hll:(List.drop 2 (List.take (2+m) b)).length=m:=by simp;omega
   rw [hxm,ht2,hll];generalize hL:List.drop 2 (List.take (2+m) b)=L at*;have hmq:∀v,beN L=v→meas b=(if v<minLen m then (0,0,6) else measE b (2+m) v):=fun v hv=>by
    have hLx:(b.drop 2).take m=L:=by rw [←hL,BD];congr 1;omega
    unfold meas;rw [hd,show x.toNat-128=m by omega,if_neg (by omega),if_neg (by omega),if_neg (by omega),if_neg (by omega),hLx,hv]
   rcases (by omega:m=1∨m=2∨m=3) with rfl|rfl|rfl
   · refine q0Q (fun i=>[(5,rI (beN (L.take i))),(39,.raw (.int .i64 ((i:Nat):Int)))]) (1) (fun j=>(fun _=>true) j=true) (by first|decide|simp) (fun i=>rfl) ?_ fun i hi hall=> ?_
     · (with_reducible refine sxE ?_<;>try exact True.intro)
       all_goals (try rfl)
     have hwr:=wsx i (by omega)
     refine gQ ?_;have bad:i< (1)→(fun _=>true) i=false→allN (1) (fun _=>true)=false:=fun hlt hv=>q0l hlt hv;have fin:¬i< (1)→allN (1) (fun _=>true)=true:=fun h=>q0q fun j hj=>hall j (by omega)
     try dsimp only at bad fin hall
     refine ⟨fun hlt=>⟨⟨by omega,by omega⟩,?_⟩,fun hge=> ?_⟩
     · have hv:=q7y (L.take i);have hv2:256^ (L.take i).length≤256^ 6:=Br (by decide) (by simp;omega)
       have hc:(L.getD i Ty.u8.dflt).toNat<256:=B6 _;have e1:IntKind.i64.wrap ((beN (L.take i):Int)*2^ min 8 64)=((beN (L.take i)*256:Nat):Int):=by
        rw [show ((beN (L.take i):Int)*2^ min 8 64)=((beN (L.take i)*256:Nat):Int) by simp]
        exact wrapi (by omega)
       have e2:IntKind.i64.wrap ((L.getD i Ty.u8.dflt).toNat:Int)=(((L.getD i Ty.u8.dflt).toNat:Nat):Int):=wrapi (by omega)
       have e3:=q9c (beN (L.take i)) (L.getD i Ty.u8.dflt).toNat (by omega) hc
       have e4:=q6v L i (by omega)
       rw [e1,e2];refine ⟨hlt,trivial,⟨[],rfl⟩,?_⟩;with_reducible refine sx1 hwr ?_
       rw [e4];exact congrArg (Value.int .i64) e3
     rw [Ah (by omega:L.length≤i)]
     have hv:=q7y L;rw [hll] at hv;have hv3:beN L<16777216:=by omega
     have w1:IntKind.i64.wrap ((b.length:Int) - (2+ ((1:Nat):Int)))=(b.length:Int) - (2+ ((1:Nat):Int)):=wrapi (by omega)
     have w2:IntKind.i64.wrap (2+ ((1:Nat):Int)+ (beN L:Int))=((2+1+beN L:Nat):Int):=by rw [wrapi (by omega)];omega
     rw [w1,w2];refine ⟨by decide,fun q=> ?_,fun q=>⟨fun q2=> ?_,fun q2=> ?_⟩⟩
     · rw [hmq _ rfl,if_pos (by simp only [minLen];omega)];rfl
     · rw [hmq _ rfl,if_neg (by simp only [minLen];omega)];unfold measE;rw [if_pos (by omega)];rfl
     rw [hmq _ rfl,if_neg (by simp only [minLen];omega)];unfold measE;rw [if_neg (by omega)];rfl
   · refine q0Q (fun i=>[(5,rI (beN (L.take i))),(39,.raw (.int .i64 ((i:Nat):Int)))]) (2) (fun j=>(fun _=>true) j=true) (by first|decide|simp) (fun i=>rfl) ?_ fun i hi hall=> ?_
     · (with_reducible refine sxE ?_<;>try exact True.intro)
       all_goals (try rfl)
     have hwr:=wsx i (by omega)
     refine gQ ?_;have bad:i< (2)→(fun _=>true) i=false→allN (2) (fun _=>true)=false:=fun hlt hv=>q0l hlt hv;have fin:¬i< (2)→allN (2) (fun _=>true)=true:=fun h=>q0q fun j hj=>hall j (by omega)
     try dsimp only at bad fin hall
     refine ⟨fun hlt=>⟨⟨by omega,by omega⟩,?_⟩,fun hge=> ?_⟩
     · have hv:=q7y (L.take i);have hv2:256^ (L.take i).length≤256^ 6:=Br (by decide) (by simp;omega)
       have hc:(L.getD i Ty.u8.dflt).toNat<256:=B6 _;have e1:IntKind.i64.wrap ((beN (L.take i):Int)*2^ min 8 64)=((beN (L.take i)*256:Nat):Int):=by
        rw [show ((beN (L.take i):Int)*2^ min 8 64)=((beN (L.take i)*256:Nat):Int) by simp]
        exact wrapi (by omega)
       have e2:IntKind.i64.wrap ((L.getD i Ty.u8.dflt).toNat:Int)=(((L.getD i Ty.u8.dflt).toNat:Nat):Int):=wrapi (by omega)
       have e3:=q9c (beN (L.take i)) (L.getD i Ty.u8.dflt).toNat (by omega) hc
       have e4:=q6v L i (by omega)
       rw [e1,e2];refine ⟨hlt,trivial,⟨[],rfl⟩,?_⟩;with_reducible refine sx1 hwr ?_
       rw [e4];exact congrArg (Value.int .i64) e3
     rw [Ah (by omega:L.length≤i)]
     have hv:=q7y L;rw [hll] at hv;have hv3:beN L<16777216:=by omega
     have w1:IntKind.i64.wrap ((b.length:Int) - (2+ ((2:Nat):Int)))=(b.length:Int) - (2+ ((2:Nat):Int)):=wrapi (by omega)
     have w2:IntKind.i64.wrap (2+ ((2:Nat):Int)+ (beN L:Int))=((2+2+beN L:Nat):Int):=by rw [wrapi (by omega)];omega
     rw [w1,w2];refine ⟨by decide,fun q=> ?_,fun q=>⟨fun q2=> ?_,fun q2=> ?_⟩⟩
     · rw [hmq _ rfl,if_pos (by simp only [minLen];omega)];rfl
     · rw [hmq _ rfl,if_neg (by simp only [minLen];omega)];unfold measE;rw [if_pos (by omega)];rfl
     rw [hmq _ rfl,if_neg (by simp only [minLen];omega)];unfold measE;rw [if_neg (by omega)];rfl
   refine q0Q (fun i=>[(5,rI (beN (L.take i))),(39,.raw (.int .i64 ((i:Nat):Int)))]) (3) (fun j=>(fun _=>true) j=true) (by first|decide|simp) (fun i=>rfl) ?_ fun i hi hall=> ?_
   · (with_reducible refine sxE ?_<;>try exact True.intro)
     all_goals (try rfl)
   have hwr:=wsx i (by omega)
   refine gQ ?_;have bad:i< (3)→(fun _=>true) i=false→allN (3) (fun _=>true)=false:=fun hlt hv=>q0l hlt hv;have fin:¬i< (3)→allN (3) (fun _=>true)=true:=fun h=>q0q fun j hj=>hall j (by omega)
   try dsimp only at bad fin hall
   refine ⟨fun hlt=>⟨⟨by omega,by omega⟩,?_⟩,fun hge=> ?_⟩
   · have hv:=q7y (L.take i);have hv2:256^ (L.take i).length≤256^ 6:=Br (by decide) (by simp;omega)
     have hc:(L.getD i Ty.u8.dflt).toNat<256:=B6 _;have e1:IntKind.i64.wrap ((beN (L.take i):Int)*2^ min 8 64)=((beN (L.take i)*256:Nat):Int):=by
      rw [show ((beN (L.take i):Int)*2^ min 8 64)=((beN (L.take i)*256:Nat):Int) by simp]
      exact wrapi (by omega)
     have e2:IntKind.i64.wrap ((L.getD i Ty.u8.dflt).toNat:Int)=(((L.getD i Ty.u8.dflt).toNat:Nat):Int):=wrapi (by omega)
     have e3:=q9c (beN (L.take i)) (L.getD i Ty.u8.dflt).toNat (by omega) hc
     have e4:=q6v L i (by omega)
     rw [e1,e2];refine ⟨hlt,trivial,⟨[],rfl⟩,?_⟩;with_reducible refine sx1 hwr ?_
     rw [e4];exact congrArg (Value.int .i64) e3
   rw [Ah (by omega:L.length≤i)]
   have hv:=q7y L;rw [hll] at hv;have hv3:beN L<16777216:=by omega
   have w1:IntKind.i64.wrap ((b.length:Int) - (2+ ((3:Nat):Int)))=(b.length:Int) - (2+ ((3:Nat):Int)):=wrapi (by omega)
   have w2:IntKind.i64.wrap (2+ ((3:Nat):Int)+ (beN L:Int))=((2+3+beN L:Nat):Int):=by rw [wrapi (by omega)];omega
   rw [w1,w2];refine ⟨by decide,fun q=> ?_,fun q=>⟨fun q2=> ?_,fun q2=> ?_⟩⟩
   · rw [hmq _ rfl,if_pos (by simp only [minLen];omega)];rfl
   · rw [hmq _ rfl,if_neg (by simp only [minLen];omega)];unfold measE;rw [if_pos (by omega)];rfl
   rw [hmq _ rfl,if_neg (by simp only [minLen];omega)];unfold measE;rw [if_neg (by omega)];rfl
 · have:meas b=(0,0,6):=by unfold meas;rw [hd,if_neg (by omega),if_neg (by omega),if_pos (by omega)]
   rw [this];rfl
 · have:meas b=(0,0,4):=by unfold meas;rw [hd,if_neg (by omega),if_pos (by omega)];unfold measE;rw [if_pos (by omega)]
   rw [this];rfl
 have:meas b=(2,2+x.toNat,0):=by unfold meas;rw [hd,if_neg (by omega),if_pos (by omega)];unfold measE;rw [if_neg (by omega)]
 rw [this];rfl
def byteOf(x:Int):UInt8:=UInt8.ofNat (IntKind.u8.wrap x).toNat
theorem u8wrap(x:Int):0≤IntKind.u8.wrap x∧IntKind.u8.wrap x<256:=by
 have h:IntKind.u8.wrap x=x%256:=by simp [IntKind.wrap,IntKind.bits,IntKind.signed]
 rw [h];omega
theorem q5B(x:Int):((UInt8.ofNat (IntKind.u8.wrap x).toNat).toNat:Int)=IntKind.u8.wrap x:=by
 have:=u8wrap x;rw [BV];omega
theorem j3i(c:UInt8):((UInt8.ofNat c.toNat).toNat:Int)=c.toNat:=by simp
def lenS(n:Nat):List UInt8:=
 if n<128 then [byteOf n] else if n<256 then [129,byteOf n] else if n<65536 then [130,byteOf ((n:Int).fdiv 256),byteOf n] else [131,byteOf ((n:Int).fdiv 65536),byteOf ((n:Int).fdiv 256),byteOf n]
def tlv(tag:UInt8)(c:List UInt8):List UInt8:=tag :: (lenS c.length++c)
def elemS(tag:UInt8)(parts:List (List UInt8)):List UInt8:=if parts.flatten.length≤16777215 then tlv tag parts.flatten else []
def flatN(parts:List (List UInt8))(i:Nat):List UInt8:=(parts.take i).flatten
theorem q5x{parts:List (List UInt8)}{i:Nat}(h:i<parts.length):flatN parts (i+1)=flatN parts i++parts.getD i (Ty.slice .u8).dflt:=by
 unfold flatN;rw [q0Y (d:=(Ty.slice .u8).dflt) h];simp
theorem z0F(parts:List (List UInt8)):flatN parts parts.length=parts.flatten:=by unfold flatN;rw [Az]
theorem q9O(parts:List (List UInt8))(i:Nat):(flatN parts i).length≤parts.flatten.length:=by
 unfold flatN;have:=congrArg List.flatten (Bb i parts);rw [List.flatten_append] at this;rw [←this];simp
def fitAt(parts:List (List UInt8))(j:Nat):Bool:=decide ((flatN parts (j+1)).length≤16777215)

theorem z7T(tag:UInt8)(parts:List (List UInt8))(hp:parts.length≤1125899906842624):PC Tryz.prog 149 [.raw (.int .u8 tag.toNat),.isl (.slice .u8) parts] (.isl .u8 (elemS tag parts)):=by
 refine q0u rfl rfl ?_;refine rQ fi149 ?_;refine q0Q (fun i=>[(5,rI ((flatN parts i).length)),(13,.raw (.int .i64 ((i:Nat):Int)))]) (parts.length) (fun j=>(fitAt parts) j=true) (by first|decide|simp) (fun i=>rfl) ?_ fun i hi hall=> ?_
 · (with_reducible refine sxE ?_<;>try exact True.intro)
   all_goals (try rfl)
 have hwr:=wsx i (by omega)
 refine gQ ?_;have bad:i< (parts.length)→(fitAt parts) i=false→allN (parts.length) (fitAt parts)=false:=fun hlt hv=>q0l hlt hv;have fin:¬i< (parts.length)→allN (parts.length) (fitAt parts)=true:=fun h=>q0q fun j hj=>hall j (by omega)
 try dsimp only at bad fin hall
 have hn:(flatN parts i).length≤16777215:=by
  cases i with
  |zero=>simp [flatN]
  |succ j=>have:=hall j (by omega);simpa [fitAt] using this
 rw [wrapi (n:=16777215- ((flatN parts i).length:Int)) (by omega),wrapi (n:=((flatN parts i).length:Int)+5) (by omega)]
 refine ⟨fun hlt=>⟨⟨by omega,hlt⟩,fun hbig=> ?_,fun hfit=> ?_⟩,fun hge=> ?_⟩
 · have h1:=q9O parts (i+1);rw [q5x hlt,Af] at h1;unfold elemS;rw [if_neg (by omega)]
 · have h2:((flatN parts i).length:Int)+ ((parts.getD i (Ty.slice .u8).dflt).length:Int)=((flatN parts (i+1)).length:Int):=by rw [q5x hlt,Af];rfl
   have h3:(flatN parts (i+1)).length≤16777215:=by omega
   refine ⟨hlt,q0I hall (by simpa [fitAt] using h3),⟨_,rfl⟩,?_⟩
   rw [h2,wrapi (n:=((flatN parts (i+1)).length:Int)) (by omega)]
   with_reducible refine sx1 hwr ?_;trivial
 obtain rfl:i=parts.length:=by omega
 rw [z0F] at*;have he:elemS tag parts=tag :: (lenS parts.flatten.length++flatN parts parts.length):=by unfold elemS tlv;rw [if_pos hn,z0F]
 refine ⟨⟨by omega,by omega,by omega⟩,j3i tag,fun h1=>⟨q5B _,?_⟩,fun h1=>⟨fun h2=>⟨?_,?_⟩,fun h2=>⟨fun h3=>⟨?_,?_⟩,fun h3=>⟨?_,?_⟩⟩⟩⟩
 any_goals (repeat' (first|exact q5B _|exact rfl|with_reducible refine And.intro ?_ ?_))
 have hL:lenS parts.flatten.length= [byteOf parts.flatten.length]:=by unfold lenS;rw [if_pos (by omega)]
 rotate_left
 have hL:lenS parts.flatten.length= [129,byteOf parts.flatten.length]:=by unfold lenS;rw [if_neg (by omega),if_pos (by omega)]
 rotate_left
 have hL:lenS parts.flatten.length= [130,byteOf ((parts.flatten.length:Int).fdiv 256),byteOf parts.flatten.length]:=by unfold lenS;rw [if_neg (by omega),if_neg (by omega),if_pos (by omega)]
 rotate_left
 have hL:lenS parts.flatten.length= [131,byteOf ((parts.flatten.length:Int).fdiv 65536),byteOf ((parts.flatten.length:Int).fdiv 256),byteOf parts.flatten.length]:=by unfold lenS;rw [if_neg (by omega),if_neg (by omega),if_neg (by omega)]
 rotate_left
 all_goals
  refine j1w (H:=[_,_,_,_]) 8 .u8 (fun i=>tag :: (lenS parts.flatten.length++flatN parts i)) (fun i=>[(44,.any),(52,.any),(60,.any),(71,.any),(74,rI i)]) parts.length (fun _=>True) (by rw [hL];simp [flatN,byteOf]) (by simp) rfl (fun i=>rfl) ?_ fun i hi _=> ?_
  · with_reducible refine sx1 hL ?_
    simp [flatN]
  have hwr:=wsx i (by omega)
  have hfl:=q9O parts i;have hll:(lenS parts.flatten.length).length≤4:=by rw [hL];simp
  refine gQ ?_;have e1:(lenS parts.flatten.length++flatN parts i).length=(lenS parts.flatten.length).length+ (flatN parts i).length:=Af;refine ⟨fun hlt=> ?_,fun hge=> ?_⟩
  · have h4:=q9O parts (i+1);have h5:=q5x hlt;rw [h5,Af] at h4;refine ⟨⟨by omega,hlt⟩,⟨by omega,by omega⟩,q2a [.dead] [] hlt trivial (by rw [h5,←List.append_assoc];rfl) ?_⟩
    with_reducible refine sx3 hwr h5 ?_
    exact congrArg (SV.bld 5 .u8) (by omega)
  obtain rfl:i=parts.length:=by omega
  rw [Ah (Ae _)];exact ⟨⟨Ae _,by omega⟩,he.symm⟩
def byteAt(v:Int)(k:Nat):UInt8:=byteOf (v.fdiv (2^ min (8*k) 64))
def numN(v:Int)(size i:Nat):List UInt8:=(List.range size).map fun j=>if size-1-j<i then byteAt v (size-1-j) else 0
def numS(v:Int)(size:Nat):List UInt8:=(List.range size).map fun j=>byteAt v (size-1-j)
theorem z5U(v:Int)(size:Nat):List.replicate size (0:UInt8)=numN v size 0:=by
 apply AP
 · simp [numN]
 intro j h1 h2;simp [numN]
theorem z8G(v:Int)(size:Nat):numN v size size=numS v size:=by
 apply AP
 · simp [numN,numS]
 intro j h1 h2;simp [numN,numS];simp [numN] at h1;intro h;omega
theorem z9X{v:Int}{size i:Nat}(h:i<size):(numN v size i).set (size-1-i) (byteAt v i)=numN v size (i+1):=by
 apply AP
 · simp [numN]
 intro j h1 h2;simp [numN] at h2;simp only [numN,BI,AZ,AU];split
 · rename_i e;have:size-1-j=i:=by omega
   rw [this,if_pos (by omega)]
 rename_i e;by_cases h3:size-1-j<i
 · rw [if_pos h3,if_pos (by omega)]
 rw [if_neg h3,if_neg (by omega)]
theorem z3t(v:Int)(size:Nat)(hs:size≤64):PC Tryz.prog 152 [rI v,rI size] (.isl .u8 (numS v size)):=by
 refine q0u rfl rfl ?_;refine rQ fi152 ?_;refine ⟨by omega,?_⟩
 refine q0y (ι:=Nat) (fun i=>[(11,rI i)]) (fun i=>[.row .u8 (numN v size i)]) (fun i=>size-i) (fun i=>i≤size) 0 (Al _) (by rw [←z5U];rfl) ?_ ?_
 · with_reducible refine sxE ?_;trivial
 intro i hi;have w3:IntKind.i64.wrap (8* (i:Int))=((8*i:Nat):Int):=by rw [wrapi (by omega)];rfl
 have hwr:=wsx i (by omega)
 have hln:(numN v size i).length=size:=by simp [numN]
 by_cases hlt:i<size
 · have w1:IntKind.i64.wrap ((size:Int) -1)=((size-1:Nat):Int):=by rw [wrapi (by omega)];omega
   have w2:IntKind.i64.wrap (((size-1:Nat):Int) - (i:Int))=((size-1-i:Nat):Int):=by rw [wrapi (by omega)];omega
   refine gy4 w1 w2 w3 hln ?_;refine ⟨fun _=>⟨by omega,⟨by omega,by omega⟩,⟨by omega,q5B _⟩,i+1,hlt,by dsimp only;omega,?_,?_⟩,fun h=>absurd hlt h⟩
   · dsimp only;rw [←z9X hlt,Nat.zero_add];rfl
   with_reducible refine sx1 hwr ?_;trivial
 refine uQ 600 _ ?_;with_reducible refine sx1 hln ?_
 refine ⟨fun h=>absurd h hlt,fun _=>⟨⟨by omega,by omega⟩,?_⟩⟩
 obtain rfl:i=size:=by omega
 rw [z8G,Ah (by simp [numS])]
theorem q2y(tag:UInt8)(n:Int)(hn:n=tag.toNat)(parts:List (List UInt8))(hp:parts.length≤1125899906842624):PC Tryz.prog 149 [.raw (.int .u8 n),.isl (.slice .u8) parts] (.isl .u8 (elemS tag parts)):=by
 subst hn;exact z7T tag parts hp

def restN(v:Int):Nat→Int
 |0=>v
 |k+1=>(restN v k).fdiv 256
def firstN(n:Nat)(q:Nat→Bool):Option Nat:=(List.range n).find? q
theorem q1Z{n i:Nat}{q:Nat→Bool}(hi:i<n)(hq:q i=true)(hn:∀j,j<i→q j=false):firstN n q=some i:=by
 unfold firstN;rw [Cj];exact ⟨hq,by simpa using hi,fun j hj=>by rw [hn j hj];rfl⟩
theorem q2x{n:Nat}{q:Nat→Bool}(hn:∀j,j<n→q j=false):firstN n q=none:=by
 unfold firstN;rw [List.find?_range_eq_none];exact fun j hj=>by rw [hn j hj];rfl
theorem q3p{n i:Nat}{q:Nat→Bool}(h:firstN n q=some i):i<n∧q i=true∧∀j,j<i→q j=false:=by
 unfold firstN at h;rw [Cj] at h;exact ⟨by simpa using h.2.1,h.1,fun j hj=>by simpa using h.2.2 j hj⟩
def oneB(v:Int)(k:Nat):Bool:=decide (-128≤restN v k) && decide (restN v k≤127)
def intSz(v:Int):Nat:=1+ (firstN 9 (oneB v)).getD 0
def intS(v:Int):List UInt8:=if -4611686018427387904≤v∧v≤4611686018427387904 then elemS 2 [numS v (intSz v)] else []
theorem fdiv256(r:Int):r.fdiv 256=r / 256:=A6 r (by decide)
theorem rest8{v:Int}(h1: -4611686018427387904≤v)(h2:v≤4611686018427387904):oneB v 8=true:=by
 simp only [oneB,restN,fdiv256,Aj,decide_eq_true_eq];omega
theorem q3M(v:Int):PC Tryz.prog 93 [rI v] (.isl .u8 (intS v)):=by
 refine q0u rfl rfl ?_;refine rQ fi93 ?_<;>try with_reducible exact True.intro
 repeat' (first
  | (with_reducible refine And.intro ?_ ?_)
  | (with_reducible intro _))
 all_goals (skip)
 · unfold intS;rw [if_neg (by omega)]
 rotate_left
 · unfold intS;rw [if_neg (by omega)]
 rename_i h1 h2;have h8:=rest8 (v:=v) (by omega) (by omega)
 refine q0y (ι:=Nat) (fun k=>[(3,rI ((1+k:Nat):Int)),(4,rI (restN v k))]) (fun _=>[]) (fun k=>9-k) (fun k=>k≤8∧∀j,j<k→oneB v j=false) 0 ⟨by omega,fun j hj=>absurd hj (by omega)⟩ rfl ?_ ?_
 · simp (maxSteps:=3000000) only [restN,go_sem,↓zA,↓reduceIte,↓reduceDIte] <;>try simp only [zB]
   rfl
 rintro k ⟨hk,hall⟩;have hwr:IntKind.i64.wrap (((1+k:Nat):Int)+1)=((1+ (k+1):Nat):Int):=by rw [wrapi (by omega)];omega
 refine gy1 hwr ?_;have hp:(2:Int) ^ min 8 64=256:=by decide
 refine ⟨fun h3=>⟨fun h4=> ?_,fun h4=> ?_⟩,fun h3=> ?_⟩
 · have ho:oneB v k=false:=by simp [oneB];omega
   have hk8:k≠8:=fun e=>by subst e;rw [h8] at ho;cases ho
   refine ⟨k+1,⟨by omega,q0I hall ho⟩,by dsimp only;omega,rfl,?_⟩
   simp (maxSteps:=3000000) only [restN,hp,go_sem,↓zA,↓reduceIte,↓reduceDIte] <;>try simp only [zB]
 · have ho:oneB v k=true:=by simp [oneB];omega
   have hz:intSz v=1+k:=by unfold intSz;rw [q1Z (by omega) ho hall];rfl
   refine cQ (z3t v (1+k) (by omega)) ?_
   refine q0A 0 ?_;with_reducible refine sxE ?_
   refine cQ (q2y 2 2 rfl _ (by simp)) ?_
   unfold intS;rw [if_pos (by omega),hz]
 have ho:oneB v k=false:=by simp [oneB];omega
 have hk8:k≠8:=fun e=>by subst e;rw [h8] at ho;cases ho
 refine ⟨k+1,⟨by omega,q0I hall ho⟩,by dsimp only;omega,rfl,?_⟩
 simp (maxSteps:=3000000) only [restN,hp,go_sem,↓zA,↓reduceIte,↓reduceDIte] <;>try simp only [zB]
theorem z9S(b:List UInt8):PC Tryz.prog 202 [.isl .u8 b] (.isl .u8 (elemS 4 [b])):=by
 refine q0u rfl rfl ?_;refine rQ fi202 ?_;refine q0A 0 ?_;with_reducible refine sxE ?_
 refine cQ (q2y 4 4 rfl _ (by simp)) ?_;trivial
def timeS(t:Int):List UInt8:=if 0≤t∧t≤1099511627776 then elemS 24 [numS t 6] else []
theorem j3J(t:Int):PC Tryz.prog 92 [rI t] (.isl .u8 (timeS t)):=by
 refine q0u rfl rfl ?_;refine rQ fi92 ?_;refine ⟨fun h1=>⟨fun h2=> ?_,fun h2=> ?_⟩,fun h1=> ?_⟩
 · unfold timeS;rw [if_neg (by omega)]
 · refine q0a (z3t t 6 (by omega)) ?_
   refine gQ ?_;refine q0A 0 ?_;with_reducible refine sxE ?_
   refine cQ (q2y 24 24 rfl _ (by simp)) ?_
   unfold timeS;rw [if_pos (by omega)]
 unfold timeS;rw [if_neg (by omega)]
theorem q1Y(l:List (List UInt8))(hl:l.length≤1125899906842624):PC Tryz.prog 89 [.isl (.slice .u8) l] (.isl .u8 (elemS 48 l)):=by
 refine q0u rfl rfl ?_;refine rQ fi89 ?_;refine cQ (q2y 48 48 rfl _ hl) ?_;trivial
def wrapS(tag n:Int)(b:List UInt8):List UInt8:=if 0≤n∧n≤30∧b≠ [] then elemS (byteOf (tag+n)) [b] else []
theorem z7G(tag n:Int)(b:List UInt8)(ht:0≤tag∧tag≤1000):PC Tryz.prog 150 [rI tag,rI n,.isl .u8 b] (.isl .u8 (wrapS tag n b)):=by
 refine q0u rfl rfl ?_;refine rQ fi150 ?_;refine ⟨fun h1=>⟨fun h2=>⟨fun h3=> ?_,fun h3=> ?_⟩,fun h2=> ?_⟩,fun h1=> ?_⟩
 · unfold wrapS;rw [if_neg (fun h=>h.2.2 (Bi.1 (by omega)))]
 · refine q0A 0 ?_;with_reducible refine sxE ?_
   refine q0a (q2y (byteOf (tag+n)) _ ?_ _ (by simp)) ?_
   · rw [wrapi (by omega)];exact (q5B _).symm
   refine gQ ?_;unfold wrapS;rw [if_pos ⟨by omega,by omega,fun e=>h3 (by rw [e];rfl)⟩]
 · unfold wrapS;rw [if_neg (by omega)]
 unfold wrapS;rw [if_neg (by omega)]
theorem q1K(n:Int)(b:List UInt8):PC Tryz.prog 90 [rI n,.isl .u8 b] (.isl .u8 (wrapS 160 n b)):=by
 refine q0u rfl rfl ?_;refine rQ fi90 ?_;refine cQ (z7G 160 n b (by omega)) ?_;trivial
theorem z0w(s:ByteArray)(hs:s.size≤140737488355328):PC Tryz.prog 200 [rS s] (.isl .u8 (elemS 27 [s.data.toList])):=by
 refine q0u rfl rfl ?_;refine q4s fi200 (q0r mixed 8 _ ?_);simp (maxSteps:=3000000) only [ir200,go_sem,↓zA,↓reduceIte,↓reduceDIte] <;>try simp only [zB]
 have hl:(bytesOf s).length=s.size:=by simp [bytesOf]
 refine q1i 0 rfl rfl (by omega) ?_ ?_ ?_
 · with_reducible refine sxE ?_;trivial
 · with_reducible refine sxE ?_
   omega
 with_reducible refine sxE ?_
 refine gQ ?_;refine q0A 1 ?_;with_reducible refine sxE ?_
 rw [Ah (by omega)]
 refine cQ (q2y 27 27 rfl _ (by simp)) ?_
 rfl
def fullAt(l:List (List UInt8))(j:Nat):Bool:=decide (l.getD j (Ty.slice .u8).dflt≠ [])
def wholeS(l:List (List UInt8)):List UInt8:=if allN l.length (fullAt l) then elemS 48 l else []
theorem j0Q(l:List (List UInt8))(hl:l.length≤1125899906842624):PC Tryz.prog 232 [.isl (.slice .u8) l] (.isl .u8 (wholeS l)):=by
 refine q0u rfl rfl ?_;refine rQ fi232 ?_;refine q0Q (fun i=>[(7,.raw (.int .i64 ((i:Nat):Int)))]) (l.length) (fun j=>(fullAt l) j=true) (by first|decide|simp) (fun i=>rfl) ?_ fun i hi hall=> ?_
 · (with_reducible refine sxE ?_<;>try exact True.intro)
   all_goals (try rfl)
 have hwr:=wsx i (by omega)
 refine gQ ?_;have bad:i< (l.length)→(fullAt l) i=false→allN (l.length) (fullAt l)=false:=fun hlt hv=>q0l hlt hv;have fin:¬i< (l.length)→allN (l.length) (fullAt l)=true:=fun h=>q0q fun j hj=>hall j (by omega)
 try dsimp only at bad fin hall
 refine ⟨fun hlt=>⟨⟨by omega,hlt⟩,fun h0=> ?_,fun h0=> ?_⟩,fun hge=>q0a (q1Y l hl) ?_⟩
 · have:fullAt l i=false:=by simp only [fullAt,decide_eq_false_iff_not,ne_eq,Classical.not_not];exact Bi.1 (by omega)
   unfold wholeS;rw [bad hlt this];rfl
 · refine ⟨hlt,q0I hall ?_,⟨_,rfl⟩,?_⟩
   · simp only [fullAt,decide_eq_true_eq];exact fun e=>h0 (by rw [e];rfl)
   with_reducible refine sx1 hwr ?_;trivial
 refine gQ ?_;unfold wholeS;rw [fin hge];rfl
def tagN(l:List (List UInt8))(i:Nat):List (List UInt8):=(List.range i).map fun (j:Nat)=>wrapS 160 j (l.getD j (Ty.slice .u8).dflt)
theorem z5O(l:List (List UInt8))(i:Nat):tagN l (i+1)=tagN l i++ [wrapS 160 i (l.getD i (Ty.slice .u8).dflt)]:=by simp [tagN,List.range_succ]
def fieldsS(l:List (List UInt8)):List UInt8:=wholeS (tagN l l.length)
theorem z9c(l:List (List UInt8))(hl:l.length≤1048576):PC Tryz.prog 201 [.isl (.slice .u8) l] (.isl .u8 (fieldsS l)):=by
 refine q0u rfl rfl ?_;refine rQ fi201 ?_;refine q3o 3 (.slice .u8) (fun i=>tagN l i) (fun i=>[(8,rI i)]) l.length (fun _=>True) rfl (by simp) (by simp [tagN]) rfl (fun i=>rfl) ?_ fun i hi _=> ?_
 · with_reducible refine sxE ?_;trivial
 have hwr:=wsx i (by omega)
 have hln:(tagN l i).length=i:=by simp [tagN]
 have hst:=z5O l i;refine gQ ?_;refine ⟨fun hlt=>⟨⟨by omega,hlt⟩,q0a (q1K _ _) ?_⟩,fun hge=> ?_⟩
 · refine gQ ?_;refine ⟨⟨by omega,by omega⟩,q2a [_,_] [] hlt trivial (by rw [hst];rfl) ?_⟩
   with_reducible refine sx3 hwr hst ?_;trivial
 obtain rfl:i=l.length:=by omega
 refine q0A 0 ?_;with_reducible refine sxE ?_
 refine ⟨by omega,?_⟩
 rw [Ah (by omega)]
 refine ⟨Ae _,q0a (j0Q (tagN l l.length) (by omega)) ?_⟩
 refine gQ ?_;rfl
def keyS(k:Key):List UInt8:=fieldsS [intS k.1,intS k.2.1,elemS 4 [k.2.2]]
theorem z9r(p v:Int)(b:List UInt8):PC Tryz.prog 153 [rI p,rI v,.isl .u8 b] (.isl .u8 (keyS (p,v,b))):=by
 refine q0u rfl rfl ?_;refine rQ fi153 ?_;refine cQ (q3M p) ?_;refine cQ (q3M v) ?_;refine cQ (z9S b) ?_;refine q0A 0 ?_;with_reducible refine sxE ?_
 refine cQ (z9c _ (by simp)) ?_
 rfl
def dec:Bool→List UInt8→List UInt8→List (List UInt8)
 |_,cur,[]=>[cur]
 |true,cur,c :: r=>dec false (cur++ [c]) r
 |false,cur,c :: r=>if c=92 then dec true cur r else if c=47 then cur :: dec false [] r else dec false (cur++ [c]) r
def rlmR:Bool→List UInt8→Bool
 |prev,[]=> !prev
 |prev,c :: cs=>if c==46 then !prev&& rlmR true cs else realmChar c&& rlmR false cs
def labL(l:List UInt8):Bool:=decide (0<l.length) && l.all realmChar
theorem z1r:∀ (cs cur:List UInt8),(splitGo cur cs).all labL=(cur.all realmChar&& rlmR cur.isEmpty cs)
 | [],cur=>by cases cur<;>simp [splitGo,labL,rlmR,Bool.and_comm]
 |c :: cs,cur=>by
  rw [splitGo,rlmR];split
  · have:=z1r cs [];simp only [Bt,this,Cs,List.isEmpty_nil,AE];cases cur<;>simp [labL,Bool.and_comm,Bool.and_left_comm]
  have:=z1r cs (c :: cur);rw [this,Bt,List.isEmpty_cons];cases realmChar c<;>simp
def rlmAt(prev:Bool)(l:List UInt8)(j:Nat):Bool:=
 if l.getD j 0=46 then decide (j+1<l.length) && (if j=0 then !prev else decide (l.getD (j-1) 0≠46)) else realmChar (l.getD j 0)
theorem z6x:∀ (l:List UInt8) (prev:Bool),l≠ []→rlmR prev l=allN l.length (rlmAt prev l)
 | [],_,h=>absurd rfl h
 | [c],prev,_=>by
  simp only [rlmR,allN,Bo,List.range_one,Bt,Cs,BA,rlmAt];by_cases h:c=46<;>simp [h]
 |c :: d :: l,prev,_=>by
  have ih:=z6x (d :: l) (c==46) (by simp)
  have hs:∀j,rlmAt prev (c :: d :: l) (j+1)=rlmAt (c==46) (d :: l) j:=fun j=>by
   unfold rlmAt;simp only [BR,AB,BK];cases j with
   |zero=>
    by_cases h:c=46
    · simp [h]
    have:(c==46)=false:=by simpa using h
    simp [h,this]
   |succ j=>simp
  have ha:allN (c :: d :: l).length (rlmAt prev (c :: d :: l))=(rlmAt prev (c :: d :: l) 0&& allN (d :: l).length (rlmAt (c==46) (d :: l))):=by
   rw [BF,Aj,q2e,q2e];constructor
   · intro h;exact ⟨h 0 (by simp),fun j hj=>by rw [←hs];exact h (j+1) (by simp at hj⊢;omega)⟩
   rintro ⟨h0,h⟩ j hj;cases j with
   |zero=>exact h0
   |succ j=>rw [hs];exact h j (by simp at hj⊢;omega)
  rw [ha,←ih,rlmR];by_cases h:c=46
  · subst h;simp [rlmAt]
  have:(c==46)=false:=by simpa using h
  simp [rlmAt,h,this]
theorem z0S(s:ByteArray):realmB s=(szB s&& allN s.size (rlmAt true s.data.toList)):=by
 have h1:sizedB s=szB s:=by
  unfold sizedB szB;rw [BF];simp;omega
 have h2:(splitB s).all labelB=(splitDot s.data.toList).all labL:=by
  unfold splitB;rw [List.all_map];congr 1
 rw [realmB,h1,h2,splitDot,z1r,Cs,List.isEmpty_nil,AE];by_cases h:s.data.toList= []
 · have:s.size=0:=by
    have:=congrArg List.length h;simpa using this
   simp [szB,this]
 rw [z6x _ _ h];first|rfl|simp
theorem j3d{c:UInt8}{n:Nat}(hn:n<256):c=UInt8.ofNat n ↔ (c.toNat:Int)=n:=by
 have h:(UInt8.ofNat n).toNat=n:=by rw [BV];omega
 rw [←BY,h];omega
theorem q8S(c:UInt8):realmChar c=true ↔ (c.toNat:Int)=45∨(65≤(c.toNat:Int)∧(c.toNat:Int)≤90)∨(48≤(c.toNat:Int)∧(c.toNat:Int)≤57):=by
 have h:=j3d (c:=c) (n:=45) (by decide)
 simp only [realmChar,BW,Aj,decide_eq_true_eq,beq_iff_eq];have h':c=45 ↔ (c.toNat:Int)=45:=h;rw [h'];omega
theorem j2i{s:ByteArray}{i:Nat}(hlt:i<s.size):rlmAt true s.data.toList i=true ↔
 (if ((s.data.toList.getD i 0).toNat:Int)=46 then (i:Int)≠0∧(i:Int)≠((s.size-1:Nat):Int)∧((s.data.toList.getD (i-1) 0).toNat:Int)≠46 else ((s.data.toList.getD i 0).toNat:Int)=45∨(65≤((s.data.toList.getD i 0).toNat:Int)∧((s.data.toList.getD i 0).toNat:Int)≤90)∨(48≤((s.data.toList.getD i 0).toNat:Int)∧((s.data.toList.getD i 0).toNat:Int)≤57)):=by
 have hl:s.data.toList.length=s.size:=by simp
 have h46:∀c:UInt8,c=46 ↔ (c.toNat:Int)=46:=fun c=>j3d (c:=c) (n:=46) (by decide)
 unfold rlmAt;rw [←q8S,hl];by_cases hc:s.data.toList.getD i 0=46
 · rw [if_pos hc,if_pos ((h46 _).1 hc),Aj,decide_eq_true_eq];by_cases h0:i=0
   · simp [h0]
   rw [if_neg h0,decide_eq_true_eq,ne_eq,h46];omega
 rw [if_neg hc,if_neg (fun h=>hc ((h46 _).2 h))]
theorem rbad{s:ByteArray}{i:Nat}(hlt:i<s.size)(h:¬rlmAt true s.data.toList i=true):false=(szB s&& allN s.size (rlmAt true s.data.toList)):=by
 rw [q0l hlt (by simpa using h)];simp
theorem q9L(s:ByteArray)(hs:s.size≤140737488355328):PC Tryz.prog 123 [rS s] (rB (realmB s)):=by
 refine q0w rfl rfl ?_;rw [z0S];refine rQ fi123 ?_;refine q5Y 3 s.size (fun j=>rlmAt true s.data.toList j=true) ?_ fun i hi hall=> ?_
 · with_reducible refine sxE ?_;trivial
 have e1:IntKind.i64.wrap ((s.size:Int) -1)=(s.size:Int) -1:=by rw [wrapi (by omega)]
 refine gQ ?_;refine ⟨fun hlt=> ?_,fun hge=> ?_⟩
 · have e3:((s.size-1:Nat):Int)=(s.size:Int) -1:=by omega
   have hri:=j2i hlt;rw [e1];rcases Nat.eq_zero_or_pos i with hz|hpos
   · have e2:∀k:Nat,IntKind.i64.wrap ((i:Int) -1)=k→i=0:=fun _ _=>hz;repeat' (first|apply And.intro|intro _)
     all_goals first|omega| (refine rbad hlt ?_;rw [hri];split<;>omega) |refine q3W hlt hall (by rw [hri];split<;>omega) ?_
     all_goals (with_reducible refine sxE ?_<;>try exact True.intro)
     all_goals first|rw [q1L (by omega)] |rfl
   have e2:IntKind.i64.wrap ((i:Int) -1)=((i-1:Nat):Int):=by rw [wrapi (by omega)];omega
   rw [e2];simp only [BP];repeat' (first|apply And.intro|intro _)
   all_goals first|omega| (refine rbad hlt ?_;rw [hri];split<;>omega) |refine q3W hlt hall (by rw [hri];split<;>omega) ?_
   all_goals (with_reducible refine sxE ?_<;>try exact True.intro)
   all_goals first|rw [q1L (by omega)] |rfl
 rw [q0q fun j hj=>hall j (by omega),BA,szB]
 refine ⟨fun h=> ?_,fun h=> ?_⟩ <;>simp [h]
theorem z7Q(s:ByteArray)(hs:s.size≤140737488355328):PC Tryz.prog 122 [rS s] (rB (visB s)):=by
 refine q0w rfl rfl ?_;refine rQ fi122 ?_;refine q5Y 3 s.size (fun j=>visC (s.data.toList.getD j 0)=true) ?_ fun i hi hall=> ?_
 · with_reducible refine sxE ?_;trivial
 refine gQ ?_;refine ⟨fun hlt=>⟨⟨by omega,hlt⟩,fun h33=>⟨⟨by omega,hlt⟩,fun h126=> ?_,fun h126=>q3W hlt hall ?_ ?_⟩,fun h33=> ?_⟩,fun hge=> ?_⟩
 · rw [show visB s=false from q0l hlt (z5Z h126)]
 · exact z7N h33 h126
 · with_reducible refine sxE ?_
   rw [q1L (by omega)]
 · rw [show visB s=false from q0l hlt (z5e h33)]
 rw [show visB s=true from q0q fun j hj=>hall j (by omega)]
theorem q5S(p:Int):kindOf p=kind1∨kindOf p=kind2∨kindOf p=kindZ:=by
 unfold kindOf;split
 · exact .inl rfl
 split
 · exact .inr (.inl rfl)
 exact .inr (.inr rfl)
theorem q6y(k:Key):PC Tryz.prog 43 [.agg (KeyT.cells k)] (rB (vKey k)):=by
 refine q0w rfl rfl ?_;refine rQ fi43 ?_;refine q0a (j0B k) ?_;rcases q5S k.1 with h|h|h
 · rw [h];refine gQ ?_;trivial
 · rw [h];refine gQ ?_;trivial
 rw [h];refine gQ ?_;trivial
theorem q9J(l:List UInt8)(hl:l.length≤140737488355328):PC Tryz.prog 160 [.isl .u8 l] (.isl .u8 l):=by
 refine q0u rfl rfl ?_;refine rQ fi160 ?_;intro b hb;refine ⟨hb,fun h=>⟨⟨by omega,by omega⟩,⟨by omega,by omega⟩,Ah (by omega)⟩⟩
end Go.Proofs.YtmapiojgmbgbgaaGreatDoor
