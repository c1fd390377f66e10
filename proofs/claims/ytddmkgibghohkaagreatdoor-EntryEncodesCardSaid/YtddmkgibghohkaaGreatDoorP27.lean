/- Contracts: reading a key, with the recovery. -/
import Derived.Test.YtddmkgibghohkaaGreatDoorP25
import Derived.Test.YtddmkgibghohkaaGreatDoorPPe4
import Derived.Test.YtddmkgibghohkaaGreatDoorP23
import Derived.Test.YtddmkgibghohkaaGreatDoorPRv
set_option linter.unusedSimpArgs false
set_option linter.unusedVariables false
namespace Go.Proofs.YtddmkgibghohkaaGreatDoor
open Go Go.Sx Go.Proofs
set_option maxRecDepth 100000
set_option maxHeartbeats 4000000
set_option linter.unusedSimpArgs false

def ErrP {α : Type} (p : PR α) : Prop := ∀ r e, p r = .error e → e ≠ 0
theorem errP_rd {α : Type} {tag : UInt8} {dec : List UInt8 → Option α} : ErrP (rdP tag dec) := fun _ _ h => rdP_ne h
theorem errP_in {α : Type} {tag : UInt8} {p : PR α} (hp : ErrP p) : ErrP (inP tag p) := fun r e h => by
 rcases inP_cases (tag := tag) (p := p) (r := r) with ⟨h1, e'⟩ | ⟨_, e1, h2, e'⟩ | ⟨_, _, _, _, _, e'⟩ | ⟨_, _, _, _, _, e'⟩ <;> rw [e'] at h <;> cases h
 · exact h1
 · exact hp _ _ h2
 · decide
theorem errP_need {α : Type} {n : Nat} {p : PR α} (hp : ErrP p) : ErrP (needP n p) := fun r e h => by
 cases hb : nextB n r with
 | false =>
  rw [needP_no hb] at h
  split at h <;> cases h <;> decide
 | true => rw [needP_in hb] at h; exact errP_in hp r e h
theorem errP_bind {α β : Type} {p : PR α} {f : α → PR β} (hp : ErrP p) (hf : ∀ v, ErrP (f v)) : ErrP (bindP p f) := fun r e h => by
 unfold bindP at h
 cases h1 : p r with
 | error e1 => rw [h1] at h; cases h; exact hp r _ h1
 | ok y =>
  obtain ⟨u, k⟩ := y
  rw [h1] at h
  simp only at h
  cases h2 : f u (r.drop k) with
  | error e2 => rw [h2] at h; cases h; exact hf u _ _ h2
  | ok z => obtain ⟨w, l⟩ := z; rw [h2] at h; cases h
theorem errP_ret {α : Type} {v : α} : ErrP (retP v) := fun _ _ h => by cases h
theorem keyP_ne : ErrP keyP := errP_in (errP_bind (errP_need errP_rd) fun _ => errP_bind (errP_need errP_rd) fun _ => errP_bind (errP_need errP_rd) fun _ => errP_ret)
def EffR (P : Program) {α : Type} (f : FuncId) (args : List SV) (b : List UInt8) (n : Nat) (res : α → SV) (z : SV) : Except Nat (α × Nat) → Prop
 | .ok (v, k) => PE P f args [rdr b n] (.ret (.tup [res v, rI 0])) [rdr b (n + k)]
 | .error e => PE P f args [rdr b n] (.ret (.tup [z, rI e])) [rdr b n]
theorem effR_ok {P : Program} {α : Type} {f : FuncId} {args : List SV} {b : List UInt8} {n : Nat} {res : α → SV} {z : SV} {x : Except Nat (α × Nat)} {v : α} {k : Nat} (h : EffR P f args b n res z x) (hx : x = .ok (v, k)) : PE P f args [rdr b n] (.ret (.tup [res v, rI 0])) [rdr b (n + k)] := by rw [hx] at h; exact h
theorem effR_er {P : Program} {α : Type} {f : FuncId} {args : List SV} {b : List UInt8} {n : Nat} {res : α → SV} {z : SV} {x : Except Nat (α × Nat)} {e : Nat} (h : EffR P f args b n res z x) (hx : x = .error e) : PE P f args [rdr b n] (.ret (.tup [z, rI e])) [rdr b n] := by rw [hx] at h; exact h
abbrev zKey : SV := .agg [rI 0, rI 0, .isl .u8 []]
theorem dpanK_c (b : List UInt8) (n m e : Nat) (T2 T4 T5 T6 : TypeId) (y : Value) (K : List SObj → Prop)
 (h : ∀ G, K ([rdr b n, .cells T2 [.ptr 0 0], .cells T4 [rI 0, rI 0, .raw (.slice none 0 0)], .cells T5 [rI e], .cells T6 [rI n]] ++ G)) :
 DCall Tryz.prog 300 [.ptr 4 0, .ptr 1 0, .ptr 2 0, .ptr 3 0] (some (errV e)) [rdr b m, .cells T2 [.ptr 0 0], .cells T4 [rI 0, rI 0, .raw (.slice none 0 0)], .cells T5 [.raw y], .cells T6 [rI n]] K := by
 refine dc_ri fi300 ?_
 refine run_sound mixed 16 _ ?_
 with_reducible refine sxE ?_
 refine si_drw [1, 4, 5, 999999] mixed ?_
 refine run_sound mixed 600 _ ?_
 simp (maxSteps := 3000000) only [List.getElem?_nil, go_sem, ↓zA, ↓reduceIte, ↓reduceDIte, reduceCtorEq, Nat.reduceAdd, Nat.reduceSub, Nat.reduceLeDiff, Nat.reduceLT, Nat.reduceEqDiff, Nat.reduceBEq, Nat.reduceMul, Int.reduceToNat, Int.reduceEq, Int.reduceLT, Int.reduceLE] <;> try simp only [zB]
 exact h _
theorem dretK_c (H : List SObj) (K : List SObj → Prop) (h : ∀ G, K (H ++ G)) : DCall Tryz.prog 300 [.ptr 4 0, .ptr 1 0, .ptr 2 0, .ptr 3 0] none H K := by
 refine recE mixed fi300 ?_
 simpa using h []
theorem skey_c (b : List UInt8) (n : Nat) (hn : n ≤ b.length) (hb : b.length ≤ 1099511627776) :
 EffR Tryz.prog 281 [.ptr 0 0, .fn 282 [] []] b n (fun v : Key => .agg (KeyT.cells v)) zKey (keyP (b.drop n)) := by
 have hk := key1_c b n hn hb
 generalize keyP (b.drop n) = X at *
 cases X with
 | error e =>
  have hk' := effZ_er hk rfl
  refine pe_seal (by simp) ?_
  refine defE mixed fi281 ?_
  refine goE mixed ?_
  refine effP [0] (hk') ?_
  refine ⟨by simp, dpanK_c b n _ e _ _ _ _ _ _ fun G => ?_⟩
  with_reducible refine sxE ?_; trivial
 | ok x =>
  obtain ⟨v, k⟩ := x
  have hk' := effZ_ok hk rfl
  refine pe_seal (by simp) ?_
  refine defE mixed fi281 ?_
  refine goE mixed ?_
  refine effE mixed [0] (hk') ?_
  refine dretK_c _ _ fun G => ?_
  with_reducible refine sxE ?_; trivial
theorem drkey_c (b : List UInt8) (n : Nat) (hn : n ≤ b.length) (hb : b.length ≤ 1099511627776) :
 EffR Tryz.prog 266 [.ptr 0 0] b n (fun v : Key => .agg (KeyT.cells v)) zKey (keyP (b.drop n)) := by
 have hk := skey_c b n hn hb
 generalize keyP (b.drop n) = X at *
 cases X with
 | error e =>
  have hk' := effR_er hk rfl
  refine pe_seal (by simp) ?_
  refine runE mixed fi266 ?_
  refine effE mixed [0] (hk') ?_; trivial
 | ok x =>
  obtain ⟨v, k⟩ := x
  have hk' := effR_ok hk rfl
  refine pe_seal (by simp) ?_
  refine runE mixed fi266 ?_
  refine effE mixed [0] (hk') ?_; trivial
theorem take_key (v : Key) : PC Tryz.prog 265 [.agg (KeyT.cells v), rI 0] (.agg (KeyT.cells v)) := by
 refine pc_seal rfl rfl ?_
 refine runE mixed fi265 ?_
 refine callI_require (fun _ => ?_) fun h => absurd h (by decide)
 refine goE mixed ?_; trivial
theorem take_er_key (e : Nat) (he : e ≠ 0) : PE Tryz.prog 265 [zKey, rI e] [] (.pan wrongV) [] := by
 refine pe_seal (by simp) ?_
 refine runE mixed fi265 ?_
 refine callI_require (fun h => absurd h (by simp; omega)) fun _ => ?_
 with_reducible refine sxE ?_; trivial
theorem ekey_c (b : List UInt8) (n : Nat) (hn : n ≤ b.length) (hb : b.length ≤ 1099511627776) :
 Eff Tryz.prog 230 [.agg [.ptr 0 0]] b n [] (fun v : Key => .agg (KeyT.cells v)) (fun _ => []) (keyP (b.drop n)) := by
 have hr := drkey_c b n hn hb
 cases hx : keyP (b.drop n) with
 | error e =>
  have hr' := effR_er hr hx
  refine pe_seal (by simp) ?_
  refine runE mixed fi230 ?_
  refine effE mixed [0] (hr') ?_
  refine effP [] (take_er_key e (keyP_ne _ _ hx)) ?_; trivial
 | ok x =>
  obtain ⟨v, k⟩ := x
  have hr' := effR_ok hr hx
  refine pe_seal (by simp) ?_
  refine runE mixed fi230 ?_
  refine effE mixed [0] (hr') ?_
  refine callI_pure (take_key _) ?_
  refine goE mixed ?_; trivial
end Go.Proofs.YtddmkgibghohkaaGreatDoor
/- The plain law of reading: what is read can be held. -/
namespace Go.Proofs.YtddmkgibghohkaaGreatDoor
open Go Go.Sx Go.Proofs
set_option maxRecDepth 100000
set_option maxHeartbeats 4000000
set_option linter.unusedSimpArgs false

theorem okP_mono {α : Type} {p : PR α} {Q Q' : α → Prop} (h : OkP p Q) (hq : ∀ v, Q v → Q' v) : OkP p Q' := fun r v m hr hx => hq v (h r v m hr hx)
theorem okP_chk {p : PR Prin} {Q : Prin → Prop} (hq : ∀ v, vPrin v = true → Q v) : OkP (fun r => chkP vPrin (p r)) Q := fun r v m _ hx => by
 have hx : chkP vPrin (p r) = .ok (v, m) := hx
 cases hp : p r with
 | error e => rw [hp] at hx; cases hx
 | ok y =>
  obtain ⟨u, k⟩ := y
  rw [hp] at hx
  simp only [chkP] at hx
  split at hx
  · cases hx; exact hq _ (by assumption)
  · cases hx
theorem prin_ok {p : Prin} (h : vPrin p = true) : PrinT.ok p := by
 obtain ⟨h1, h2, h3⟩ := vPrin_sz h
 exact ⟨⟨by omega, fun x hx => by have := h2 x hx; show x.size ≤ _; omega⟩, by show p.2.size ≤ _; omega⟩
theorem okP_name : OkP nameP PrinT.ok := okP_chk fun _ h => prin_ok h
theorem okP_oct : OkP octP (Ty.slice .u8).ok := okP_rd fun c v hc hd => by
 unfold decOct at hd; cases hd
 exact ⟨by show c.length ≤ _; omega, fun _ _ => trivial⟩
theorem okP_strn : OkP strP (Ty.str).ok := okP_mono okP_str fun v h => by show v.size ≤ _; omega
theorem okP_l {t : Ty} {p : PR t.den} (n : Nat) (hn : n ≤ 1000) (h : OkP p t.ok) : OkP (inP 48 (listP p n)) (Ty.slice t).ok := okP_in (okP_mono (okP_list h n) fun v hv => ⟨by have := hv.1; omega, hv.2⟩)
theorem nil_ok {t : Ty} : (Ty.slice t).ok ([] : List t.den) := ⟨by simp, by simp⟩
theorem okP_bits : OkP bitsP fun n => n ≤ 4294967295 := okP_rd fun c v _ hd => by
 unfold decBits at hd
 split at hd
 · rename_i h
   cases hd
   have := beN_lt (c.drop 1)
   rw [List.length_drop, h.1] at this
   have e : 256 ^ (5 - 1) = 4294967296 := by decide
   omega
 · cases hd
theorem okP_key : OkP keyP KeyT.ok := okP_in (okP_bind (Q1 := fun _ => True) okP_true fun _ _ => okP_bind (Q1 := fun _ => True) okP_true fun _ _ => okP_bind (okP_need okP_oct) fun _ hc => okP_ret ⟨trivial, trivial, hc⟩)
theorem estr_ok : (Ty.str).ok (⟨#[]⟩ : ByteArray) := by show (⟨#[]⟩ : ByteArray).size ≤ _; exact Nat.zero_le _
theorem okP_set : OkP setP SetT.ok := okP_in (okP_bind (Q1 := fun _ => True) okP_true fun _ _ => okP_bind (okP_dflt nil_ok (okP_l (t := KeyT) 4 (by omega) okP_key)) fun _ hk => okP_bind (okP_dflt estr_ok okP_strn) fun _ ht => okP_bind (Q1 := fun _ => True) okP_true fun _ _ => okP_bind (Q1 := fun _ => True) okP_true fun _ _ => okP_ret ⟨trivial, hk, ht, trivial, trivial⟩)
theorem okP_nms : OkP nmsP (Ty.slice PrinT).ok := okP_l (t := PrinT) 16 (by omega) okP_name
theorem okP_sts : OkP stsP (Ty.slice SetT).ok := okP_l (t := SetT) 16 (by omega) okP_set
theorem okP_his : OkP hisP (Ty.slice (Ty.slice .u8)).ok := okP_l (t := Ty.slice .u8) 16 (by omega) okP_oct
theorem okP_ent : OkP entP fun e => EntT.ok e ∧ attrOk e :=
 okP_in (okP_bind (okP_need okP_name) fun _ h0 => okP_bind (okP_dflt nil_ok okP_nms) fun _ h1 => okP_bind (okP_need okP_bits) fun _ h2 => okP_bind (Q1 := fun _ => True) okP_true fun _ _ => okP_bind (okP_dflt nil_ok okP_sts) fun _ h4 => okP_bind (okP_dflt estr_ok okP_strn) fun _ h5 =>
  okP_bind (Q1 := fun _ => True) okP_true fun _ _ => okP_bind (Q1 := fun _ => True) okP_true fun _ _ => okP_bind (Q1 := fun _ => True) okP_true fun _ _ => okP_bind (Q1 := fun _ => True) okP_true fun _ _ => okP_bind (Q1 := fun _ => True) okP_true fun _ _ => okP_bind (Q1 := fun _ => True) okP_true fun _ _ => okP_bind (Q1 := fun _ => True) okP_true fun _ _ =>
  okP_bind (okP_dflt nil_ok okP_nms) fun _ h13 => okP_bind (okP_dflt nil_ok okP_nms) fun _ h14 => okP_bind (okP_dflt nil_ok okP_his) fun _ h15 =>
  okP_ret ⟨⟨h0, h1, trivial, trivial, h4, h5, trivial, trivial, trivial, trivial, trivial, trivial, trivial, h13, h14, h15⟩, ⟨Int.natCast_nonneg _, by have h2' := h2; show ((_ : Nat) : Int) ≤ 4294967295; omega⟩⟩)
theorem decEnt_attr {b : List UInt8} (hb : b.length ≤ 1099511627776) {e : Ent} (h : decEnt b = some e) : EntT.ok e ∧ attrOk e := by
 unfold decEnt allP at h
 cases hx : entP b with
 | error e' => rw [hx] at h; cases h
 | ok y =>
  obtain ⟨u, k⟩ := y
  rw [hx] at h
  have := okP_ent b u k hb hx
  by_cases hm : k < b.length
  · simp [hm] at h
  · simp [hm] at h
    exact h.2 ▸ this
theorem vKeyS_f {a kv v m : Int} {c : List UInt8} (h : vKeyS v m (a, kv, c) = true) : kv = v ∧ keyLen a ≠ 0 ∧ c.length ≤ 256 := by
 simp only [vKeyS, Bool.and_eq_true, decide_eq_true_eq] at h
 obtain ⟨e1, e2, e3⟩ := h
 have hkl : keyLen a ≤ 32 := by unfold keyLen; split <;> (try split) <;> omega
 refine ⟨e1, e2, ?_⟩
 split at e3
 · simp only [vKey, Bool.and_eq_true, decide_eq_true_eq] at e3
   have e4 : (c.length : Int) = keyLen a := e3.2.1
   omega
 · simp only [Bool.and_eq_true, decide_eq_true_eq] at e3
   have e4 : (c.length : Int) ≤ 256 := e3.2
   omega
theorem vSet_f {v : Int} {ks : List Key} {t : ByteArray} {i w m : Int} (h : vSet (v, ks, t, i, w) m = true) : ((1 : Int) ≤ v ∧ v ≤ (65535 : Int)) ∧ (1 ≤ ks.length ∧ ks.length ≤ 4) ∧ (∀ k ∈ ks, vKeyS v m k = true) ∧ ord (t := KeyT) kOrd ks = true ∧ t.size ≤ 256 ∧ ((0 : Int) ≤ i ∧ i ≤ (65536 : Int)) ∧ ((0 : Int) ≤ w ∧ w ≤ (1099511627776 : Int)) := by
 simp only [vSet, Bool.and_eq_true, decide_eq_true_eq, List.all_eq_true] at h
 obtain ⟨⟨h1, h2⟩, h3, ⟨h4, h5⟩, h6, h7, ⟨h8, h9⟩, _, h10, h11⟩ := h
 have h3' : (1 : Int) ≤ (ks.length : Int) := h3
 have h4' : (ks.length : Int) ≤ (4 : Int) := h4
 have h7' : (t.size : Int) ≤ (256 : Int) := h7
 exact ⟨⟨h1, h2⟩, ⟨by omega, by omega⟩, h5, h6, by omega, ⟨h8, h9⟩, ⟨h10, h11⟩⟩
theorem keyOk_v {a kv v m : Int} {c : List UInt8} (h1 : (1 : Int) ≤ v) (h2 : v ≤ (65535 : Int)) (h : vKeyS v m (a, kv, c) = true) : keyOk3 a kv c := by
 obtain ⟨e1, e2, e3⟩ := vKeyS_f h
 have ha : 0 ≤ a ∧ a ≤ 1048576 := by
  unfold keyLen at e2
  grind
 exact ⟨ha, ⟨by omega, by omega⟩, by omega⟩
theorem errP_list {α : Type} {p : PR α} (hp : ErrP p) : ∀ n, ErrP (listP p n)
 | 0, r, e, h => by
  simp only [listP] at h
  split at h <;> cases h
  decide
 | n + 1, r, e, h => by
  simp only [listP] at h
  split at h
  · cases h
  · cases h1 : p r with
    | error e1 => rw [h1] at h; cases h; exact hp r _ h1
    | ok y =>
     obtain ⟨u, k⟩ := y
     rw [h1] at h
     simp only at h
     cases h2 : listP p n (r.drop k) with
     | error e2 => rw [h2] at h; cases h; exact errP_list hp n _ _ h2
     | ok z => obtain ⟨w, l⟩ := z; rw [h2] at h; cases h
theorem nameP_ne : ErrP nameP := fun r e h => by
 have hin : ErrP (inP 48 nameIn) := errP_in (errP_bind (errP_need errP_rd) fun l => errP_bind (fun r' e' h' => by
  unfold strsP atP at h'
  cases h1 : listP strP l.length l with
  | error e1 => rw [h1] at h'; cases h'; exact errP_list errP_rd _ _ _ h1
  | ok y => obtain ⟨u, k⟩ := y; rw [h1] at h'; cases h') fun _ => errP_bind (errP_need errP_rd) fun _ => errP_ret)
 unfold nameP at h
 cases h1 : inP 48 nameIn r with
 | error e1 => rw [h1] at h; cases h; exact hin r _ h1
 | ok y =>
  obtain ⟨u, k⟩ := y
  rw [h1] at h
  simp only [chkP] at h
  split at h <;> cases h
  decide
theorem nameP_fits : FitsP nameP := fun r v m h => by
 unfold nameP at h
 cases h1 : inP 48 nameIn r with
 | error e1 => rw [h1] at h; cases h
 | ok y =>
  obtain ⟨u, k⟩ := y
  rw [h1] at h
  simp only [chkP] at h
  split at h
  · cases h; exact inP_fits r _ _ h1
  · cases h
end Go.Proofs.YtddmkgibghohkaaGreatDoor
/- The plain law of the reference's reading: entries. -/
namespace Go.Proofs.YtddmkgibghohkaaGreatDoor
open Go Go.Sx Go.Proofs
set_option maxRecDepth 100000
set_option maxHeartbeats 4000000
set_option linter.unusedSimpArgs false

def eltR (x : List UInt8) : List (List UInt8) := elsR (conR x).length (conR x)
def sR (x : List UInt8) : ByteArray := ⟨(conR x).toArray⟩
def prnR (x : List UInt8) : Prin := ((eltR (itmR x 0)).map sR, sR (itmR x 1))
def keyR (x : List UInt8) : Key := ((gIntR (itmR x 0) : Int), (gIntR (itmR x 1) : Int), conR (itmR x 2))
def nmsR (x : List UInt8) : List Prin := (eltR x).map prnR
def setR (x : List UInt8) : KSet := ((gIntR (itmR x 0) : Int), (eltR (itmR x 1)).map keyR, sR (itmR x 2), (gIntR (itmR x 3) : Int), (gIntR (itmR x 4) : Int))
def entR (x : List UInt8) : Ent := (prnR (itmR x 0), nmsR (itmR x 1), (gBitsR (itmR x 2) : Int), (gIntR (itmR x 3) : Int), (eltR (itmR x 4)).map setR, sR (itmR x 5), (gIntR (itmR x 6) : Int), (gIntR (itmR x 7) : Int), (gIntR (itmR x 8) : Int), (gIntR (itmR x 9) : Int), (gIntR (itmR x 10) : Int), (gIntR (itmR x 11) : Int), (gIntR (itmR x 12) : Int), nmsR (itmR x 13), nmsR (itmR x 14), (eltR (itmR x 15)).map conR)
theorem eltR_nil : eltR [] = [] := by decide
theorem eltR_list {t : Ty} {w : t.den → List UInt8} {l : List t.den} (h : ∀ x ∈ l, isEl (w x)) (hb : (l.map w).flatten.length ≤ 16777215) : eltR (listS w l) = l.map w := by
 by_cases h0 : l.length = 0
 · have : l = [] := List.length_eq_zero_iff.1 h0
   subst this
   have e : listS w ([] : List t.den) = [] := by unfold listS; exact if_pos rfl
   rw [e, eltR_nil]; rfl
 · have e : listS w l = tlv 48 (l.map w).flatten := by unfold listS mapN; rw [if_neg h0, List.take_length, elemS_flat hb]
   unfold eltR
   rw [e, conR_tlv' _ _ hb, elsR_flat _ (fun x hx => by obtain ⟨s, hs, rfl⟩ := List.mem_map.1 hx; exact h s hs)]
theorem map_back {α β : Type} {f : β → α} {w : α → β} {l : List α} (h : ∀ x ∈ l, f (w x) = x) : (l.map w).map f = l := by
 rw [List.map_map]
 conv => rhs; rw [← List.map_id l]
 exact List.map_congr_left fun x hx => h x hx
theorem num_back {v : Int} (h : 0 ≤ v ∧ v < 36028797018963968) : (gIntR (numO v) : Int) = v := by
 unfold numO
 split
 · rename_i h0; rw [h0]; rfl
 · exact gInt_ok h
theorem tim_back {n : Nat} (h : n ≤ 1099511627776) : (gIntR (timO (n : Int)) : Int) = n := by
 unfold timO
 split
 · rename_i h0; rw [h0]; rfl
 · rw [gTime_ok h]
theorem str_back {s : ByteArray} (h : s.size ≤ 16777215) : sR (elemS 27 [s.data.toList]) = s ∧ isEl (elemS 27 [s.data.toList]) := by
 have hl : s.data.toList.length = s.size := by simp
 rw [elemS_ok (by omega)]
 refine ⟨?_, _, _, rfl, by omega⟩
 unfold sR
 rw [conR_tlv' _ _ (by omega)]
theorem txt_back {s : ByteArray} (h : s.size ≤ 16777215) : sR (txtO s) = s := by
 unfold txtO
 split
 · rename_i h0; rw [h0]; rfl
 · exact (str_back h).1
theorem prn_back {p : Prin} (h : vPrin p = true) : prnR (prinE p) = p ∧ isEl (prinE p) := by
 obtain ⟨h1, h2, h3⟩ := vPrin_sz h
 have he : prinE p = prinS p := by unfold prinE; rw [if_pos h]
 rw [he]
 obtain ⟨xs, t⟩ := p
 have h1' : xs.length ≤ 4 := h1
 have h2' : ∀ x ∈ xs, x.size ≤ 32 := h2
 have h3' : t.size ≤ 32 := h3
 obtain ⟨g1, g2⟩ := nameIn_at xs t (by omega) (fun x hx => by have := h2' x hx; omega) (by omega)
 have hS : prinS (xs, t) = tlv 48 (sufS [elemS 48 (strsN xs xs.length), strE t] 0 2) := by
  show elemS 48 [wrapS 160 0 (elemS 48 (strsN xs xs.length)), wrapS 160 1 (strE t)] = _
  have e : ([wrapS 160 0 (elemS 48 (strsN xs xs.length)), wrapS 160 1 (strE t)] : List (List UInt8)).flatten = sufS [elemS 48 (strsN xs xs.length), strE t] 0 2 := by
   rw [sufS_succ, sufS_succ]
   simp [sufS]
  rw [elemS_flat (by rw [e]; omega), e]
 have e0 : strsN xs xs.length = xs.map strE := by unfold strsN strE; rw [List.take_length]
 have hb : (xs.map strE).flatten.length ≤ 148 := by have := strsN_flat (k := xs.length) h1' h2'; rwa [e0] at this
 have e1 : elemS 48 (strsN xs xs.length) = tlv 48 (xs.map strE).flatten := by rw [e0, elemS_flat (by omega)]
 have l1 := strE_len t
 have hL : ∀ j, (([elemS 48 (strsN xs xs.length), strE t] : List (List UInt8)).getD j []).length ≤ 16777215 := fun j => by
  match j with
  | 0 =>
   show (elemS 48 (strsN xs xs.length)).length ≤ _
   rw [e1, tlv_length]
   have := lenS_len (xs.map strE).flatten.length
   omega
  | 1 => show (strE t).length ≤ _; omega
  | j + 2 => exact Nat.zero_le _
 rw [hS]
 refine ⟨?_, _, _, rfl, by omega⟩
 unfold prnR
 rw [itm_seq (m := 0) hL (by omega) (by omega) (by omega), itm_seq (m := 1) hL (by omega) (by omega) (by omega)]
 have e2 : ([elemS 48 (strsN xs xs.length), strE t] : List (List UInt8)).getD 0 [] = tlv 48 (xs.map strE).flatten := e1
 have e3 : ([elemS 48 (strsN xs xs.length), strE t] : List (List UInt8)).getD 1 [] = strE t := rfl
 rw [e2, e3]
 have hel : ∀ x ∈ xs, sR (strE x) = x ∧ isEl (strE x) := fun x hx => str_back (by have := h2' x hx; omega)
 unfold eltR
 rw [conR_tlv' _ _ (by omega), elsR_flat _ (fun x hx => by obtain ⟨s, hs, rfl⟩ := List.mem_map.1 hx; exact (hel s hs).2), map_back (f := sR) (w := strE) (fun x hx => (hel x hx).1)]
 exact congrArg (Prod.mk xs) (str_back (by omega)).1
theorem key_back {k : Key} (h : keyOk k) : keyR (keyS k) = k ∧ isEl (keyS k) := by
 obtain ⟨a, v, c⟩ := k
 obtain ⟨ha, hv, hc⟩ := h
 have i1 := intS_len a
 have i2 := intS_len v
 have e3 : elemS 4 [c] = tlv 4 c := elemS_ok (by omega)
 have w3 := elemS_len 4 [c]
 simp only [List.flatten_cons, List.flatten_nil, List.append_nil] at w3
 have hL : ∀ j, (([intS a, intS v, elemS 4 [c]] : List (List UInt8)).getD j []).length ≤ 16777215 := fun j => by
  match j with
  | 0 => show (intS a).length ≤ _; omega
  | 1 => show (intS v).length ≤ _; omega
  | 2 => show (elemS 4 [c]).length ≤ _; omega
  | j + 3 => exact Nat.zero_le _
 obtain ⟨hS, hin⟩ := keyS_tlv a v c ha hv hc
 rw [hS]
 refine ⟨?_, _, _, rfl, hin⟩
 unfold keyR
 rw [itm_seq (m := 0) hL (by omega) (by omega) hin, itm_seq (m := 1) hL (by omega) (by omega) hin, itm_seq (m := 2) hL (by omega) (by omega) hin]
 have t0 : ([intS a, intS v, elemS 4 [c]] : List (List UInt8)).getD 0 [] = intS a := rfl
 have t1 : ([intS a, intS v, elemS 4 [c]] : List (List UInt8)).getD 1 [] = intS v := rfl
 have t2 : ([intS a, intS v, elemS 4 [c]] : List (List UInt8)).getD 2 [] = tlv 4 c := e3
 rw [t0, t1, t2, gInt_ok (by omega), gInt_ok (by omega), conR_tlv' _ _ (by omega)]
theorem vKeyS_ok {v m : Int} {k : Key} (h1 : (1 : Int) ≤ v) (h2 : v ≤ (65535 : Int)) (hv : vKeyS v m k = true) : keyOk k := by
 obtain ⟨a, kv, c⟩ := k
 exact keyOk_v h1 h2 hv
theorem set_back {s : KSet} {m : Int} (h : vSet s m = true) : setR (setS s) = s ∧ isEl (setS s) := by
 obtain ⟨v, ks, t, i, w⟩ := s
 change Int at v i w
 change List Key at ks
 change ByteArray at t
 obtain ⟨⟨h1, h2⟩, ⟨h3, h4⟩, h5, h6, h7, ⟨h8, h9⟩, h10, h11⟩ := vSet_f h
 clear h
 obtain ⟨n, rfl⟩ : ∃ n : Nat, w = n := ⟨w.toNat, by omega⟩
 have hk : ∀ k ∈ ks, keyOk k := fun k hk => vKeyS_ok h1 h2 (h5 k hk)
 have i0 := intS_len v
 have hb : (ks.map keyS).flatten.length ≤ 262400 := by
  have := flat_len keyS 65600 ks fun x hx => keyS_le (hk x hx)
  have h4 : 65600 * ks.length ≤ 65600 * 4 := Nat.mul_le_mul_left _ (by omega)
  omega
 have i1 : (listS (t := KeyT) keyS ks).length ≤ 262500 := by
  have := listS_le (t := KeyT) (w := keyS) (l := ks) 65600 fun x hx => keyS_le (hk x hx)
  have h4 : 65600 * ks.length ≤ 65600 * 4 := Nat.mul_le_mul_left _ (by omega)
  exact Nat.le_trans this (by omega)
 have i2 := txtO_le t
 have i3 := numO_le i
 have i4 : (timeS (n : Int)).length ≤ 11 := by
  rw [timeS_tlv (by omega), tlv_length, numS_length]
  have := lenS_len 6
  omega
 have hL : ∀ j, (([intS v, listS (t := KeyT) keyS ks, txtO t, numO i, timeS (n : Int)] : List (List UInt8)).getD j []).length ≤ 16777215 := fun j => by
  match j with
  | 0 => show (intS v).length ≤ _; omega
  | 1 => exact Nat.le_trans i1 (by omega)
  | 2 => show (txtO t).length ≤ _; omega
  | 3 => show (numO i).length ≤ _; omega
  | 4 => show (timeS (n : Int)).length ≤ _; omega
  | j + 5 => exact Nat.zero_le _
 have hs' : (sufS [intS v, listS (t := KeyT) keyS ks, txtO t, numO i, timeS (n : Int)] 0 5).length ≤ 16777215 := by
  refine Nat.le_trans (sufS_le 5 0) ?_
  show (intS v).length + 5 + ((listS (t := KeyT) keyS ks).length + 5 + ((txtO t).length + 5 + ((numO i).length + 5 + ((timeS (n : Int)).length + 5 + 0)))) ≤ _
  generalize (listS (t := KeyT) keyS ks).length = a1 at *
  omega
 have hS : setS (v, ks, t, i, (n : Int)) = tlv 48 (sufS [intS v, listS (t := KeyT) keyS ks, txtO t, numO i, timeS (n : Int)] 0 5) := tagS_tlv (l := [intS v, listS (t := KeyT) keyS ks, txtO t, numO i, timeS (n : Int)]) hs'
 rw [hS]
 refine ⟨?_, _, _, rfl, hs'⟩
 unfold setR
 rw [itm_seq (m := 0) hL (by omega) (by omega) hs', itm_seq (m := 1) hL (by omega) (by omega) hs', itm_seq (m := 2) hL (by omega) (by omega) hs', itm_seq (m := 3) hL (by omega) (by omega) hs', itm_seq (m := 4) hL (by omega) (by omega) hs']
 have t0 : ([intS v, listS (t := KeyT) keyS ks, txtO t, numO i, timeS (n : Int)] : List (List UInt8)).getD 0 [] = intS v := rfl
 have t1 : ([intS v, listS (t := KeyT) keyS ks, txtO t, numO i, timeS (n : Int)] : List (List UInt8)).getD 1 [] = listS (t := KeyT) keyS ks := rfl
 have t2 : ([intS v, listS (t := KeyT) keyS ks, txtO t, numO i, timeS (n : Int)] : List (List UInt8)).getD 2 [] = txtO t := rfl
 have t3 : ([intS v, listS (t := KeyT) keyS ks, txtO t, numO i, timeS (n : Int)] : List (List UInt8)).getD 3 [] = numO i := rfl
 have t4 : ([intS v, listS (t := KeyT) keyS ks, txtO t, numO i, timeS (n : Int)] : List (List UInt8)).getD 4 [] = timeS (n : Int) := rfl
 have c1 : (eltR (listS (t := KeyT) keyS ks)).map keyR = ks := by
  rw [eltR_list (t := KeyT) (w := keyS) (fun x hx => (key_back (hk x hx)).2) (Nat.le_trans hb (by omega))]
  exact map_back (f := keyR) (w := keyS) fun x hx => (key_back (hk x hx)).1
 rw [t0, t1, t2, t3, t4, gInt_ok (by omega), c1, txt_back (by omega), num_back (by omega), gTime_ok (by omega)]
theorem nms_back {l : List Prin} (hl : l.length ≤ 16) (hv : ∀ p ∈ l, vPrin p = true) : nmsR (listS (t := PrinT) prinE l) = l := by
 have hf := flat_len prinE 205 l fun x hx => (nameP_ok (hv x hx)).2.1
 have h4 : 205 * l.length ≤ 205 * 16 := Nat.mul_le_mul_left _ hl
 unfold nmsR
 rw [eltR_list (t := PrinT) (w := prinE) (fun x hx => (prn_back (hv x hx)).2) (by omega)]
 exact map_back (f := prnR) (w := prinE) fun x hx => (prn_back (hv x hx)).1
theorem sts_back {l : List KSet} {m : Int} (hl : l.length ≤ 16) (hv : ∀ s ∈ l, vSet s m = true) : (eltR (listS (t := SetT) setS l)).map setR = l := by
 have hf := flat_len setS 400000 l fun x hx => (setP_ok (hv x hx)).2.1
 have h4 : 400000 * l.length ≤ 400000 * 16 := Nat.mul_le_mul_left _ hl
 rw [eltR_list (t := SetT) (w := setS) (fun x hx => (set_back (hv x hx)).2) (by omega)]
 exact map_back (f := setR) (w := setS) fun x hx => (set_back (hv x hx)).1
theorem his_back {l : List (List UInt8)} (hl : l.length ≤ 16) (hv : ∀ d ∈ l, d.length = 16) : (eltR (listS (t := Ty.slice .u8) octS l)).map conR = l := by
 have hone : ∀ x ∈ l, octS x = tlv 4 x := fun x hx => elemS_ok (by have := hv x hx; omega)
 have hf := flat_len octS 21 l fun x hx => by
  rw [hone x hx, tlv_length, hv x hx]
  have := lenS_len 16
  omega
 have h4 : 21 * l.length ≤ 21 * 16 := Nat.mul_le_mul_left _ hl
 rw [eltR_list (t := Ty.slice .u8) (w := octS) (fun x hx => ⟨_, _, hone x hx, by have := hv x hx; omega⟩) (by omega)]
 exact map_back (f := conR) (w := octS) fun x hx => by rw [hone x hx, conR_tlv' _ _ (by have := hv x hx; omega)]
theorem ent_back {e : Ent} (hv : vEnt e = true) (ha : attrOk e) : entR (entS e) = e := by
 obtain ⟨hS, hL, hs, _⟩ := entP_at e hv ha
 obtain ⟨f0, ⟨f1, f1'⟩, f2, f3, ⟨f4, f4'⟩, f5, f6, f7, f8, f9, f10, f11, f12, ⟨f13, f13'⟩, ⟨f14, f14'⟩, ⟨f15, f15'⟩⟩ := ent_fields hv
 have h2 := attrB_le ha f2
 have ha0 := ha.1
 clear hv f2 ha
 rw [hS]
 clear hS
 have it : ∀ m, m < 16 → itmR (tlv 48 (sufS (entL e) 0 16)) m = (entL e).getD m [] := fun m hm => itm_seq (m := m) hL (by omega) hm hs
 unfold entR
 rw [it 0 (by omega), it 1 (by omega), it 2 (by omega), it 3 (by omega), it 4 (by omega), it 5 (by omega), it 6 (by omega), it 7 (by omega), it 8 (by omega), it 9 (by omega), it 10 (by omega), it 11 (by omega), it 12 (by omega), it 13 (by omega), it 14 (by omega), it 15 (by omega)]
 clear it hL hs
 obtain ⟨e0, e1, e2, e3, e4, e5, e6, e7, e8, e9, e10, e11, e12, e13, e14, e15⟩ := e
 dsimp only at *
 change Int at e2 e3 e6 e7 e8 e9 e10 e11 e12
 change ByteArray at e5
 have a0 : (0 : Int) ≤ e2 := ha0
 have a1 : e2 ≤ (1023 : Int) := h2
 have z3 : (0 : Int) ≤ e3 ∧ e3 < 36028797018963968 := ⟨f3.1, Int.lt_of_le_of_lt f3.2 (by decide)⟩
 have z8 : (0 : Int) ≤ e8 ∧ e8 < 36028797018963968 := ⟨f8.1, Int.lt_of_le_of_lt f8.2 (by decide)⟩
 have z9 : (0 : Int) ≤ e9 ∧ e9 < 36028797018963968 := ⟨f9.1, Int.lt_of_le_of_lt f9.2 (by decide)⟩
 have z10 : (0 : Int) ≤ e10 ∧ e10 < 36028797018963968 := ⟨f10.1, Int.lt_of_le_of_lt f10.2 (by decide)⟩
 have z5 : e5.size ≤ 16777215 := Nat.le_trans f5 (by decide)
 obtain ⟨n2, rfl⟩ : ∃ n : Nat, e2 = n := ⟨e2.toNat, by omega⟩
 obtain ⟨n6, rfl, g6⟩ := nat_of f6
 obtain ⟨n7, rfl, g7⟩ := nat_of f7
 obtain ⟨n11, rfl, g11⟩ := nat_of f11
 obtain ⟨n12, rfl, g12⟩ := nat_of f12
 simp only [List.getD_cons_zero, List.getD_cons_succ]
 rw [(prn_back f0).1, nms_back f1 f1', gBits_ok (by omega), num_back z3, sts_back f4 f4', txt_back z5, tim_back g6, tim_back g7, num_back z8, num_back z9, num_back z10, tim_back g11, tim_back g12, nms_back f13 f13', nms_back f14 f14', his_back f15 f15']
def decEntR (b : List UInt8) : Option Ent := if vEnt (entR b) = true ∧ entS (entR b) = b then some (entR b) else none
theorem gBitsR_lt (x : List UInt8) : gBitsR x < 4294967296 := by
 unfold gBitsR
 have h1 := beN_lt (((conR x).drop 1).take 4)
 have h2 : 256 ^ (((conR x).drop 1).take 4).length ≤ 256 ^ 4 := Nat.pow_le_pow_right (by decide) (by rw [List.length_take]; omega)
 omega
theorem entR_attr (b : List UInt8) : attrOk (entR b) := by
 have := gBitsR_lt (itmR b 2)
 exact ⟨by show (0 : Int) ≤ (gBitsR (itmR b 2) : Int); omega, by show (gBitsR (itmR b 2) : Int) ≤ _; omega⟩
theorem decEnt_eq (b : List UInt8) (hlb : b.length ≤ 1099511627776) : decEntR b = decEnt b := by
 cases h : decEnt b with
 | some e =>
  obtain ⟨h1, rfl⟩ := decEnt_some h
  have hb := ent_back h1 (decEnt_attr hlb h).2
  unfold decEntR
  rw [hb, if_pos ⟨h1, rfl⟩]
 | none =>
  unfold decEntR
  split
  · rename_i hq
    have := decEnt_of hq.1 (entR_attr b) hq.2
    rw [h] at this; cases this
  · rfl
end Go.Proofs.YtddmkgibghohkaaGreatDoor
/- Contracts: the reference's encoding of entries. -/
namespace Go.Proofs.YtddmkgibghohkaaGreatDoor
open Go Go.Sx Go.Proofs
set_option maxRecDepth 100000
set_option maxHeartbeats 4000000
set_option linter.unusedSimpArgs false

theorem keyS_el {k : Key} (h : keyOk k) : elemS 48 [wrapS 160 0 (intS k.1), wrapS 160 1 (intS k.2.1), wrapS 160 2 (elemS 4 [k.2.2])] = keyS k := by
 obtain ⟨a, v, c⟩ := k
 obtain ⟨ha, hv, hc⟩ := h
 obtain ⟨hS, hl⟩ := keyS_tlv a v c ha hv hc
 have e : ([wrapS 160 0 (intS a), wrapS 160 1 (intS v), wrapS 160 2 (elemS 4 [c])] : List (List UInt8)).flatten = sufS [intS a, intS v, elemS 4 [c]] 0 3 := by
  rw [sufS_succ, sufS_succ, sufS_succ]
  simp [sufS]
 rw [hS]
 show elemS 48 [wrapS 160 0 (intS a), wrapS 160 1 (intS v), wrapS 160 2 (elemS 4 [c])] = _
 rw [elemS_flat (by rw [e]; exact hl), e]
theorem vKeyS_len {v m : Int} {k : Key} (hv : vKeyS v m k = true) : k.2.2.length ≤ 256 := by
 obtain ⟨a, kv, c⟩ := k
 simp only [vKeyS, Bool.and_eq_true, decide_eq_true_eq] at hv
 obtain ⟨e1, e2, e3⟩ := hv
 have hkl : keyLen a ≤ 32 := by unfold keyLen; split <;> (try split) <;> omega
 show c.length ≤ 256
 split at e3
 · simp only [vKey, Bool.and_eq_true, decide_eq_true_eq] at e3
   omega
 · simp only [Bool.and_eq_true, decide_eq_true_eq] at e3
   omega
theorem keyS_sm {v m : Int} {k : Key} (hv : vKeyS v m k = true) : (keyS k).length ≤ 314 := by
 have h := vKeyS_len hv
 obtain ⟨a, kv, c⟩ := k
 have h1 := keyS_len a kv c
 have h2 : c.length ≤ 256 := h
 omega
theorem mapN_sm {t : Ty} {w : t.den → List UInt8} {l : List t.den} {i : Nat} (B : Nat) (hx : ∀ x ∈ l, (w x).length ≤ B) (hi : i ≤ l.length) : (mapN w l i).flatten.length ≤ B * i := by
 have h := flat_len w B (l.take i) fun x hm => hx x (List.mem_of_mem_take hm)
 have e : (l.take i).length = i := by rw [List.length_take]; omega
 rw [e] at h
 exact h
theorem listS_el {t : Ty} {w : t.den → List UInt8} {l : List t.den} : (if decide ((l.length : Int) = 0) = true then [] else elemS 48 (mapN w l l.length)) = listS w l := by
 unfold listS
 by_cases h : l.length = 0
 · rw [if_pos (by simp [h]), if_pos h]
 · rw [if_neg (by simp; intro e; rw [e] at h; exact h rfl), if_neg h]
theorem rnms_c (l : List Prin) (hl : l.length ≤ 16) (hv : ∀ p ∈ l, vPrin p = true) : PC Tryz.prog 99 [.isl PrinT l] (.isl .u8 (listS (t := PrinT) prinE l)) := by
 rw [← listS_el]
 refine pc_seal rfl rfl ?_
 refine runE mixed fi99 ?_
 refine si_accN 3 (.slice .u8) (mapN (t := PrinT) prinE l) (fun i => [(4, rI i)]) l.length (fun _ => True) rfl (by simp) (by simp [mapN]) rfl (fun i => rfl) ?_ fun i hi _ => ?_
 · with_reducible refine sxE ?_; trivial
 have hwr : IntKind.i64.wrap ((i : Int) + 1) = ((i + 1 : Nat) : Int) := wrap_succ (by omega)
 have hln := mapN_len (t := PrinT) (w := prinE) hi
 by_cases hlt : i < l.length
 · have hst := mapN_succ (t := PrinT) (w := prinE) hlt
   have hvx := hv _ (getD_mem (d := PrinT.dflt) hlt)
   obtain ⟨z1, z2, z3⟩ := vPrin_sz hvx
   have hpe : prinE (l.getD i PrinT.dflt) = prinS (l.getD i PrinT.dflt) := by unfold prinE; rw [if_pos hvx]
   have hone := rprin_c (l.getD i PrinT.dflt).1 (l.getD i PrinT.dflt).2 z1 z2 z3
   refine goE mixed ?_
   refine ⟨fun _ => ⟨⟨by omega, hlt⟩, callI_pure hone ?_⟩, fun h => absurd hlt h⟩
   refine goE mixed ?_
   refine ⟨⟨by omega, by omega⟩, acc_next [_, _] [] hlt trivial (by rw [hst, hpe]; rfl) ?_⟩
   with_reducible refine sx3 hwr hst ?_; trivial
 · obtain rfl : i = l.length := by omega
   have hfl := mapN_sm (t := PrinT) (w := prinE) (l := l) 205 (fun x hx => (nameP_ok (hv x hx)).2.1) (Nat.le_refl _)
   refine si_freeze 0 rfl rfl (by omega) ?_ ?_ ?_
   · with_reducible refine sxE ?_; trivial
   · with_reducible refine sxE ?_
     exact Nat.le_refl _
   with_reducible refine sxE ?_
   rw [List.take_of_length_le (Nat.le_refl _)]
   refine goE mixed ?_
   refine ⟨fun h => absurd h hlt, fun _ => callI_pure (rseq_c _ (by omega) (by omega)) ?_⟩
   refine goE mixed ?_
   refine callI_pure (runless_c _ _) ?_
   refine goE mixed ?_; trivial
theorem rset_c (s : KSet) (m : Int) (hv : vSet s m = true) : PC Tryz.prog 96 [.agg (SetT.cells s)] (.isl .u8 (setS s)) := by
 have hse : setS s = elemS 48 [wrapS 160 0 (intS s.1), wrapS 160 1 (listS (t := KeyT) keyS s.2.1), wrapS 160 2 (txtO s.2.2.1), wrapS 160 3 (numO s.2.2.2.1), wrapS 160 4 (timeS s.2.2.2.2)] := rfl
 rw [hse]
 clear hse
 obtain ⟨v, l, t, i, w⟩ := s
 change Int at v i w
 change List Key at l
 change ByteArray at t
 obtain ⟨⟨h1, h2⟩, ⟨h3, h4⟩, h5, _, h7, ⟨h8, h9⟩, h10, h11⟩ := vSet_f hv
 clear hv
 dsimp only
 have hls : listS (t := KeyT) keyS l = elemS 48 (mapN (t := KeyT) keyS l l.length) := by unfold listS; exact if_neg (by omega)
 rw [hls]
 refine pc_seal rfl rfl ?_
 refine runE mixed fi96 ?_
 refine si_accN 3 (.slice .u8) (mapN (t := KeyT) keyS l) (fun i => [(4, rI i)]) l.length (fun _ => True) rfl (by simp) (by simp [mapN]) rfl (fun i => rfl) ?_ fun j hj _ => ?_
 · with_reducible refine sxE ?_; trivial
 have hwr : IntKind.i64.wrap ((j : Int) + 1) = ((j + 1 : Nat) : Int) := wrap_succ (by omega)
 have hln := mapN_len (t := KeyT) (w := keyS) hj
 by_cases hlt : j < l.length
 · have hst := mapN_succ (t := KeyT) (w := keyS) hlt
   have hk := vKeyS_ok h1 h2 (h5 _ (getD_mem (d := KeyT.dflt) hlt))
   have hl := vKeyS_len (h5 _ (getD_mem (d := KeyT.dflt) hlt))
   have hke := keyS_el hk
   have hone := rkey_c (l.getD j KeyT.dflt) ⟨hk.1.1, Int.le_trans hk.1.2 (by decide)⟩ ⟨hk.2.1.1, Int.le_trans hk.2.1.2 (by decide)⟩ (by omega)
   rw [hke] at hone
   refine goE mixed ?_
   refine ⟨fun _ => ⟨⟨by omega, hlt⟩, callI_pure hone ?_⟩, fun h => absurd hlt h⟩
   refine goE mixed ?_
   refine ⟨⟨by omega, by omega⟩, acc_next [_, _] [] hlt trivial (by rw [hst]; rfl) ?_⟩
   with_reducible refine sx3 hwr hst ?_; trivial
 · obtain rfl : j = l.length := by omega
   have hfl := mapN_sm (t := KeyT) (w := keyS) (l := l) 314 (fun x hx => keyS_sm (h5 x hx)) (Nat.le_refl _)
   have g0 := intS_len v
   have g1 := elemS_len 48 (mapN (t := KeyT) keyS l l.length)
   have g2 := elemS_len 27 [t.data.toList]
   have g2' : t.data.toList.length = t.size := by simp
   simp only [List.flatten_cons, List.flatten_nil, List.append_nil] at g2
   have g3 := intS_len i
   have g4 : (timeS w).length ≤ 11 := by
    unfold timeS
    split
    · have := elemS_len 24 [numS w 6]
      simpa [numS_length] using this
    · simp
   have q0 := wrapS_len 160 0 (intS v)
   have q1 := wrapS_len 160 1 (elemS 48 (mapN (t := KeyT) keyS l l.length))
   have q2 := wrapS_len 160 2 (txtO t)
   have q3 := wrapS_len 160 3 (numO i)
   have q4 := wrapS_len 160 4 (timeS w)
   have q2' := txtO_le t
   have q3' := numO_le i
   have ht : txtO t = if decide (t = ⟨#[]⟩) = true then [] else elemS 27 [t.data.toList] := by unfold txtO; by_cases h : t = ⟨#[]⟩ <;> simp [h]
   have hn : numO i = if decide (i = 0) = true then [] else intS i := by unfold numO; by_cases h : i = 0 <;> simp [h]
   refine si_freeze 1 rfl rfl (by omega) ?_ ?_ ?_
   · with_reducible refine sxE ?_; trivial
   · with_reducible refine sxE ?_
     exact Nat.le_refl _
   with_reducible refine sxE ?_
   rw [List.take_of_length_le (Nat.le_refl _)]
   refine goE mixed ?_
   refine ⟨fun h => absurd h hlt, fun _ => callR_pure (rint_i _ (by omega)) ?_⟩
   refine goE mixed ?_
   refine callR_pure (rtag_c 0 (by decide) _ (by omega)) ?_
   refine goE mixed ?_
   refine callR_pure (rseq_c _ (by omega) (by omega)) ?_
   refine goE mixed ?_
   refine callR_pure (rtag_c 1 (by decide) _ (by omega)) ?_
   refine goE mixed ?_
   refine callR_pure (rstr_c _ (by omega)) ?_
   refine goE mixed ?_
   refine callR_pure (runless_c _ _) ?_
   rw [← ht]
   refine goE mixed ?_
   refine callR_pure (rtag_c 2 (by decide) _ (by omega)) ?_
   refine goE mixed ?_
   refine callR_pure (rint_i _ (by omega)) ?_
   refine goE mixed ?_
   refine callR_pure (runless_c _ _) ?_
   rw [← hn]
   refine goE mixed ?_
   refine callR_pure (rtag_c 3 (by decide) _ (by omega)) ?_
   refine goE mixed ?_
   refine callR_pure (rtime_c _ (by omega)) ?_
   refine goE mixed ?_
   refine callR_pure (rtag_c 4 (by decide) _ (by omega)) ?_
   refine goE mixed ?_
   refine callR_hand 2 (by decide) ?_
   with_reducible refine sxE ?_
   refine callR_pure (rseq_c _ (by simp) (by simp only [List.flatten_cons, List.flatten_nil, List.append_nil, List.length_append]; omega)) ?_
   refine goE mixed ?_; trivial
end Go.Proofs.YtddmkgibghohkaaGreatDoor
