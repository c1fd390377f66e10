/- Contracts: reading a key, with the recovery. -/
import Derived.Test.YtddmkgibghohkaaGreatDoorP25
import Derived.Test.YtddmkgibghohkaaGreatDoorPPe4
import Derived.Test.YtddmkgibghohkaaGreatDoorP21
import Derived.Test.YtddmkgibghohkaaGreatDoorPRv
import Derived.Test.YtddmkgibghohkaaGreatDoorP23
set_option linter.unusedSimpArgs false
set_option linter.unusedVariables false
namespace Go.Proofs.YtddmkgibghohkaaGreatDoor
open Go Go.Sx Go.Proofs
set_option maxRecDepth 100000
set_option maxHeartbeats 4000000
set_option linter.unusedSimpArgs false

def ErrP {α : Type} (p : PR α) : Prop := ∀ r e, p r = .error e → e ≠ 0
theorem errP_rd {α : Type} {tag : UInt8} {dec : List UInt8 → Option α} : ErrP (rdP tag dec) := fun _ _ h => rdP_ne h
theorem errP_in {α : Type} {tag : UInt8} {p : PR α} (hp : ErrP p) : ErrP (inP tag p) := fun r e h => by
 rcases inP_cases (tag := tag) (p := p) (r := r) with ⟨h1, e'⟩ | ⟨_, e1, h2, e'⟩ | ⟨_, _, _, _, _, e'⟩ | ⟨_, _, _, _, _, e'⟩ <;> rw [e'] at h <;> cases h
 · exact h1
 · exact hp _ _ h2
 · decide
theorem errP_need {α : Type} {n : Nat} {p : PR α} (hp : ErrP p) : ErrP (needP n p) := fun r e h => by
 cases hb : nextB n r with
 | false =>
  rw [needP_no hb] at h
  split at h <;> cases h <;> decide
 | true => rw [needP_in hb] at h; exact errP_in hp r e h
theorem errP_bind {α β : Type} {p : PR α} {f : α → PR β} (hp : ErrP p) (hf : ∀ v, ErrP (f v)) : ErrP (bindP p f) := fun r e h => by
 unfold bindP at h
 cases h1 : p r with
 | error e1 => rw [h1] at h; cases h; exact hp r _ h1
 | ok y =>
  obtain ⟨u, k⟩ := y
  rw [h1] at h
  simp only at h
  cases h2 : f u (r.drop k) with
  | error e2 => rw [h2] at h; cases h; exact hf u _ _ h2
  | ok z => obtain ⟨w, l⟩ := z; rw [h2] at h; cases h
theorem errP_ret {α : Type} {v : α} : ErrP (retP v) := fun _ _ h => by cases h
theorem keyP_ne : ErrP keyP := errP_in (errP_bind (errP_need errP_rd) fun _ => errP_bind (errP_need errP_rd) fun _ => errP_bind (errP_need errP_rd) fun _ => errP_ret)
def EffR (P : Program) {α : Type} (f : FuncId) (args : List SV) (b : List UInt8) (n : Nat) (res : α → SV) (z : SV) : Except Nat (α × Nat) → Prop
 | .ok (v, k) => PE P f args [rdr b n] (.ret (.tup [res v, rI 0])) [rdr b (n + k)]
 | .error e => PE P f args [rdr b n] (.ret (.tup [z, rI e])) [rdr b n]
theorem effR_ok {P : Program} {α : Type} {f : FuncId} {args : List SV} {b : List UInt8} {n : Nat} {res : α → SV} {z : SV} {x : Except Nat (α × Nat)} {v : α} {k : Nat} (h : EffR P f args b n res z x) (hx : x = .ok (v, k)) : PE P f args [rdr b n] (.ret (.tup [res v, rI 0])) [rdr b (n + k)] := by rw [hx] at h; exact h
theorem effR_er {P : Program} {α : Type} {f : FuncId} {args : List SV} {b : List UInt8} {n : Nat} {res : α → SV} {z : SV} {x : Except Nat (α × Nat)} {e : Nat} (h : EffR P f args b n res z x) (hx : x = .error e) : PE P f args [rdr b n] (.ret (.tup [z, rI e])) [rdr b n] := by rw [hx] at h; exact h
abbrev zKey : SV := .agg [rI 0, rI 0, .isl .u8 []]
theorem dpanK_c (b : List UInt8) (n m e : Nat) (T2 T4 T5 T6 : TypeId) (y : Value) (K : List SObj → Prop)
 (h : ∀ G, K ([rdr b n, .cells T2 [.ptr 0 0], .cells T4 [rI 0, rI 0, .raw (.slice none 0 0)], .cells T5 [rI e], .cells T6 [rI n]] ++ G)) :
 DCall Tryz.prog 300 [.ptr 4 0, .ptr 1 0, .ptr 2 0, .ptr 3 0] (some (errV e)) [rdr b m, .cells T2 [.ptr 0 0], .cells T4 [rI 0, rI 0, .raw (.slice none 0 0)], .cells T5 [.raw y], .cells T6 [rI n]] K := by
 refine dc_ri fi300 ?_
 refine run_sound mixed 16 _ ?_
 with_reducible refine sxE ?_
 refine si_drw [1, 4, 5, 999999] mixed ?_
 refine run_sound mixed 600 _ ?_
 simp (maxSteps := 3000000) only [List.getElem?_nil, go_sem, ↓zA, ↓reduceIte, ↓reduceDIte, reduceCtorEq, Nat.reduceAdd, Nat.reduceSub, Nat.reduceLeDiff, Nat.reduceLT, Nat.reduceEqDiff, Nat.reduceBEq, Nat.reduceMul, Int.reduceToNat, Int.reduceEq, Int.reduceLT, Int.reduceLE] <;> try simp only [zB]
 exact h _
theorem dretK_c (H : List SObj) (K : List SObj → Prop) (h : ∀ G, K (H ++ G)) : DCall Tryz.prog 300 [.ptr 4 0, .ptr 1 0, .ptr 2 0, .ptr 3 0] none H K := by
 refine recE mixed fi300 ?_
 simpa using h []
theorem skey_c (b : List UInt8) (n : Nat) (hn : n ≤ b.length) (hb : b.length ≤ 1099511627776) :
 EffR Tryz.prog 281 [.ptr 0 0, .fn 282 [] []] b n (fun v : Key => .agg (KeyT.cells v)) zKey (keyP (b.drop n)) := by
 have hk := key1_c b n hn hb
 generalize keyP (b.drop n) = X at *
 cases X with
 | error e =>
  have hk' := effZ_er hk rfl
  refine pe_seal (by simp) ?_
  refine defE mixed fi281 ?_
  refine goE mixed ?_
  refine effP [0] (hk') ?_
  refine ⟨by simp, dpanK_c b n _ e _ _ _ _ _ _ fun G => ?_⟩
  with_reducible refine sxE ?_; trivial
 | ok x =>
  obtain ⟨v, k⟩ := x
  have hk' := effZ_ok hk rfl
  refine pe_seal (by simp) ?_
  refine defE mixed fi281 ?_
  refine goE mixed ?_
  refine effE mixed [0] (hk') ?_
  refine dretK_c _ _ fun G => ?_
  with_reducible refine sxE ?_; trivial
theorem drkey_c (b : List UInt8) (n : Nat) (hn : n ≤ b.length) (hb : b.length ≤ 1099511627776) :
 EffR Tryz.prog 266 [.ptr 0 0] b n (fun v : Key => .agg (KeyT.cells v)) zKey (keyP (b.drop n)) := by
 have hk := skey_c b n hn hb
 generalize keyP (b.drop n) = X at *
 cases X with
 | error e =>
  have hk' := effR_er hk rfl
  refine pe_seal (by simp) ?_
  refine runE mixed fi266 ?_
  refine effE mixed [0] (hk') ?_; trivial
 | ok x =>
  obtain ⟨v, k⟩ := x
  have hk' := effR_ok hk rfl
  refine pe_seal (by simp) ?_
  refine runE mixed fi266 ?_
  refine effE mixed [0] (hk') ?_; trivial
theorem take_key (v : Key) : PC Tryz.prog 265 [.agg (KeyT.cells v), rI 0] (.agg (KeyT.cells v)) := by
 refine pc_seal rfl rfl ?_
 refine runE mixed fi265 ?_
 refine callI_require (fun _ => ?_) fun h => absurd h (by decide)
 refine goE mixed ?_; trivial
theorem take_er_key (e : Nat) (he : e ≠ 0) : PE Tryz.prog 265 [zKey, rI e] [] (.pan wrongV) [] := by
 refine pe_seal (by simp) ?_
 refine runE mixed fi265 ?_
 refine callI_require (fun h => absurd h (by simp; omega)) fun _ => ?_
 with_reducible refine sxE ?_; trivial
theorem ekey_c (b : List UInt8) (n : Nat) (hn : n ≤ b.length) (hb : b.length ≤ 1099511627776) :
 Eff Tryz.prog 230 [.agg [.ptr 0 0]] b n [] (fun v : Key => .agg (KeyT.cells v)) (fun _ => []) (keyP (b.drop n)) := by
 have hr := drkey_c b n hn hb
 cases hx : keyP (b.drop n) with
 | error e =>
  have hr' := effR_er hr hx
  refine pe_seal (by simp) ?_
  refine runE mixed fi230 ?_
  refine effE mixed [0] (hr') ?_
  refine effP [] (take_er_key e (keyP_ne _ _ hx)) ?_; trivial
 | ok x =>
  obtain ⟨v, k⟩ := x
  have hr' := effR_ok hr hx
  refine pe_seal (by simp) ?_
  refine runE mixed fi230 ?_
  refine effE mixed [0] (hr') ?_
  refine callI_pure (take_key _) ?_
  refine goE mixed ?_; trivial
end Go.Proofs.YtddmkgibghohkaaGreatDoor
/- The plain law of reading: what is read can be held. -/
namespace Go.Proofs.YtddmkgibghohkaaGreatDoor
open Go Go.Sx Go.Proofs
set_option maxRecDepth 100000
set_option maxHeartbeats 4000000
set_option linter.unusedSimpArgs false

theorem okP_mono {α : Type} {p : PR α} {Q Q' : α → Prop} (h : OkP p Q) (hq : ∀ v, Q v → Q' v) : OkP p Q' := fun r v m hr hx => hq v (h r v m hr hx)
theorem okP_chk {p : PR Prin} {Q : Prin → Prop} (hq : ∀ v, vPrin v = true → Q v) : OkP (fun r => chkP vPrin (p r)) Q := fun r v m _ hx => by
 have hx : chkP vPrin (p r) = .ok (v, m) := hx
 cases hp : p r with
 | error e => rw [hp] at hx; cases hx
 | ok y =>
  obtain ⟨u, k⟩ := y
  rw [hp] at hx
  simp only [chkP] at hx
  split at hx
  · cases hx; exact hq _ (by assumption)
  · cases hx
theorem prin_ok {p : Prin} (h : vPrin p = true) : PrinT.ok p := by
 obtain ⟨h1, h2, h3⟩ := vPrin_sz h
 exact ⟨⟨by omega, fun x hx => by have := h2 x hx; show x.size ≤ _; omega⟩, by show p.2.size ≤ _; omega⟩
theorem okP_name : OkP nameP PrinT.ok := okP_chk fun _ h => prin_ok h
theorem okP_oct : OkP octP (Ty.slice .u8).ok := okP_rd fun c v hc hd => by
 unfold decOct at hd; cases hd
 exact ⟨by show c.length ≤ _; omega, fun _ _ => trivial⟩
theorem okP_strn : OkP strP (Ty.str).ok := okP_mono okP_str fun v h => by show v.size ≤ _; omega
theorem okP_l {t : Ty} {p : PR t.den} (n : Nat) (hn : n ≤ 1000) (h : OkP p t.ok) : OkP (inP 48 (listP p n)) (Ty.slice t).ok := okP_in (okP_mono (okP_list h n) fun v hv => ⟨by have := hv.1; omega, hv.2⟩)
theorem nil_ok {t : Ty} : (Ty.slice t).ok ([] : List t.den) := ⟨by simp, by simp⟩
theorem okP_bits : OkP bitsP fun n => n ≤ 4294967295 := okP_rd fun c v _ hd => by
 unfold decBits at hd
 split at hd
 · rename_i h
   cases hd
   have := beN_lt (c.drop 1)
   rw [List.length_drop, h.1] at this
   have e : 256 ^ (5 - 1) = 4294967296 := by decide
   omega
 · cases hd
theorem okP_key : OkP keyP KeyT.ok := okP_in (okP_bind (Q1 := fun _ => True) okP_true fun _ _ => okP_bind (Q1 := fun _ => True) okP_true fun _ _ => okP_bind (okP_need okP_oct) fun _ hc => okP_ret ⟨trivial, trivial, hc⟩)
theorem estr_ok : (Ty.str).ok (⟨#[]⟩ : ByteArray) := by show (⟨#[]⟩ : ByteArray).size ≤ _; exact Nat.zero_le _
theorem okP_set : OkP setP SetT.ok := okP_in (okP_bind (Q1 := fun _ => True) okP_true fun _ _ => okP_bind (okP_dflt nil_ok (okP_l (t := KeyT) 4 (by omega) okP_key)) fun _ hk => okP_bind (okP_dflt estr_ok okP_strn) fun _ ht => okP_bind (Q1 := fun _ => True) okP_true fun _ _ => okP_bind (Q1 := fun _ => True) okP_true fun _ _ => okP_ret ⟨trivial, hk, ht, trivial, trivial⟩)
theorem okP_nms : OkP nmsP (Ty.slice PrinT).ok := okP_l (t := PrinT) 16 (by omega) okP_name
theorem okP_sts : OkP stsP (Ty.slice SetT).ok := okP_l (t := SetT) 16 (by omega) okP_set
theorem okP_his : OkP hisP (Ty.slice (Ty.slice .u8)).ok := okP_l (t := Ty.slice .u8) 16 (by omega) okP_oct
theorem okP_ent : OkP entP fun e => EntT.ok e ∧ attrOk e :=
 okP_in (okP_bind (okP_need okP_name) fun _ h0 => okP_bind (okP_dflt nil_ok okP_nms) fun _ h1 => okP_bind (okP_need okP_bits) fun _ h2 => okP_bind (Q1 := fun _ => True) okP_true fun _ _ => okP_bind (okP_dflt nil_ok okP_sts) fun _ h4 => okP_bind (okP_dflt estr_ok okP_strn) fun _ h5 =>
  okP_bind (Q1 := fun _ => True) okP_true fun _ _ => okP_bind (Q1 := fun _ => True) okP_true fun _ _ => okP_bind (Q1 := fun _ => True) okP_true fun _ _ => okP_bind (Q1 := fun _ => True) okP_true fun _ _ => okP_bind (Q1 := fun _ => True) okP_true fun _ _ => okP_bind (Q1 := fun _ => True) okP_true fun _ _ => okP_bind (Q1 := fun _ => True) okP_true fun _ _ =>
  okP_bind (okP_dflt nil_ok okP_nms) fun _ h13 => okP_bind (okP_dflt nil_ok okP_nms) fun _ h14 => okP_bind (okP_dflt nil_ok okP_his) fun _ h15 =>
  okP_ret ⟨⟨h0, h1, trivial, trivial, h4, h5, trivial, trivial, trivial, trivial, trivial, trivial, trivial, h13, h14, h15⟩, ⟨Int.natCast_nonneg _, by have h2' := h2; show ((_ : Nat) : Int) ≤ 4294967295; omega⟩⟩)
theorem errP_list {α : Type} {p : PR α} (hp : ErrP p) : ∀ n, ErrP (listP p n)
 | 0, r, e, h => by
  simp only [listP] at h
  split at h <;> cases h
  decide
 | n + 1, r, e, h => by
  simp only [listP] at h
  split at h
  · cases h
  · cases h1 : p r with
    | error e1 => rw [h1] at h; cases h; exact hp r _ h1
    | ok y =>
     obtain ⟨u, k⟩ := y
     rw [h1] at h
     simp only at h
     cases h2 : listP p n (r.drop k) with
     | error e2 => rw [h2] at h; cases h; exact errP_list hp n _ _ h2
     | ok z => obtain ⟨w, l⟩ := z; rw [h2] at h; cases h
theorem nameP_ne : ErrP nameP := fun r e h => by
 have hin : ErrP (inP 48 nameIn) := errP_in (errP_bind (errP_need errP_rd) fun l => errP_bind (fun r' e' h' => by
  unfold strsP atP at h'
  cases h1 : listP strP l.length l with
  | error e1 => rw [h1] at h'; cases h'; exact errP_list errP_rd _ _ _ h1
  | ok y => obtain ⟨u, k⟩ := y; rw [h1] at h'; cases h') fun _ => errP_bind (errP_need errP_rd) fun _ => errP_ret)
 unfold nameP at h
 cases h1 : inP 48 nameIn r with
 | error e1 => rw [h1] at h; cases h; exact hin r _ h1
 | ok y =>
  obtain ⟨u, k⟩ := y
  rw [h1] at h
  simp only [chkP] at h
  split at h <;> cases h
  decide
theorem nameP_fits : FitsP nameP := fun r v m h => by
 unfold nameP at h
 cases h1 : inP 48 nameIn r with
 | error e1 => rw [h1] at h; cases h
 | ok y =>
  obtain ⟨u, k⟩ := y
  rw [h1] at h
  simp only [chkP] at h
  split at h
  · cases h; exact inP_fits r _ _ h1
  · cases h
end Go.Proofs.YtddmkgibghohkaaGreatDoor
/- The plain law of the reference's reading: entries. -/
namespace Go.Proofs.YtddmkgibghohkaaGreatDoor
open Go Go.Sx Go.Proofs
set_option maxRecDepth 100000
set_option maxHeartbeats 4000000
set_option linter.unusedSimpArgs false

end Go.Proofs.YtddmkgibghohkaaGreatDoor
/- Contracts: the reference's encoding of entries. -/
namespace Go.Proofs.YtddmkgibghohkaaGreatDoor
open Go Go.Sx Go.Proofs
set_option maxRecDepth 100000
set_option maxHeartbeats 4000000
set_option linter.unusedSimpArgs false

end Go.Proofs.YtddmkgibghohkaaGreatDoor
/- Contracts: the reference's encoding of a whole entry. -/
namespace Go.Proofs.YtddmkgibghohkaaGreatDoor
open Go Go.Sx Go.Proofs
set_option maxRecDepth 100000
set_option maxHeartbeats 4000000
set_option linter.unusedSimpArgs false

end Go.Proofs.YtddmkgibghohkaaGreatDoor
/- Contracts: the reference's reading of keys, names, key sets. -/
namespace Go.Proofs.YtddmkgibghohkaaGreatDoor
open Go Go.Sx Go.Proofs
set_option maxRecDepth 100000
set_option maxHeartbeats 4000000
set_option linter.unusedSimpArgs false

end Go.Proofs.YtddmkgibghohkaaGreatDoor
namespace Go.Sx
open Go
variable {P : Program} {AQ : Ex → List SV → List SObj → Prop} {k0 : Nat} {k : List IT} {t : List SV} {H : List SObj}

theorem sound_compact {P : Program} {k : List It} (A A' G : List SObj) {ty : Ty} {xs : List ty.den} (hk : k0 ≤ A.length) (hA : A = A'.map (SObj.ren (shift A.length (A.length + G.length)))) (hb : belH (A.length + 1) A' = true) (hbt : SV.belL (A.length + 1) t = true)
 (hl : leT (shift A.length (A.length + G.length)) t t) (hs : Sound P AQ ⟨k0, k, t, A' ++ [.row ty xs]⟩) : Sound P AQ ⟨k0, k, t, A ++ G ++ [.row ty xs]⟩ := by
 intro E r n C a h0 hd
 have hlen : A.length = A'.length := by have := congrArg List.length hA; rwa [List.length_map] at this
 have hsh : ∀ h, h < A.length → shift A.length (A.length + G.length) h = h := fun h hh => by unfold shift; rw [if_neg (by omega)]
 have hshn : shift A.length (A.length + G.length) A.length = A.length + G.length := by unfold shift; rw [if_pos rfl]
 have hd' : Den E (C.ren (shift A.length (A.length + G.length)) (A' ++ [SObj.row ty xs]).length) t (A' ++ [.row ty xs]) a := by
  refine den_le h0 hd hl (by rw [List.length_append, ← hlen]; exact hbt) (fun h o ho _ => ?_) (belH_of fun h o ho => ?_) (fun h h' o o' ho ho' _ _ e => ?_) (fun h hh => hsh h (Nat.lt_of_lt_of_le hh hk)) (by rw [List.length_append, ← hlen]; exact Nat.le_trans hk (Nat.le_add_right _ _))
  · rcases get_append_some ho with ⟨hh, ho⟩ | ⟨hh, rfl⟩
    · rw [hsh h (by omega), List.append_assoc, List.getElem?_append_left (by omega)]
      have := congrArg (fun l => l[h]?) hA
      simp only [List.getElem?_map, ho] at this
      exact this
    · rw [hh, ← hlen, hshn, ← List.length_append, List.getElem?_append_right (Nat.le_refl _), Nat.sub_self]
      rfl
  · rcases get_append_some ho with ⟨hh, ho⟩ | ⟨hh, rfl⟩
    · rw [List.length_append, ← hlen]
      exact belH_get hb ho
    · rfl
  · have h1 := (List.getElem?_eq_some_iff.1 ho).1
    have h2 := (List.getElem?_eq_some_iff.1 ho').1
    rw [List.length_append, List.length_singleton] at h1 h2
    unfold shift at e
    split at e <;> split at e <;> omega
 exact hs E r n (C.ren (shift A.length (A.length + G.length)) (A' ++ [SObj.row ty xs]).length) a h0 hd'
theorem si_compact (A A' G : List SObj) {ty : Ty} {xs : List ty.den} {td : List IT} (hp : plainT td = true) (hH : H = A ++ G ++ [.row ty xs]) (hk : k0 ≤ A.length) (hA : A = A'.map (SObj.ren (shift A.length (A.length + G.length)))) (hb : belH (A.length + 1) A' = true) (hbt : SV.belL (A.length + 1) t = true)
 (hl : leT (shift A.length (A.length + G.length)) t t) (hs : SoundI P AQ ⟨k0, td, t, A' ++ [.row ty xs]⟩) : SoundI P AQ ⟨k0, td, t, H⟩ := by
 subst hH
 exact soundI_plain (fun _ hr => sound_compact A A' G hk hA hb hbt hl (soundI_get hs hr)) hp
end Go.Sx
namespace Go.Sx
open Go
variable {P : Program} {AQ : Ex → List SV → List SObj → Prop} {k0 : Nat} {k : List IT} {t : List SV} {H : List SObj}

def CutQ (P : Program) (AQ : Ex → List SV → List SObj → Prop) (k0 : Nat) (k : List IT) (T0 : List SV) : Ex → List SV → List SObj → Prop
 | .normal, t, H => SoundI P AQ ⟨k0, k, t, H⟩
 | .pan s, _, H => AQ (.pan s) T0 H
 | _, _, _ => False
theorem cutQ_n {T0 : List SV} (h : SoundI P AQ ⟨k0, k, t, H⟩) : CutQ P AQ k0 k T0 .normal t H := h
theorem cutQ_p {T0 t' : List SV} {s : SV} (h : AQ (.pan s) T0 H) : CutQ P AQ k0 k T0 (.pan s) t' H := h
def SameBut (ws : List Nat) (t t' : List SV) : Prop := t'.length = t.length ∧ ∀ i, i ∉ ws → t'[i]? = t[i]?
theorem SameBut.put {ws : List Nat} {t t' : List SV} (h : SameBut ws t t') {d : Option Tmp} (hd : ∀ e, d = some e → e ∈ ws) (s : SV) : SameBut ws t (putT t' d s) := by
 cases d with
 | none => exact h
 | some e => exact ⟨by simp [putT, h.1], fun i hi => by
  have hne : e ≠ i := fun e' => hi (e' ▸ hd e rfl)
  simp only [putT]
  rw [List.getElem?_set_ne hne]
  exact h.2 i hi⟩
theorem maskT_len : ∀ (ws : List Nat) (t : List SV), (maskT ws t).length = t.length
 | [], t => rfl
 | d :: ws, t => by
  show (maskT ws (t.set d .any)).length = _
  rw [maskT_len ws, List.length_set]
theorem maskT_in : ∀ (ws : List Nat) (t : List SV) (i : Nat) (s : SV), (maskT ws t)[i]? = some s → s = .any ∨ (i ∉ ws ∧ t[i]? = some s)
 | [], t, i, s, h => .inr ⟨by simp, h⟩
 | d :: ws, t, i, s, h => by
  have h' : (maskT ws (t.set d .any))[i]? = some s := h
  rcases maskT_in ws _ i s h' with rfl | ⟨h1, h2⟩
  · exact .inl rfl
  · by_cases e : d = i
    · subst e
      rw [List.getElem?_set] at h2
      simp at h2
      exact .inl h2.2.symm
    · rw [List.getElem?_set_ne e] at h2
      exact .inr ⟨by simp [h1]; exact fun q => e q.symm, h2⟩
theorem leL_get : ∀ {l l' : List SV}, l.length = l'.length → (∀ (i : Nat) s s', l[i]? = some s → l'[i]? = some s' → s' = .any ∨ s' = s) → leL l l'
 | [], [], _, _ => trivial
 | [], _ :: _, h, _ => by simp at h
 | _ :: _, [], h, _ => by simp at h
 | s :: l, s' :: l', h, hp => by
  refine ⟨?_, leL_get (by simpa using h) fun i x x' hx hx' => hp (i + 1) x x' (by simpa using hx) (by simpa using hx')⟩
  rcases hp 0 s s' rfl rfl with rfl | rfl
  · exact SV.le_any s
  · exact SV.le_refl _
theorem SameBut.le {ws : List Nat} {t t' : List SV} (h : SameBut ws t t') : leL t' (maskT ws t) :=
 leL_get (by rw [maskT_len, h.1]) fun i s s' hs hs' => by
  rcases maskT_in ws t i s' hs' with rfl | ⟨h1, h2⟩
  · exact .inl rfl
  · right
    rw [h.2 i h1, h2] at hs
    cases hs; rfl
theorem anyV_cut {k : List It} {all : Array Oper} {G : List Nat} {kI : List IT} {ws : List Nat} {S : Array Bool} {t0 : List SV} (hr : RelT P kI k) (hS : Region.ready .any all S = []) (hW : ∀ (i : Nat) o, all[i]? = some o → S.getD i false = true → ∀ d, o.dst = some d → d ∈ ws) :
 ∀ (fuel : Nat) (listed : Array Bool) (t : List SV) (H : List SObj), SameBut ws t0 t → listed.size = S.size → (∀ j, listed.getD j false = true → S.getD j false = true) → AnyV P (CutQ P AQ k0 kI (maskT ws t0)) k0 [] all G fuel listed t H →
  ∀ (E : EnD) (r : Option Nat) (n : Nat) (C : Cx) (a : Act), E.C.n ≤ k0 → Den E C t H a → wpAnyIn (Fw r) n P .any all (afterT (Fw r) n P E (conc E AQ) k) fuel listed a C.w := by
 have leaf : ∀ {t : List SV} {H : List SObj}, Sound P (CutQ P AQ k0 kI (maskT ws t0)) ⟨k0, [], t, H⟩ → ∀ (E : EnD) (r : Option Nat) (n : Nat) (C : Cx) (a : Act), E.C.n ≤ k0 → Den E C t H a → wpT (Fw r) n P E (conc E AQ) k a C.w := by
  intro t H h E r n C a h0 hd
  have h1 := h E r n C a h0 hd
  simp only [wpT] at h1
  obtain ⟨C', t', H', h2, h3, h4⟩ := h1
  rw [← h3]
  exact soundI_get (h2 : SoundI P AQ ⟨k0, kI, t', H'⟩) hr E r n C' a h0 h4
 intro fuel
 induction fuel with
 | zero => exact fun listed t H _ _ _ h E r n C a h0 hd => ⟨h.1, leaf h.2 E r n C a h0 hd⟩
 | succ fuel ih =>
  intro listed t H hb hsz hsub h E r n C a h0 hd
  refine ⟨fun h9 => leaf (h.1 h9) E r n C a h0 hd, fun i hi => ?_⟩
  obtain ⟨o, ho, h1⟩ := h.2 i hi
  obtain ⟨hun, o', ho', hall⟩ := mem_ready.1 hi
  have hlt : i < S.size := by
   rcases Nat.lt_or_ge i listed.size with q | q
   · omega
   · simp [Array.getElem?_eq_none q] at hun
  have hiS : S.getD i false = true := by
   cases hq : S.getD i false with
   | true => rfl
   | false =>
    have : i ∈ Region.ready .any all S := mem_ready.2 ⟨by simp [hlt] at hq ⊢; exact hq, o', ho', fun e he hb' => hsub _ (hall e he hb')⟩
    rw [hS] at this
    cases this
  have hwd : ∀ d, o.dst = some d → d ∈ ws := hW i o ho hiS
  have hsub' : ∀ j, (listed.setIfInBounds i true).getD j false = true → S.getD j false = true := fun j hj => by
   by_cases e : i = j
   · subst e; exact hiS
   · rw [getD_set_ne false e] at hj; exact hsub j hj
  have hsz' : (listed.setIfInBounds i true).size = S.size := by simpa using hsz
  unfold wpOpIn
  simp only [ho]
  rcases h1 with ⟨hw, hop⟩ | ⟨hw, hk⟩
  · rw [if_pos (wantedT_ok hd.tmps hw)]
    refine hop C r n a _ _ hd.wd (fun x _ => evT_den hd.tmps x) ?_ ?_
    · intro s v H' C' hk hw' hx hs
      exact ih _ _ _ (hb.put hwd s) hsz' hsub' hk.2 E r n C' _ h0 (den_next hd hw' hx hs)
    · intro s v H' C' hk hw' hx hs
      exact ⟨C', maskT ws t0, H', s, v, hk, rfl, hs, rfl, hw', hd.ext.trans hx, hd.defs.next hx, .inr (leL_den hb.le (denL_evo hx.evo hd.tmps))⟩
  · rw [if_neg (by rw [wantedT_ok hd.tmps hw]; simp)]
    exact ⟨fun f _ => fw_fn r f, ih _ _ _ (hb.put hwd _) hsz' hsub' hk.2 E r n C _ h0 (den_next hd hd.wd (Ext.refl _ _) (by rw [SV.den]; rfl))⟩
theorem planL_end {all : Array Oper} : ∀ (fuel : Nat) (listed : Array Bool) (l : List (Bool × OpI)), planL P all fuel listed = some l →
 ∃ S : Array Bool, Region.ready .any all S = [] ∧ S.size = listed.size ∧ (∀ j, listed.getD j false = true → S.getD j false = true) ∧ ∀ i, S.getD i false = true → listed.getD i false = true ∨ ∃ o, all[i]? = some o ∧ ∀ d, o.dst = some d → d ∈ IC.wr (.drw l)
 | 0, listed, l, h => by
  unfold planL at h
  split at h
  · rename_i he
    exact ⟨listed, by simpa using he, rfl, fun _ h => h, fun _ h => .inl h⟩
  · cases h
 | n + 1, listed, l, h => by
  unfold planL at h
  split at h
  · rename_i he
    exact ⟨listed, by simpa using he, rfl, fun _ h => h, fun _ h => .inl h⟩
  · split at h
    · rename_i i fl hch
      split at h
      · rename_i o ho
        split at h
        · rename_i io hco
          split at h
          · rename_i l' hl'
            split at h
            · cases h
              obtain ⟨S, h1, h2, h3, h4⟩ := planL_end n _ l' hl'
              refine ⟨S, h1, by simpa using h2, fun j hj => h3 j (getD_set_true hj), fun j hj => ?_⟩
              rcases h4 j hj with q | ⟨o', q1, q2⟩
              · by_cases e : i = j
                · subst e
                  refine .inr ⟨o, ho, fun d hd => ?_⟩
                  have hio := (compO_op hco).2
                  simp only [IC.wr, List.flatMap_cons, List.mem_append]
                  left
                  unfold OpI.wr
                  split <;> simp [hio, hd]
                · rw [getD_set_ne false e] at q
                  exact .inl q
              · refine .inr ⟨o', q1, fun d hd => ?_⟩
                have := q2 d hd
                simp only [IC.wr, List.flatMap_cons, List.mem_append] at this ⊢
                exact .inr this
            · cases h
          · cases h
        · cases h
      · cases h
    · cases h
theorem si_drwP {l : List (Bool × OpI)} (G : List Nat) (hm : P.follows .mixedOrders = true) (h : SoundI P (CutQ P AQ k0 k (maskT (IC.wr (.drw l)) t)) ⟨k0, [.dops G l], t, H⟩) : SoundI P AQ ⟨k0, .ic (.drw l) :: k, t, H⟩ := soundI_plain (fun td' hr => by
 obtain ⟨c', r, rfl, hc, hr⟩ := hr
 obtain ⟨id, all, rfl, hl⟩ := comp_inv hc
 obtain ⟨S, h1, h2, h3, h4⟩ := planL_end _ _ _ hl
 intro E r' n C a h0 hd
 simp only [wpT]
 have hd' : Den E C.drew t H a := ⟨wd_drew hd.wd, hd.ext.trans (ext_drew C H), hd.defs.next (ext_drew C H), denL_evo (evo_drew C) hd.tmps⟩
 have hno : ∀ j, (Array.replicate all.size false).getD j false = true → False := fun j hj => by
  rcases Nat.lt_or_ge j all.size with q | q
  · simp [q] at hj
  · simp [q] at hj
 refine wpIn_region_any hm (anyV_cut hr h1 (fun i o ho hi d hd => ?_) _ _ _ _ ⟨rfl, fun _ _ => rfl⟩ h2.symm h3 (h all _ _ [] hl rfl) E r' n C.drew a h0 hd')
 rcases h4 i hi with q | ⟨o', q1, q2⟩
 · exact (hno i q).elim
 · rw [ho] at q1; cases q1
   exact q2 d hd) rfl
end Go.Sx
/- Contracts: the reference's decoding of an entry; both decoders tell the same. -/
namespace Go.Proofs.YtddmkgibghohkaaGreatDoor
open Go Go.Sx Go.Proofs
set_option maxRecDepth 100000
set_option maxHeartbeats 4000000
set_option linter.unusedSimpArgs false

end Go.Proofs.YtddmkgibghohkaaGreatDoor
/- Contracts: reading names: the pieces. -/
namespace Go.Proofs.YtddmkgibghohkaaGreatDoor
open Go Go.Sx Go.Proofs
set_option maxRecDepth 100000
set_option maxHeartbeats 4000000
set_option linter.unusedSimpArgs false

def FR (i : Nat) (b : List UInt8) (n : Nat) : Except Nat (List UInt8 × Nat) → Prop
 | .ok (l, k) => PE Tryz.prog 258 [.ptr 0 0, rI i, .fn 199 [] []] [rdr b n] (.ret (.ptr 2 0)) [rdr b (n + k), .dead, rdr l 0]
 | .error e => PE Tryz.prog 258 [.ptr 0 0, rI i, .fn 199 [] []] [rdr b n] (.pan (errV e)) [.dead]
theorem frdr_c (i : Nat) (hi : i ≤ 30) (b : List UInt8) (n : Nat) (hn : n ≤ b.length) (hb : b.length ≤ 1099511627776) : FR i b n (needP i (rdP 48 decOct) (b.drop n)) := by
 cases h : nextB i (b.drop n) with
 | false =>
  rw [needP_no h, List.length_drop]
  have hs := rtag_no i hi b n hn h
  have hl := left_c b n hn
  generalize b.length - n = q at *
  refine pe_seal (by simp) ?_
  refine runE mixed fi258 ?_
  refine effE mixed [0] (hs) ?_
  refine effE mixed [0] (hl) ?_
  by_cases hq : q = 0
  · simp [hq]
  · simp [hq]
 | true =>
  rw [needP_in h]
  by_cases h1 : takeE (tagB i) (b.drop n) = 0
  · rw [inP_t h1]
    have hs := rtag_ok i hi b n hn hb h h1
    have hc := tkC_le (n := n) hb
    generalize takeC (b.drop n) = c at *
    generalize takeN (b.drop n) = N at *
    by_cases h2 : takeE 48 c = 0
    · have hx : rdP 48 decOct c = .ok (takeC c, takeN c) := by unfold rdP; rw [if_pos h2]; rfl
      rw [hx]
      have hr := rseq_ok c 0 (Nat.zero_le _) hc (by rw [List.drop_zero]; exact h2)
      rw [List.drop_zero, Nat.zero_add] at hr
      have hm := takeN_le h2
      generalize takeC c = l at *
      generalize takeN c = m at *
      have hl := left_c c m hm
      simp only [closeP]
      by_cases hml : m < c.length
      · rw [if_pos hml]
        refine pe_seal (by simp) ?_
        refine runE mixed fi258 ?_
        refine effE mixed [0] (hs) ?_
        refine effE mixed [1] (hr) ?_
        refine effE mixed [2] (must_nrdr l 0) ?_
        refine effE mixed [1] (hl) ?_
        exact ⟨fun _ => rfl, fun q => absurd (by omega) q⟩
      · rw [if_neg hml]
        refine pe_seal (by simp) ?_
        refine runE mixed fi258 ?_
        refine effE mixed [0] (hs) ?_
        refine effE mixed [1] (hr) ?_
        refine effE mixed [2] (must_nrdr l 0) ?_
        refine effE mixed [1] (hl) ?_
        exact ⟨fun q => absurd q (by omega), fun _ => trivial⟩
    · have hx : rdP 48 decOct c = .error (takeE 48 c) := by unfold rdP; rw [if_neg h2]
      rw [hx]
      have hr := rseq_er c 0 (Nat.zero_le _) hc (by rw [List.drop_zero]; exact h2)
      rw [List.drop_zero] at hr
      generalize takeE 48 c = e at *
      refine pe_seal (by simp) ?_
      refine runE mixed fi258 ?_
      refine effE mixed [0] (hs) ?_
      refine effE mixed [1] (hr) ?_
      refine effP [] (must_er_nrdr e h2) ?_; trivial
  · rw [inP_f h1]
    have hs := rtag_er i hi b n hn hb h h1
    generalize takeE (tagB i) (b.drop n) = e at *
    refine pe_seal (by simp) ?_
    refine runE mixed fi258 ?_
    refine effE mixed [0] (hs) ?_
    exact ⟨fun _ => trivial, fun q => absurd (by omega) h1⟩
theorem rcopy_c (b : List UInt8) (n : Nat) : PE Tryz.prog 255 [.ptr 0 0] [rdr b n] (.ret (.ptr 1 0)) [rdr b n, rdr b n] := by
 refine pe_seal (by simp) ?_
 refine runE mixed fi255 ?_; trivial
theorem dpanN_c (b : List UInt8) (n m e : Nat) (T2 T3 T4 T5 : TypeId) (x y : SV) (z : Value) (R : List SObj) (K : List SObj → Prop)
 (h : K ([rdr b n, .cells T2 [.ptr 0 0], .cells T3 [.raw (.slice none 0 0), rS ⟨#[]⟩], .cells T4 [rI e], rdr b n, .cells T5 [.ptr 4 0]] ++ R)) :
 DCall Tryz.prog 256 [.ptr 5 0, .ptr 1 0, .ptr 2 0, .ptr 3 0] (some (errV e)) ([rdr b m, .cells T2 [.ptr 0 0], .cells T3 [x, y], .cells T4 [.raw z], rdr b n, .cells T5 [.ptr 4 0]] ++ R) K := by
 refine dc_ri fi256 ?_
 refine run_sound mixed 13 _ ?_
 with_reducible refine sxaE ?_
 refine si_drw [1, 4, 5] mixed ?_
 refine goaE mixed ?_
 exact h
end Go.Proofs.YtddmkgibghohkaaGreatDoor
/- Contracts: reading names. -/
namespace Go.Proofs.YtddmkgibghohkaaGreatDoor
open Go Go.Sx Go.Proofs
set_option maxRecDepth 100000
set_option maxHeartbeats 4000000
set_option linter.unusedSimpArgs false

abbrev zPrin : SV := .agg [.isl .str [], rS ⟨#[]⟩]
def rO {α : Type} (res : α → SV) (z : SV) : Except Nat (α × Nat) → Out
 | .ok (v, _) => .ret (.tup [res v, rI 0])
 | .error e => .ret (.tup [z, rI e])
def rH {α : Type} (b : List UInt8) (n : Nat) : Except Nat (α × Nat) → List SObj
 | .ok (_, k) => [rdr b (n + k)]
 | .error _ => [rdr b n]
attribute [go_sem] rO rH
theorem effR_of {P : Program} {α : Type} {f : FuncId} {args : List SV} {b : List UInt8} {n : Nat} {res : α → SV} {z : SV} {x : Except Nat (α × Nat)} (h : VC P f args [rdr b n] (SealO (rO res z x) (rH b n x))) : EffR P f args b n res z x := by
 cases x with
 | error e => exact pe_seal (by simp [rH]) h
 | ok y => exact pe_seal (by simp [rH]) h
theorem read_er (b : List UInt8) (n : Nat) (hn : n ≤ b.length) (hb : b.length ≤ 1099511627776) (h : takeE 48 (b.drop n) ≠ 0) :
 EffR Tryz.prog 219 [.ptr 0 0] b n (fun p : Prin => .agg (PrinT.cells p)) zPrin (nameP (b.drop n)) := by
 have hs := rseq_er b n hn hb h
 have he : nameP (b.drop n) = .error (takeE 48 (b.drop n)) := by unfold nameP; rw [inP_f h]; rfl
 rw [he]
 clear he
 generalize takeE 48 (b.drop n) = e at *
 refine pe_seal (by simp) ?_
 refine defE mixed fi219 ?_
 refine effE mixed [0] (rcopy_c b n) ?_
 refine goE mixed ?_
 refine effE mixed [0] (hs) ?_
 refine effP [] (must_er_nrdr e h) ?_
 refine ⟨by simp, dpanN_c b n n e _ _ _ _ _ _ _ [] _ ?_⟩
 with_reducible refine sxE ?_; trivial
end Go.Proofs.YtddmkgibghohkaaGreatDoor
/- Contracts: reading names that begin with a sequence. -/
namespace Go.Proofs.YtddmkgibghohkaaGreatDoor
open Go Go.Sx Go.Proofs
set_option maxRecDepth 100000
set_option maxHeartbeats 4000000
set_option linter.unusedSimpArgs false

theorem strsP_er {β : Type} {l r : List UInt8} {f : List ByteArray → PR β} {e : Nat} (h : listP strP l.length l = .error e) : bindP (strsP l) f r = .error e := by unfold bindP strsP atP; rw [h]
theorem strsP_ok {β : Type} {l r : List UInt8} {f : List ByteArray → PR β} {xs : List ByteArray} {m : Nat} (h : listP strP l.length l = .ok (xs, m)) : bindP (strsP l) f r = shiftP 0 (f xs r) := by
 unfold bindP strsP atP
 rw [h]
 simp only [List.drop_zero]
 cases f xs r with
 | error e => rfl
 | ok y => rfl
theorem shift_sh {α : Type} {j k : Nat} {x : Except Nat (α × Nat)} : shiftP j (shiftP k x) = shiftP (j + k) x := by
 cases x with
 | error e => rfl
 | ok y => obtain ⟨u, m⟩ := y; simp only [shiftP, Nat.add_assoc]
theorem dretN_c (H : List SObj) (K : List SObj → Prop) (h : ∀ G, K (H ++ G)) : DCall Tryz.prog 256 [.ptr 5 0, .ptr 1 0, .ptr 2 0, .ptr 3 0] none H K := by
 refine recE mixed fi256 ?_
 simpa using h []
theorem read_ok (b : List UInt8) (n : Nat) (hn : n ≤ b.length) (hb : b.length ≤ 1099511627776) (h : takeE 48 (b.drop n) = 0) :
 EffR Tryz.prog 219 [.ptr 0 0] b n (fun p : Prin => .agg (PrinT.cells p)) zPrin (nameP (b.drop n)) := by
 have hs := rseq_ok b n hn hb h
 have hc := tkC_le (n := n) hb
 have he : nameP (b.drop n) = chkP vPrin (closeP (takeC (b.drop n)).length (takeN (b.drop n)) (nameIn (takeC (b.drop n)))) := by unfold nameP; rw [inP_t h]
 generalize nameP (b.drop n) = Y at *
 generalize takeC (b.drop n) = c at *
 generalize takeN (b.drop n) = N at *
 refine effR_of ?_
 unfold nameIn at he
 have f0 := frdr_c 0 (by omega) c 0 (Nat.zero_le _) hc
 rw [List.drop_zero] at f0
 refine defE mixed fi219 ?_
 refine effE mixed [0] (rcopy_c b n) ?_
 refine goE mixed ?_
 refine effE mixed [0] (hs) ?_
 refine effE mixed [6] (must_nrdr c 0) ?_
 cases h1 : needP 0 (rdP 48 decOct) c with
 | error e =>
  rw [bindP_er h1] at he
  subst he
  rw [h1] at f0
  have f0' : PE Tryz.prog 258 [.ptr 0 0, rI (0 : Nat), .fn 199 [] []] [rdr c 0] (.pan (errV e)) [.dead] := f0
  simp only [closeP, chkP]
  refine effP [6] (f0') ?_
  refine ⟨by simp, dpanN_c b n _ e _ _ _ _ _ _ _ [_] _ ?_⟩
  with_reducible refine sxE ?_; trivial
 | ok x =>
  obtain ⟨l, k⟩ := x
  rw [bindP_s0 h1] at he
  have hk := needP_fits _ _ _ h1
  rw [h1] at f0
  have f0' : PE Tryz.prog 258 [.ptr 0 0, rI (0 : Nat), .fn 199 [] []] [rdr c 0] (.ret (.ptr 2 0)) [rdr c (0 + k), .dead, rdr l 0] := f0
  rw [Nat.zero_add] at f0'
  refine effE mixed [6] (f0') ?_
  have hlb : l.length ≤ 1099511627776 := (okP_need (okP_rd (Q := fun v : List UInt8 => v.length ≤ 1099511627776) fun c v hc hd => by unfold decOct at hd; cases hd; exact hc)) c l k hc h1
  generalize hX : listP strP l.length l = X
  refine si_nilcell 2 0 .str rfl rfl rfl ?_
  with_reducible refine sxE ?_
  refine si_loopX (ι := Nat × List ByteArray × List SObj) (fun s => []) (fun s => [rdr b (n + N), .cells 114 [.ptr 0 0], .cells 24 [.bld (s.2.2.length + 9) .str s.2.1.length, rS ⟨#[]⟩], .cells 38 [rI 0], rdr b n, .cells 114 [.ptr 4 0], rdr c k, .dead, rdr l s.1] ++ s.2.2 ++ [.row .str s.2.1]) (fun s => l.length - s.1) (fun s => s.2.1.length ≤ s.1 ∧ s.1 ≤ l.length ∧ (∀ x ∈ s.2.1, x.size ≤ 1099511627776) ∧ X = tailP s.2.1 s.1 (listP strP (l.length - s.2.1.length) (l.drop s.1))) (0, [], []) ⟨Nat.le_refl _, Nat.zero_le _, by simp, ?_⟩ rfl ?_ ?_
  · rw [List.drop_zero, List.length_nil, Nat.sub_zero, tailP_id]; exact hX.symm
  · with_reducible refine sxE ?_; trivial
  rintro ⟨m, xs, G⟩ ⟨i1, i2, i4, i3⟩
  dsimp only at i1 i2 i3 i4
  have hleft := left_c l m i2
  refine goaE mixed ?_
  refine callI_eff [8] hleft rfl (by decide) ⟨rfl, rfl, trivial⟩ rfl rfl ?_
  simp only [afterO, Out.ren, SV.ren, mgA, sig, SObj.ren, SV.renL, List.cons_append, List.nil_append, List.append_assoc, List.set_cons_zero, List.set_cons_succ, List.set, List.map, List.append_nil]
  refine run_sound mixed 5 _ ?_
  with_reducible refine sxaE ?_
  refine ⟨fun hp0 => ?_, fun hp0 => ?_⟩
  · have hml : m < l.length := by omega
    refine si_drwP [2] mixed ?_
    refine goaE mixed ?_
    cases hp : strP (l.drop m) with
    | error e =>
     have hr := rstr_er l m i2 hlb hp
     have hXe := i3.trans (listP_bad hml (by omega) hp)
     rw [strsP_er (hX.trans hXe)] at he
     subst he
     simp only [shiftP, closeP, chkP]
     refine callR_eff [8] hr rfl (by decide) ⟨rfl, rfl, trivial⟩ rfl rfl ?_ ?_
     · simp (maxSteps := 3000000) only [mgA, sig, sameG_cons, sameG_nil, List.append_assoc, getA, getA0, setA, setA0, List.length_append, Nat.add_assoc, go_sem, ↓zA, ↓reduceIte, ↓reduceDIte, reduceCtorEq, Nat.reduceAdd, Nat.reduceSub, Nat.reduceLeDiff, Nat.reduceLT, Nat.reduceEqDiff, Nat.reduceBEq, Nat.reduceMul, Int.reduceToNat, Int.reduceEq, Int.reduceLT, Int.reduceLE] <;> try simp only [zB]
     · simp only [afterR, Out.ren, SV.ren, mgA, sig, SObj.ren, SV.renL, List.cons_append, List.nil_append, List.append_assoc, List.set_cons_zero, List.set_cons_succ, List.set, List.map, List.append_nil]
       refine goaE mixed ?_
       refine callR_eff [] (must_er_nstr (.string ⟨#[]⟩) e (rdP_ne hp)) rfl (by decide) trivial rfl rfl ?_ ?_
       · simp (maxSteps := 3000000) only [mgA, sig, sameG_cons, sameG_nil, List.append_assoc, getA, getA0, setA, setA0, List.length_append, Nat.add_assoc, go_sem, ↓zA, ↓reduceIte, ↓reduceDIte, reduceCtorEq, Nat.reduceAdd, Nat.reduceSub, Nat.reduceLeDiff, Nat.reduceLT, Nat.reduceEqDiff, Nat.reduceBEq, Nat.reduceMul, Int.reduceToNat, Int.reduceEq, Int.reduceLT, Int.reduceLE] <;> try simp only [zB]
       · simp only [afterR, Out.ren, SV.ren, mgA, sig, SObj.ren, SV.renL, List.cons_append, List.nil_append, List.append_assoc, List.set_cons_zero, List.set_cons_succ, List.set, List.map, List.append_nil]
         refine cutQ_p ?_
         with_reducible refine sxaE ?_
         refine ⟨by simp, ?_⟩
         have hpan := fun K hK => dpanN_c b n (n + N) e 114 24 38 114 (.bld (G.length + 9) .str xs.length) (rS ⟨#[]⟩) (.int .i64 0) ([rdr c k, .dead, rdr l m] ++ G ++ [.row .str xs]) K hK
         simp only [List.cons_append, List.nil_append, List.append_assoc] at hpan
         refine hpan _ ?_
         with_reducible refine sxaE ?_; trivial
    | ok y =>
     obtain ⟨v, q⟩ := y
     have hr := rstr_ok l m i2 hlb hp
     have hfit := rdP_le hp
     have hq2 := takeN_pos (rdP_ok hp).1
     have hq : 2 ≤ q := by rw [(rdP_ok hp).2.2]; exact hq2
     have hvs := okP_str (l.drop m) v q (by rw [List.length_drop]; omega) hp
     rw [List.length_drop] at hfit
     have hXs := i3.trans (listP_step hml (by omega) hp)
     refine callR_eff [8] hr rfl (by decide) ⟨rfl, rfl, trivial⟩ rfl rfl ?_ ?_
     · simp (maxSteps := 3000000) only [mgA, sig, sameG_cons, sameG_nil, List.append_assoc, getA, getA0, setA, setA0, List.length_append, Nat.add_assoc, go_sem, ↓zA, ↓reduceIte, ↓reduceDIte, reduceCtorEq, Nat.reduceAdd, Nat.reduceSub, Nat.reduceLeDiff, Nat.reduceLT, Nat.reduceEqDiff, Nat.reduceBEq, Nat.reduceMul, Int.reduceToNat, Int.reduceEq, Int.reduceLT, Int.reduceLE] <;> try simp only [zB]
     · simp only [afterR, Out.ren, SV.ren, mgA, sig, SObj.ren, SV.renL, List.cons_append, List.nil_append, List.append_assoc, List.set_cons_zero, List.set_cons_succ, List.set, List.map, List.append_nil]
       refine goaE mixed ?_
       refine callR_pure (must_nstr _) ?_
       refine goaE mixed ?_
       refine ⟨by show v.size ≤ _; omega, ⟨by omega, by omega⟩, cutQ_n ?_⟩
       refine goaE mixed ?_
       refine ⟨(m + q, xs ++ [v], G ++ [.dead, .row .str [v]]), ⟨by simp; omega, by dsimp only; omega, fun x hx => ?_, ?_⟩, by dsimp only; omega, ?_, ?_⟩
       · rcases List.mem_append.1 hx with hx | hx
         · exact i4 x hx
         · rw [List.mem_singleton] at hx; subst hx; exact hvs
       · dsimp only
         rw [hXs, List.length_append, List.length_singleton, Nat.sub_sub]
       · simp
       · with_reducible refine sxaE ?_; trivial
  · have hXe := i3.trans (listP_end (by omega))
    rw [strsP_ok (hX.trans hXe), shift_sh, Nat.add_zero] at he
    clear hX hXe i3
    refine si_compact (ty := .str) (xs := xs) [rdr b (n + N), .cells 114 [.ptr 0 0], .cells 24 [.bld (G.length + 9) .str xs.length, rS ⟨#[]⟩], .cells 38 [rI 0], rdr b n, .cells 114 [.ptr 4 0], rdr c k, .dead, rdr l m] [rdr b (n + N), .cells 114 [.ptr 0 0], .cells 24 [.bld 9 .str xs.length, rS ⟨#[]⟩], .cells 38 [rI 0], rdr b n, .cells 114 [.ptr 4 0], rdr c k, .dead, rdr l m] G rfl (by simp) (by simp) ?_ (by rfl) ?_ ?_ ?_
    · simp [SObj.ren, SV.ren, SV.renL, shift, Nat.add_comm]
    · rfl
    · with_reducible refine sxE ?_; trivial
    with_reducible refine sxE ?_
    have hxs : xs.length ≤ 1099511627776 := by omega
    refine si_freeze 9 rfl rfl (by omega) ?_ ?_ ?_
    · with_reducible refine sxE ?_
      exact Nat.le_refl _
    · with_reducible refine sxE ?_; trivial
    with_reducible refine sxE ?_
    rw [List.take_of_length_le (Nat.le_refl _)]
    have hf1 := fstr_c 1 (by omega) c k hk hc
    cases h2 : needP 1 strP (c.drop k) with
    | error e =>
     rw [bindP_er h2] at he
     subst he
     have hf1' := effX_er hf1 h2
     simp only [shiftP, closeP, chkP]
     refine goE mixed ?_
     refine effP [6] (hf1') ?_
     refine ⟨by simp, ?_⟩
     have hpan := fun K hK => dpanN_c b n (n + N) e 114 24 38 114 (.isl .str xs) (rS ⟨#[]⟩) (.int .i64 0) [.dead, .dead, rdr l m, .dead] K hK
     simp only [List.cons_append, List.nil_append, List.append_assoc] at hpan
     refine hpan _ ?_
     with_reducible refine sxE ?_; trivial
    | ok y =>
     obtain ⟨t, q⟩ := y
     rw [bindP_st h2] at he
     have hf1' := effX_ok hf1 h2
     have hkq := fits_at needP_fits hk h2
     have hts := okP_need okP_str (c.drop k) t q (by rw [List.length_drop]; omega) h2
     have hlq := left_c c (k + q) hkq
     simp only [shiftP, retP, closeP] at he
     refine goE mixed ?_
     refine effE mixed [6] (hf1') ?_
     refine effE mixed [6] (hlq) ?_
     refine ⟨fun hle => callI_pure (nvalid_c (xs, t) ⟨⟨by show xs.length ≤ _; omega, fun x hx => by have := i4 x hx; show x.size ≤ _; omega⟩, by show t.size ≤ _; omega⟩) ?_, fun hgt => ⟨by simp, ?_⟩⟩
     · rw [if_neg (by omega)] at he
       simp only [chkP] at he
       cases hv : vPrin (xs, t) with
       | true =>
        rw [if_pos hv] at he
        subst he
        refine goE mixed ?_
        refine dretN_c _ _ fun G => ?_
        with_reducible refine sxE ?_; trivial
       | false =>
        rw [if_neg (by rw [hv]; decide)] at he
        subst he
        refine goE mixed ?_
        refine ⟨by simp, ?_⟩
        have hpan := fun K hK => dpanN_c b n (n + N) 6 114 24 38 114 (.isl .str xs) (rS t) (.int .i64 0) [rdr c (k + q), .dead, rdr l m, .dead] K hK
        simp only [List.cons_append, List.nil_append, List.append_assoc] at hpan
        refine hpan _ ?_
        with_reducible refine sxE ?_; trivial
     · rw [if_pos (by omega)] at he
       simp only [chkP] at he
       subst he
       have hpan := fun K hK => dpanN_c b n (n + N) 6 114 24 38 114 (.isl .str xs) (rS t) (.int .i64 0) [rdr c (k + q), .dead, rdr l m, .dead] K hK
       simp only [List.cons_append, List.nil_append, List.append_assoc] at hpan
       refine hpan _ ?_
       with_reducible refine sxE ?_; trivial
end Go.Proofs.YtddmkgibghohkaaGreatDoor
/- Contracts: a principal and octets of an entry read. -/
namespace Go.Proofs.YtddmkgibghohkaaGreatDoor
open Go Go.Sx Go.Proofs
set_option maxRecDepth 100000
set_option maxHeartbeats 4000000
set_option linter.unusedSimpArgs false

theorem read_c (b : List UInt8) (n : Nat) (hn : n ≤ b.length) (hb : b.length ≤ 1099511627776) :
 EffR Tryz.prog 219 [.ptr 0 0] b n (fun p : Prin => .agg (PrinT.cells p)) zPrin (nameP (b.drop n)) := by
 by_cases h : takeE 48 (b.drop n) = 0
 · exact read_ok b n hn hb h
 · exact read_er b n hn hb h
theorem take_prin (v : Prin) : PC Tryz.prog 218 [.agg (PrinT.cells v), rI 0] (.agg (PrinT.cells v)) := by
 refine pc_seal rfl rfl ?_
 refine runE mixed fi218 ?_
 refine callI_require (fun _ => ?_) fun h => absurd h (by decide)
 refine goE mixed ?_; trivial
theorem take_er_prin (e : Nat) (he : e ≠ 0) : PE Tryz.prog 218 [zPrin, rI e] [] (.pan wrongV) [] := by
 refine pe_seal (by simp) ?_
 refine runE mixed fi218 ?_
 refine callI_require (fun h => absurd h (by simp; omega)) fun _ => ?_
 with_reducible refine sxE ?_; trivial
theorem eprin_c (b : List UInt8) (n : Nat) (hn : n ≤ b.length) (hb : b.length ≤ 1099511627776) :
 Eff Tryz.prog 179 [.agg [.ptr 0 0]] b n [] (fun v : Prin => .agg (PrinT.cells v)) (fun _ => []) (nameP (b.drop n)) := by
 have hr := read_c b n hn hb
 cases hx : nameP (b.drop n) with
 | error e =>
  have hr' := effR_er hr hx
  refine pe_seal (by simp) ?_
  refine runE mixed fi179 ?_
  refine effE mixed [0] (hr') ?_
  refine effP [] (take_er_prin e (nameP_ne _ _ hx)) ?_; trivial
 | ok x =>
  obtain ⟨v, k⟩ := x
  have hr' := effR_ok hr hx
  refine pe_seal (by simp) ?_
  refine runE mixed fi179 ?_
  refine effE mixed [0] (hr') ?_
  refine callI_pure (take_prin _) ?_
  refine goE mixed ?_; trivial
theorem eoct_c (b : List UInt8) (n : Nat) (hn : n ≤ b.length) (hb : b.length ≤ 1099511627776) :
 Eff Tryz.prog 190 [.agg [.ptr 0 0]] b n [] (fun v : List UInt8 => .isl .u8 v) (fun _ => []) (octP (b.drop n)) := by
 cases hx : octP (b.drop n) with
 | error e =>
  have hr := roct_er b n hn hb hx
  refine pe_seal (by simp) ?_
  refine runE mixed fi190 ?_
  refine effE mixed [0] (hr) ?_
  refine effP [] (take_er_bytes e (rdP_ne hx)) ?_; trivial
 | ok x =>
  obtain ⟨v, k⟩ := x
  have hr := roct_ok b n hn hb hx
  refine pe_seal (by simp) ?_
  refine runE mixed fi190 ?_
  refine effE mixed [0] (hr) ?_
  refine callI_pure (take_bytes _) ?_
  refine goE mixed ?_; trivial
end Go.Proofs.YtddmkgibghohkaaGreatDoor
/- Contracts: reading lists that may be absent. -/
namespace Go.Proofs.YtddmkgibghohkaaGreatDoor
open Go Go.Sx Go.Proofs
set_option maxRecDepth 100000
set_option maxHeartbeats 4000000
set_option linter.unusedSimpArgs false

theorem mlist1_key (g : Nat) (p : PR (KeyT).den) (hp : FitsP p) (most : Nat) (hmost : most ≤ 1000) (b : List UInt8) (n : Nat) (hn : n ≤ b.length) (hb : b.length ≤ 1099511627776) (T T2 T3 : TypeId)
 (hok : ∀ c v q, c.length ≤ 1099511627776 → p c = .ok (v, q) → (KeyT).ok v)
 (hg : ∀ (c : List UInt8) m, m ≤ c.length → c.length ≤ 1099511627776 → Eff Tryz.prog g [.agg [.ptr 0 0]] c m [] (fun x => .agg ((KeyT).cells x)) (fun _ => []) (p (c.drop m))) :
 Eff Tryz.prog 263 [.agg [.ptr 0 0], .ptr 1 0, .ptr 2 0, .ptr 3 0] b n [.cells T [rI most], .cells T2 [.fn g [] []], .cells T3 [.raw (.slice none 0 0)]] (fun _ => .tup []) (fun l => [.cells T [rI most], .cells T2 [.fn g [] []], .cells T3 [.isl (KeyT) l]]) (inP 48 (listP p most) (b.drop n)) := by
 have hv := values_key g p hp most hmost b n hn hb hok hg
 cases hx : inP 48 (listP p most) (b.drop n) with
 | error e =>
  have hm' := eff_er hv hx
  refine pe_seal (by simp) ?_
  refine runE mixed fi263 ?_
  refine effP [0] (hm') ?_; trivial
 | ok x =>
  obtain ⟨v, k⟩ := x
  have hm' := eff_ok hv hx
  refine pe_seal (by simp) ?_
  refine runE mixed fi263 ?_
  refine effE mixed [0] (hm') ?_; trivial
theorem mlist_key (g : Nat) (p : PR (KeyT).den) (hp : FitsP p) (i : Nat) (hi : i ≤ 30) (most : Nat) (hmost : most ≤ 1000) (b : List UInt8) (n : Nat) (hn : n ≤ b.length) (hb : b.length ≤ 1099511627776)
 (hok : ∀ c v q, c.length ≤ 1099511627776 → p c = .ok (v, q) → (KeyT).ok v)
 (hg : ∀ (c : List UInt8) m, m ≤ c.length → c.length ≤ 1099511627776 → Eff Tryz.prog g [.agg [.ptr 0 0]] c m [] (fun x => .agg ((KeyT).cells x)) (fun _ => []) (p (c.drop m))) :
 Eff Tryz.prog 229 [.agg [.ptr 0 0], rI i, rI most, .fn g [] []] b n [] (fun l => .isl (KeyT) l) (fun _ => []) (dfltP [] i (inP 48 (listP p most)) (b.drop n)) := by
 cases h : nextB i (b.drop n) with
 | false =>
  rw [dfltP_no h]
  have hm := fun T T2 T3 => maybe_no3 263 i hi b n hn T T2 T3 [rI most] [.fn g [] []] [.raw (.slice none 0 0)] (cln_raw cln_nil) (cln_fn cln_nil) (cln_raw cln_nil) h
  refine pe_seal (by simp) ?_
  refine runE mixed fi229 ?_
  refine effE mixed [0, 2, 3, 4] (hm _ _ _) ?_
  rfl
 | true =>
  rw [dfltP_in h]
  have hg1 := fun T T2 T3 => mlist1_key g p hp most hmost (takeC (b.drop n)) 0 (Nat.zero_le _) (tkC_le hb) T T2 T3 hok hg
  simp only [List.drop_zero] at hg1
  have hm := fun T T2 T3 => maybe_in3 263 i hi b n hn hb T T2 T3 [rI most] [.fn g [] []] [.raw (.slice none 0 0)] (cln_raw cln_nil) (cln_fn cln_nil) (cln_raw cln_nil) (inP 48 (listP p most)) inP_fits (fun _ => [rI most]) (fun _ => [.fn g [] []]) (fun l => [.isl (KeyT) l]) (fun _ => cln_raw cln_nil) (fun _ => cln_fn cln_nil) (fun _ => cln_isl cln_nil) (hg1 T T2 T3) h
  cases hx : inP (tagB i) (inP 48 (listP p most)) (b.drop n) with
  | error e =>
   have hm' := fun T T2 T3 => eff_er (hm T T2 T3) hx
   refine pe_seal (by simp) ?_
   refine runE mixed fi229 ?_
   refine effP [0, 2, 3, 4] (hm' _ _ _) ?_; trivial
  | ok x =>
   obtain ⟨v, k⟩ := x
   have hm' := fun T T2 T3 => eff_ok (hm T T2 T3) hx
   refine pe_seal (by simp) ?_
   refine runE mixed fi229 ?_
   refine effE mixed [0, 2, 3, 4] (hm' _ _ _) ?_; trivial
theorem mlist1_prin (g : Nat) (p : PR (PrinT).den) (hp : FitsP p) (most : Nat) (hmost : most ≤ 1000) (b : List UInt8) (n : Nat) (hn : n ≤ b.length) (hb : b.length ≤ 1099511627776) (T T2 T3 : TypeId)
 (hok : ∀ c v q, c.length ≤ 1099511627776 → p c = .ok (v, q) → (PrinT).ok v)
 (hg : ∀ (c : List UInt8) m, m ≤ c.length → c.length ≤ 1099511627776 → Eff Tryz.prog g [.agg [.ptr 0 0]] c m [] (fun x => .agg ((PrinT).cells x)) (fun _ => []) (p (c.drop m))) :
 Eff Tryz.prog 220 [.agg [.ptr 0 0], .ptr 1 0, .ptr 2 0, .ptr 3 0] b n [.cells T [rI most], .cells T2 [.fn g [] []], .cells T3 [.raw (.slice none 0 0)]] (fun _ => .tup []) (fun l => [.cells T [rI most], .cells T2 [.fn g [] []], .cells T3 [.isl (PrinT) l]]) (inP 48 (listP p most) (b.drop n)) := by
 have hv := values_prin g p hp most hmost b n hn hb hok hg
 cases hx : inP 48 (listP p most) (b.drop n) with
 | error e =>
  have hm' := eff_er hv hx
  refine pe_seal (by simp) ?_
  refine runE mixed fi220 ?_
  refine effP [0] (hm') ?_; trivial
 | ok x =>
  obtain ⟨v, k⟩ := x
  have hm' := eff_ok hv hx
  refine pe_seal (by simp) ?_
  refine runE mixed fi220 ?_
  refine effE mixed [0] (hm') ?_; trivial
theorem mlist_prin (g : Nat) (p : PR (PrinT).den) (hp : FitsP p) (i : Nat) (hi : i ≤ 30) (most : Nat) (hmost : most ≤ 1000) (b : List UInt8) (n : Nat) (hn : n ≤ b.length) (hb : b.length ≤ 1099511627776)
 (hok : ∀ c v q, c.length ≤ 1099511627776 → p c = .ok (v, q) → (PrinT).ok v)
 (hg : ∀ (c : List UInt8) m, m ≤ c.length → c.length ≤ 1099511627776 → Eff Tryz.prog g [.agg [.ptr 0 0]] c m [] (fun x => .agg ((PrinT).cells x)) (fun _ => []) (p (c.drop m))) :
 Eff Tryz.prog 180 [.agg [.ptr 0 0], rI i, rI most, .fn g [] []] b n [] (fun l => .isl (PrinT) l) (fun _ => []) (dfltP [] i (inP 48 (listP p most)) (b.drop n)) := by
 cases h : nextB i (b.drop n) with
 | false =>
  rw [dfltP_no h]
  have hm := fun T T2 T3 => maybe_no3 220 i hi b n hn T T2 T3 [rI most] [.fn g [] []] [.raw (.slice none 0 0)] (cln_raw cln_nil) (cln_fn cln_nil) (cln_raw cln_nil) h
  refine pe_seal (by simp) ?_
  refine runE mixed fi180 ?_
  refine effE mixed [0, 2, 3, 4] (hm _ _ _) ?_
  rfl
 | true =>
  rw [dfltP_in h]
  have hg1 := fun T T2 T3 => mlist1_prin g p hp most hmost (takeC (b.drop n)) 0 (Nat.zero_le _) (tkC_le hb) T T2 T3 hok hg
  simp only [List.drop_zero] at hg1
  have hm := fun T T2 T3 => maybe_in3 220 i hi b n hn hb T T2 T3 [rI most] [.fn g [] []] [.raw (.slice none 0 0)] (cln_raw cln_nil) (cln_fn cln_nil) (cln_raw cln_nil) (inP 48 (listP p most)) inP_fits (fun _ => [rI most]) (fun _ => [.fn g [] []]) (fun l => [.isl (PrinT) l]) (fun _ => cln_raw cln_nil) (fun _ => cln_fn cln_nil) (fun _ => cln_isl cln_nil) (hg1 T T2 T3) h
  cases hx : inP (tagB i) (inP 48 (listP p most)) (b.drop n) with
  | error e =>
   have hm' := fun T T2 T3 => eff_er (hm T T2 T3) hx
   refine pe_seal (by simp) ?_
   refine runE mixed fi180 ?_
   refine effP [0, 2, 3, 4] (hm' _ _ _) ?_; trivial
  | ok x =>
   obtain ⟨v, k⟩ := x
   have hm' := fun T T2 T3 => eff_ok (hm T T2 T3) hx
   refine pe_seal (by simp) ?_
   refine runE mixed fi180 ?_
   refine effE mixed [0, 2, 3, 4] (hm' _ _ _) ?_; trivial
theorem mlist1_kset (g : Nat) (p : PR (SetT).den) (hp : FitsP p) (most : Nat) (hmost : most ≤ 1000) (b : List UInt8) (n : Nat) (hn : n ≤ b.length) (hb : b.length ≤ 1099511627776) (T T2 T3 : TypeId)
 (hok : ∀ c v q, c.length ≤ 1099511627776 → p c = .ok (v, q) → (SetT).ok v)
 (hg : ∀ (c : List UInt8) m, m ≤ c.length → c.length ≤ 1099511627776 → Eff Tryz.prog g [.agg [.ptr 0 0]] c m [] (fun x => .agg ((SetT).cells x)) (fun _ => []) (p (c.drop m))) :
 Eff Tryz.prog 226 [.agg [.ptr 0 0], .ptr 1 0, .ptr 2 0, .ptr 3 0] b n [.cells T [rI most], .cells T2 [.fn g [] []], .cells T3 [.raw (.slice none 0 0)]] (fun _ => .tup []) (fun l => [.cells T [rI most], .cells T2 [.fn g [] []], .cells T3 [.isl (SetT) l]]) (inP 48 (listP p most) (b.drop n)) := by
 have hv := values_kset g p hp most hmost b n hn hb hok hg
 cases hx : inP 48 (listP p most) (b.drop n) with
 | error e =>
  have hm' := eff_er hv hx
  refine pe_seal (by simp) ?_
  refine runE mixed fi226 ?_
  refine effP [0] (hm') ?_; trivial
 | ok x =>
  obtain ⟨v, k⟩ := x
  have hm' := eff_ok hv hx
  refine pe_seal (by simp) ?_
  refine runE mixed fi226 ?_
  refine effE mixed [0] (hm') ?_; trivial
theorem mlist_kset (g : Nat) (p : PR (SetT).den) (hp : FitsP p) (i : Nat) (hi : i ≤ 30) (most : Nat) (hmost : most ≤ 1000) (b : List UInt8) (n : Nat) (hn : n ≤ b.length) (hb : b.length ≤ 1099511627776)
 (hok : ∀ c v q, c.length ≤ 1099511627776 → p c = .ok (v, q) → (SetT).ok v)
 (hg : ∀ (c : List UInt8) m, m ≤ c.length → c.length ≤ 1099511627776 → Eff Tryz.prog g [.agg [.ptr 0 0]] c m [] (fun x => .agg ((SetT).cells x)) (fun _ => []) (p (c.drop m))) :
 Eff Tryz.prog 185 [.agg [.ptr 0 0], rI i, rI most, .fn g [] []] b n [] (fun l => .isl (SetT) l) (fun _ => []) (dfltP [] i (inP 48 (listP p most)) (b.drop n)) := by
 cases h : nextB i (b.drop n) with
 | false =>
  rw [dfltP_no h]
  have hm := fun T T2 T3 => maybe_no3 226 i hi b n hn T T2 T3 [rI most] [.fn g [] []] [.raw (.slice none 0 0)] (cln_raw cln_nil) (cln_fn cln_nil) (cln_raw cln_nil) h
  refine pe_seal (by simp) ?_
  refine runE mixed fi185 ?_
  refine effE mixed [0, 2, 3, 4] (hm _ _ _) ?_
  rfl
 | true =>
  rw [dfltP_in h]
  have hg1 := fun T T2 T3 => mlist1_kset g p hp most hmost (takeC (b.drop n)) 0 (Nat.zero_le _) (tkC_le hb) T T2 T3 hok hg
  simp only [List.drop_zero] at hg1
  have hm := fun T T2 T3 => maybe_in3 226 i hi b n hn hb T T2 T3 [rI most] [.fn g [] []] [.raw (.slice none 0 0)] (cln_raw cln_nil) (cln_fn cln_nil) (cln_raw cln_nil) (inP 48 (listP p most)) inP_fits (fun _ => [rI most]) (fun _ => [.fn g [] []]) (fun l => [.isl (SetT) l]) (fun _ => cln_raw cln_nil) (fun _ => cln_fn cln_nil) (fun _ => cln_isl cln_nil) (hg1 T T2 T3) h
  cases hx : inP (tagB i) (inP 48 (listP p most)) (b.drop n) with
  | error e =>
   have hm' := fun T T2 T3 => eff_er (hm T T2 T3) hx
   refine pe_seal (by simp) ?_
   refine runE mixed fi185 ?_
   refine effP [0, 2, 3, 4] (hm' _ _ _) ?_; trivial
  | ok x =>
   obtain ⟨v, k⟩ := x
   have hm' := fun T T2 T3 => eff_ok (hm T T2 T3) hx
   refine pe_seal (by simp) ?_
   refine runE mixed fi185 ?_
   refine effE mixed [0, 2, 3, 4] (hm' _ _ _) ?_; trivial
theorem mlist1_bytes (g : Nat) (p : PR ((Ty.slice .u8)).den) (hp : FitsP p) (most : Nat) (hmost : most ≤ 1000) (b : List UInt8) (n : Nat) (hn : n ≤ b.length) (hb : b.length ≤ 1099511627776) (T T2 T3 : TypeId)
 (hok : ∀ c v q, c.length ≤ 1099511627776 → p c = .ok (v, q) → ((Ty.slice .u8)).ok v)
 (hg : ∀ (c : List UInt8) m, m ≤ c.length → c.length ≤ 1099511627776 → Eff Tryz.prog g [.agg [.ptr 0 0]] c m [] (fun x => .isl .u8 x) (fun _ => []) (p (c.drop m))) :
 Eff Tryz.prog 235 [.agg [.ptr 0 0], .ptr 1 0, .ptr 2 0, .ptr 3 0] b n [.cells T [rI most], .cells T2 [.fn g [] []], .cells T3 [.raw (.slice none 0 0)]] (fun _ => .tup []) (fun l => [.cells T [rI most], .cells T2 [.fn g [] []], .cells T3 [.isl ((Ty.slice .u8)) l]]) (inP 48 (listP p most) (b.drop n)) := by
 have hv := values_bytes g p hp most hmost b n hn hb hok hg
 cases hx : inP 48 (listP p most) (b.drop n) with
 | error e =>
  have hm' := eff_er hv hx
  refine pe_seal (by simp) ?_
  refine runE mixed fi235 ?_
  refine effP [0] (hm') ?_; trivial
 | ok x =>
  obtain ⟨v, k⟩ := x
  have hm' := eff_ok hv hx
  refine pe_seal (by simp) ?_
  refine runE mixed fi235 ?_
  refine effE mixed [0] (hm') ?_; trivial
theorem mlist_bytes (g : Nat) (p : PR ((Ty.slice .u8)).den) (hp : FitsP p) (i : Nat) (hi : i ≤ 30) (most : Nat) (hmost : most ≤ 1000) (b : List UInt8) (n : Nat) (hn : n ≤ b.length) (hb : b.length ≤ 1099511627776)
 (hok : ∀ c v q, c.length ≤ 1099511627776 → p c = .ok (v, q) → ((Ty.slice .u8)).ok v)
 (hg : ∀ (c : List UInt8) m, m ≤ c.length → c.length ≤ 1099511627776 → Eff Tryz.prog g [.agg [.ptr 0 0]] c m [] (fun x => .isl .u8 x) (fun _ => []) (p (c.drop m))) :
 Eff Tryz.prog 189 [.agg [.ptr 0 0], rI i, rI most, .fn g [] []] b n [] (fun l => .isl ((Ty.slice .u8)) l) (fun _ => []) (dfltP [] i (inP 48 (listP p most)) (b.drop n)) := by
 cases h : nextB i (b.drop n) with
 | false =>
  rw [dfltP_no h]
  have hm := fun T T2 T3 => maybe_no3 235 i hi b n hn T T2 T3 [rI most] [.fn g [] []] [.raw (.slice none 0 0)] (cln_raw cln_nil) (cln_fn cln_nil) (cln_raw cln_nil) h
  refine pe_seal (by simp) ?_
  refine runE mixed fi189 ?_
  refine effE mixed [0, 2, 3, 4] (hm _ _ _) ?_
  rfl
 | true =>
  rw [dfltP_in h]
  have hg1 := fun T T2 T3 => mlist1_bytes g p hp most hmost (takeC (b.drop n)) 0 (Nat.zero_le _) (tkC_le hb) T T2 T3 hok hg
  simp only [List.drop_zero] at hg1
  have hm := fun T T2 T3 => maybe_in3 235 i hi b n hn hb T T2 T3 [rI most] [.fn g [] []] [.raw (.slice none 0 0)] (cln_raw cln_nil) (cln_fn cln_nil) (cln_raw cln_nil) (inP 48 (listP p most)) inP_fits (fun _ => [rI most]) (fun _ => [.fn g [] []]) (fun l => [.isl ((Ty.slice .u8)) l]) (fun _ => cln_raw cln_nil) (fun _ => cln_fn cln_nil) (fun _ => cln_isl cln_nil) (hg1 T T2 T3) h
  cases hx : inP (tagB i) (inP 48 (listP p most)) (b.drop n) with
  | error e =>
   have hm' := fun T T2 T3 => eff_er (hm T T2 T3) hx
   refine pe_seal (by simp) ?_
   refine runE mixed fi189 ?_
   refine effP [0, 2, 3, 4] (hm' _ _ _) ?_; trivial
  | ok x =>
   obtain ⟨v, k⟩ := x
   have hm' := fun T T2 T3 => eff_ok (hm T T2 T3) hx
   refine pe_seal (by simp) ?_
   refine runE mixed fi189 ?_
   refine effE mixed [0, 2, 3, 4] (hm' _ _ _) ?_; trivial
end Go.Proofs.YtddmkgibghohkaaGreatDoor
