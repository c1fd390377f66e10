/- The plain law: the program and the reference tell the same of entries. -/
import Derived.Test.YthmoognbccfpiaaGreatDoorPRv
import Derived.Test.YthmoognbccfpiaaGreatDoorP16
import Derived.Test.YthmoognbccfpiaaGreatDoorP10
import Derived.RangeFuncRecord
set_option linter.unusedSimpArgs false
set_option linter.unusedVariables false
set_option linter.unusedSectionVars false
namespace Go.Proofs.YthmoognbccfpiaaGreatDoor
open Go Go.Sx Go.Proofs
set_option maxRecDepth 100000
set_option maxHeartbeats 1000000
set_option linter.unusedSimpArgs false

theorem getD_at {α : Type} {l : List α} {d : α} {j : Nat} (h : j < l.length) : l.getD j d = l[j] := by
 rw [List.getD_eq_getElem?_getD, List.getElem?_eq_getElem h]; rfl
end Go.Proofs.YthmoognbccfpiaaGreatDoor

/- Contracts: the reference's offers. -/
namespace Go.Proofs.YthmoognbccfpiaaGreatDoor
open Go Go.Sx Go.Proofs
set_option maxRecDepth 100000
set_option maxHeartbeats 4000000
set_option linter.unusedSimpArgs false

theorem lenS_len (n : Nat) : (lenS n).length ≤ 4 := by
 unfold lenS
 split
 · simp
 · split
   · simp
   · split <;> simp
theorem elemS_len (t : UInt8) (l : List (List UInt8)) : (elemS t l).length ≤ l.flatten.length + 5 := by
 unfold elemS
 split
 · have := lenS_len l.flatten.length
   simp only [tlv, List.length_cons, List.length_append]; omega
 · simp
theorem wrapS_len (t n : Int) (b : List UInt8) : (wrapS t n b).length ≤ b.length + 5 := by
 unfold wrapS
 split
 · have := elemS_len (byteOf (t + n)) [b]
   simp only [List.flatten_cons, List.flatten_nil, List.append_nil] at this
   exact this
 · simp
theorem intSz_le (v : Int) : intSz v ≤ 9 := by
 unfold intSz
 cases h : firstN 9 (oneB v) with
 | none => simp
 | some k => have := (firstN_spec h).1; simp; omega
theorem intS_len (v : Int) : (intS v).length ≤ 14 := by
 unfold intS
 split
 · have h1 := elemS_len 2 [numS v (intSz v)]
   have h2 := intSz_le v
   simp only [List.flatten_cons, List.flatten_nil, List.append_nil, numS, List.length_map, List.length_range] at h1 h2 ⊢
   omega
 · simp
theorem rint_i (v : Int) (hv : 0 ≤ v ∧ v ≤ 4611686018427387904) : PC Tryz.prog 48 [rI v] (.isl .u8 (intS v)) := by
 obtain ⟨n, rfl⟩ : ∃ n : Nat, v = n := ⟨v.toNat, by omega⟩
 exact rint_c n (by omega)
end Go.Proofs.YthmoognbccfpiaaGreatDoor

/- Contracts: the reference's encoding of principals, keys, sets. -/
namespace Go.Proofs.YthmoognbccfpiaaGreatDoor
open Go Go.Sx Go.Proofs
set_option maxRecDepth 100000
set_option maxHeartbeats 4000000
set_option linter.unusedSimpArgs false

theorem flat_le {B : Nat} : ∀ (m : List (List UInt8)), (∀ x ∈ m, x.length ≤ B) → m.flatten.length ≤ B * m.length
 | [], _ => by simp
 | x :: m, h => by
  have h1 := h x (by simp)
  have h2 := flat_le m (fun y hy => h y (by simp [hy]))
  simp only [List.flatten_cons, List.length_append, List.length_cons, Nat.mul_add, Nat.mul_one]
  omega
theorem strsN_flat {l : List ByteArray} {k : Nat} (hl : l.length ≤ 4) (h : ∀ x ∈ l, x.size ≤ 32) : (strsN l k).flatten.length ≤ 148 := by
 have h1 := flat_le (B := 37) (strsN l k) (fun x hx => by
  unfold strsN at hx
  rw [List.mem_map] at hx
  obtain ⟨y, hy, rfl⟩ := hx
  have h2 := h y (List.mem_of_mem_take hy)
  have h3 := elemS_len 27 [y.data.toList]
  have h4 : y.data.toList.length = y.size := by simp
  simp only [List.flatten_cons, List.flatten_nil, List.append_nil] at h3
  omega)
 have h2 : (strsN l k).length ≤ 4 := by unfold strsN; simp; omega
 have : 37 * (strsN l k).length ≤ 37 * 4 := Nat.mul_le_mul_left _ h2
 omega
end Go.Proofs.YthmoognbccfpiaaGreatDoor

set_option linter.unusedSectionVars false
namespace Go.Sx
open Go
variable [Ghost] {P : Program} {AQ : Ex → List SV → List SObj → Prop} {k0 : Nat} {k : List IT} {t : List SV} {H : List SObj}

structure Cln (cs : List SV) : Prop where
 ren : ∀ σ, SV.renL σ cs = cs
 bel : ∀ n, SV.belL n cs = true
 shut : ∀ n H, SV.sealBL n H cs = some (cs, True)
 le : SV.leAL cs cs
theorem cln_nil : Cln [] := ⟨fun _ => by rw [SV.renL], fun _ => by rw [SV.belL], fun _ _ => by rw [SV.sealBL], by rw [leAL_nil]; trivial⟩
theorem cln_raw {v : Value} {cs : List SV} (h : Cln cs) : Cln (.raw v :: cs) :=
 ⟨fun σ => by rw [SV.renL, h.ren, SV.ren], fun n => by rw [SV.belL, h.bel, SV.bel]; rfl, fun n H => by rw [SV.sealBL, h.shut, SV.sealB]; simp, by rw [leAL_cons]; exact ⟨by rw [leA_raw], h.le⟩⟩
theorem cln_isl {t : Ty} {xs : List t.den} {cs : List SV} (h : Cln cs) : Cln (.isl t xs :: cs) :=
 ⟨fun σ => by rw [SV.renL, h.ren, SV.ren], fun n => by rw [SV.belL, h.bel, SV.bel]; rfl, fun n H => by rw [SV.sealBL, h.shut, SV.sealB]; simp, by rw [leAL_cons]; exact ⟨by rw [leA_isl], h.le⟩⟩
theorem cln_fn {f : Nat} {cs : List SV} (h : Cln cs) : Cln (.fn f [] [] :: cs) :=
 ⟨fun σ => by rw [SV.renL, h.ren, SV.ren, SV.renL], fun n => by rw [SV.belL, h.bel, SV.bel]; rfl, fun n H => by rw [SV.sealBL, h.shut, SV.sealB]; simp [SV.sealBL], by rw [leAL_cons]; exact ⟨by rw [leA_fn]; exact ⟨rfl, rfl, rfl⟩, h.le⟩⟩
theorem cln_cells : ∀ (t : Ty) (x : t.den) {cs : List SV}, Cln cs → Cln (t.cells x ++ cs)
 | .u8, _, _, h => cln_raw h
 | .int _, _, _, h => cln_raw h
 | .bool, _, _, h => cln_raw h
 | .str, _, _, h => cln_raw h
 | .slice _, _, _, h => cln_isl h
 | .prod a b, x, _, h => by rw [Ty.cells, List.append_assoc]; exact cln_cells a x.1 (cln_cells b x.2 h)
 | .unit, _, _, h => h
theorem cln_ty (t : Ty) (x : t.den) : Cln (t.cells x) := by have := cln_cells t x cln_nil; rwa [List.append_nil] at this
theorem sealHL_nil {n : Nat} {l : List SObj} : sealHL n H l [] = True := by simp [sealHL]
theorem sealHL_dead {n : Nat} {o : SObj} {l l' : List SObj} : sealHL n H (o :: l) (.dead :: l') = (o.unmarked ∧ sealHL n H l l') := by simp [sealHL]
attribute [go_sem] sealHL_nil sealHL_dead
end Go.Sx
set_option linter.unusedSectionVars false
namespace Go.Sx
open Go
variable [Ghost] {P : Program} {AQ : Ex → List SV → List SObj → Prop} {k0 : Nat} {k : List IT} {t : List SV} {H : List SObj}

def afterR (P : Program) (AQ : Ex → List SV → List SObj → Prop) (d : Option Tmp) (m : IM) : Out → List SObj → Prop
 | .ret s, H' => SoundI P AQ { m with tmps := putT m.tmps d s, heap := H' }
 | .pan s, H' => AQ (.pan s) [] H'
theorem callR_eff {G : List Nat} {f : FuncId} {args args0 : List SV} {H0 H1 : List SObj} {o : Out} {d : Option Tmp} {m : IM} (hs : List Nat) (hp : PE P f args0 H0 o H1) (hargs : args = SV.renL (sig hs m.heap.length) args0) (hnd : hs.Nodup)
 (ha : atH (sig hs m.heap.length) m.heap hs H0) (hb : SV.belL H0.length args0 = true) (hbh : belH H0.length H0 = true) (hG : SameG G m.heap (mgA (sig hs m.heap.length) hs H1 m.heap))
 (h : afterR P AQ d m (o.ren (sig hs m.heap.length)) (mgA (sig hs m.heap.length) hs H1 m.heap)) : CallR P AQ G f args d m := by
 subst hargs
 refine ⟨hp.1, VCall.g (VCall.fr hs hnd ha hb hbh hp.2 ?_)⟩
 rintro o' H' _ ⟨rfl, rfl⟩
 cases o' with
 | ret s => exact ⟨fun _ => hG, h⟩
 | pan s => exact h

theorem wd_recell {C : Cx} {h : Nat} {T : TypeId} {cs cs' : List SV} (hw : Wd C H) (hH : H[h]? = some (.cells T cs)) (hd : ∀ vs, SV.denL C cs vs → SV.denL C cs' vs) : Wd C (H.set h (.cells T cs')) ∧ Ext ⟨C, H⟩ C (H.set h (.cells T cs')) := by
 have hget : ∀ {i y}, (H.set h (.cells T cs'))[i]? = some y → ∃ y', H[i]? = some y' ∧ y'.live = y.live ∧ (i ≠ h → y' = y) := fun {i y} hy => by
  by_cases e : i = h
  · subst e
    rw [List.getElem?_set_self (List.getElem?_eq_some_iff.1 hH).1] at hy
    cases hy
    exact ⟨_, hH, rfl, fun hn => absurd rfl hn⟩
  · rw [List.getElem?_set_ne (Ne.symm e)] at hy
    exact ⟨y, hy, rfl, fun _ => rfl⟩
 have hown : ∀ b, OwnB C (H.set h (.cells T cs')) b → OwnB C H b := fun b ⟨i, y, hy, hl, hb⟩ => by
  obtain ⟨y', h1, h2, _⟩ := hget hy
  exact ⟨i, y', h1, by rw [h2]; exact hl, hb⟩
 refine ⟨⟨by rw [List.length_set]; exact hw.n, fun i y hy => ?_, fun b hb => hw.own b (hown b hb), fun i j y z b hy hz hl hl' hb hb' => ?_, hw.imm⟩, ⟨Evo.refl _, Nat.le_refl _, rfl, rfl, rfl, fun _ _ _ => rfl, fun _ h => .inl h, fun b hb => .inr (hown b hb), fun _ _ hm => keep_set hH rfl hm⟩⟩
 · by_cases e : i = h
   · subst e
     rw [List.getElem?_set_self (List.getElem?_eq_some_iff.1 hH).1] at hy
     cases hy
     obtain ⟨b, vs, h1, h2, h3⟩ := hw.obj i _ hH
     exact ⟨b, vs, h1, h2, hd vs h3⟩
   · rw [List.getElem?_set_ne (Ne.symm e)] at hy
     exact hw.obj i y hy
 · obtain ⟨y', h1, h2, _⟩ := hget hy
   obtain ⟨z', h3, h4, _⟩ := hget hz
   exact hw.inj i j y' z' b h1 h3 (by rw [h2]; exact hl) (by rw [h4]; exact hl') hb hb'
theorem sound_nilcell {P : Program} {k : List It} {tm : List SV} (h off : Nat) (ty : Ty) {T : TypeId} {cs : List SV} (hH : H[h]? = some (.cells T cs)) (hi : cs[off]? = some (.raw (.slice none 0 0))) (hs : Sound P AQ ⟨k0, k, tm, (H.set h (.cells T (cs.set off (.bld H.length ty 0)))) ++ [.row ty []]⟩) : Sound P AQ ⟨k0, k, tm, H⟩ := by
 intro E r n C a h0 hd
 obtain ⟨C', hw, g1, g2, g3⟩ := nil_row (t := ty) hd.wd
 have hH' : (H ++ [SObj.row ty []])[h]? = some (.cells T cs) := by rw [List.getElem?_append_left (List.getElem?_eq_some_iff.1 hH).1]; exact hH
 obtain ⟨q1, q2⟩ := wd_recell (cs' := cs.set off (.bld H.length ty 0)) g1 hH' (fun vs hv => by
  obtain ⟨v, hv', hd'⟩ := denL_get hv hi
  rw [SV.den] at hd'
  subst hd'
  have := denL_set (i := off) hv g3
  have he : vs.set off (.slice none 0 0) = vs := by
   apply List.ext_getElem?
   intro j
   by_cases e : j = off
   · subst e
     rw [List.getElem?_set_self (List.getElem?_eq_some_iff.1 hv').1, hv']
   · rw [List.getElem?_set_ne (Ne.symm e)]
  rwa [he] at this)
 have hset : (H ++ [SObj.row ty []]).set h (.cells T (cs.set off (.bld H.length ty 0))) = H.set h (.cells T (cs.set off (.bld H.length ty 0))) ++ [.row ty []] := List.set_append_left _ _ (List.getElem?_eq_some_iff.1 hH).1
 rw [hset] at q1 q2
 have := hs E r n C' a h0 ⟨q1, hd.ext.trans (g2.trans q2), DefOk.next (g2.trans q2) hd.defs, denL_evo g2.evo hd.tmps⟩
 rw [← hw]; exact this
theorem si_nilcell (h off : Nat) (ty : Ty) {T : TypeId} {cs : List SV} {td : List IT} (hp : plainT td = true) (hH : H[h]? = some (.cells T cs)) (hi : cs[off]? = some (.raw (.slice none 0 0))) (hs : SoundI P AQ ⟨k0, td, t, (H.set h (.cells T (cs.set off (.bld H.length ty 0)))) ++ [.row ty []]⟩) : SoundI P AQ ⟨k0, td, t, H⟩ :=
 soundI_plain (fun _ hr => sound_nilcell h off ty hH hi (soundI_get hs hr)) hp
end Go.Sx
set_option linter.unusedSectionVars false
namespace Go.Sx
open Go
variable [Ghost] {P : Program} {AQ : Ex → List SV → List SObj → Prop} {k0 : Nat} {k : List IT} {t : List SV} {H : List SObj}

theorem sound_compact {P : Program} {k : List It} (A A' G : List SObj) {ty : Ty} {xs : List ty.den} (hk : k0 ≤ A.length) (hA : A = A'.map (SObj.ren (shift A.length (A.length + G.length)))) (hb : belH (A.length + 1) A' = true) (hbt : SV.belL (A.length + 1) t = true)
 (hl : leT (shift A.length (A.length + G.length)) t t) (hs : Sound P AQ ⟨k0, k, t, A' ++ [.row ty xs]⟩) : Sound P AQ ⟨k0, k, t, A ++ G ++ [.row ty xs]⟩ := by
 intro E r n C a h0 hd
 have hlen : A.length = A'.length := by have := congrArg List.length hA; rwa [List.length_map] at this
 have hsh : ∀ h, h < A.length → shift A.length (A.length + G.length) h = h := fun h hh => by unfold shift; rw [if_neg (by omega)]
 have hshn : shift A.length (A.length + G.length) A.length = A.length + G.length := by unfold shift; rw [if_pos rfl]
 have hd' : Den E (C.ren (shift A.length (A.length + G.length)) (A' ++ [SObj.row ty xs]).length) t (A' ++ [.row ty xs]) a := by
  refine den_le h0.1 hd hl (by rw [List.length_append, ← hlen]; exact hbt) (fun h o ho _ => ?_) (belH_of fun h o ho => ?_) (fun h h' o o' ho ho' _ _ e => ?_) (fun h hh => hsh h (Nat.lt_of_lt_of_le hh hk)) (by rw [List.length_append, ← hlen]; exact Nat.le_trans hk (Nat.le_add_right _ _)) (fun m hm0 hm => ?_)
  · rcases get_append_some ho with ⟨hh, ho⟩ | ⟨hh, rfl⟩
    · rw [hsh h (by omega), List.append_assoc, List.getElem?_append_left (by omega)]
      have := congrArg (fun l => l[h]?) hA
      simp only [List.getElem?_map, ho] at this
      exact this
    · rw [hh, ← hlen, hshn, ← List.length_append, List.getElem?_append_right (Nat.le_refl _), Nat.sub_self]
      rfl
  · rcases get_append_some ho with ⟨hh, ho⟩ | ⟨hh, rfl⟩
    · rw [List.length_append, ← hlen]
      exact belH_get hb ho
    · rfl
  · have h1 := (List.getElem?_eq_some_iff.1 ho).1
    have h2 := (List.getElem?_eq_some_iff.1 ho').1
    rw [List.length_append, List.length_singleton] at h1 h2
    unfold shift at e
    split at e <;> split at e <;> omega
  · have hm := hm
    have hpos : 0 < A.length := Nat.lt_of_lt_of_le hm0 (Nat.le_trans h0.1 hk)
    rw [List.append_assoc, List.getElem?_append_left hpos] at hm
    rw [List.getElem?_append_left (by omega)]
    have h1 := congrArg (fun l => l[0]?) hA
    simp only [List.getElem?_map, hm] at h1
    cases h2 : A'[0]? with
    | none => rw [h2] at h1; simp at h1
    | some o => rw [h2] at h1; cases o <;> simp [SObj.ren] at h1; rw [h1]
 exact hs E r n (C.ren (shift A.length (A.length + G.length)) (A' ++ [SObj.row ty xs]).length) a h0 hd'
theorem si_compact (A A' G : List SObj) {ty : Ty} {xs : List ty.den} {td : List IT} (hp : plainT td = true) (hH : H = A ++ G ++ [.row ty xs]) (hk : k0 ≤ A.length) (hA : A = A'.map (SObj.ren (shift A.length (A.length + G.length)))) (hb : belH (A.length + 1) A' = true) (hbt : SV.belL (A.length + 1) t = true)
 (hl : leT (shift A.length (A.length + G.length)) t t) (hs : SoundI P AQ ⟨k0, td, t, A' ++ [.row ty xs]⟩) : SoundI P AQ ⟨k0, td, t, H⟩ := by
 subst hH
 exact soundI_plain (fun _ hr => sound_compact A A' G hk hA hb hbt hl (soundI_get hs hr)) hp
end Go.Sx
set_option linter.unusedSectionVars false
namespace Go.Sx
open Go
variable {P : Program} {AQ : Ex → List SV → List SObj → Prop} {k0 : Nat} {k : List IT} {t : List SV} {H : List SObj}

def CutQ (P : Program) (AQ : Ex → List SV → List SObj → Prop) (k0 : Nat) (k : List IT) (T0 : List SV) : Ex → List SV → List SObj → Prop
 | .normal, t, H => SoundI P AQ ⟨k0, k, t, H⟩
 | .pan s, _, H => AQ (.pan s) T0 H
 | _, _, _ => False
theorem cutQ_n {T0 : List SV} (h : SoundI P AQ ⟨k0, k, t, H⟩) : CutQ P AQ k0 k T0 .normal t H := h
theorem cutQ_p {T0 t' : List SV} {s : SV} (h : AQ (.pan s) T0 H) : CutQ P AQ k0 k T0 (.pan s) t' H := h
def SameBut (ws : List Nat) (t t' : List SV) : Prop := t'.length = t.length ∧ ∀ i, i ∉ ws → t'[i]? = t[i]?
theorem SameBut.put {ws : List Nat} {t t' : List SV} (h : SameBut ws t t') {d : Option Tmp} (hd : ∀ e, d = some e → e ∈ ws) (s : SV) : SameBut ws t (putT t' d s) := by
 cases d with
 | none => exact h
 | some e => exact ⟨by simp [putT, h.1], fun i hi => by
  have hne : e ≠ i := fun e' => hi (e' ▸ hd e rfl)
  simp only [putT]
  rw [List.getElem?_set_ne hne]
  exact h.2 i hi⟩
theorem maskT_len : ∀ (ws : List Nat) (t : List SV), (maskT ws t).length = t.length
 | [], t => rfl
 | d :: ws, t => by
  show (maskT ws (t.set d .any)).length = _
  rw [maskT_len ws, List.length_set]
theorem maskT_in : ∀ (ws : List Nat) (t : List SV) (i : Nat) (s : SV), (maskT ws t)[i]? = some s → s = .any ∨ (i ∉ ws ∧ t[i]? = some s)
 | [], t, i, s, h => .inr ⟨by simp, h⟩
 | d :: ws, t, i, s, h => by
  have h' : (maskT ws (t.set d .any))[i]? = some s := h
  rcases maskT_in ws _ i s h' with rfl | ⟨h1, h2⟩
  · exact .inl rfl
  · by_cases e : d = i
    · subst e
      rw [List.getElem?_set] at h2
      simp at h2
      exact .inl h2.2.symm
    · rw [List.getElem?_set_ne e] at h2
      exact .inr ⟨by simp [h1]; exact fun q => e q.symm, h2⟩
theorem leL_get : ∀ {l l' : List SV}, l.length = l'.length → (∀ (i : Nat) s s', l[i]? = some s → l'[i]? = some s' → s' = .any ∨ s' = s) → leL l l'
 | [], [], _, _ => trivial
 | [], _ :: _, h, _ => by simp at h
 | _ :: _, [], h, _ => by simp at h
 | s :: l, s' :: l', h, hp => by
  refine ⟨?_, leL_get (by simpa using h) fun i x x' hx hx' => hp (i + 1) x x' (by simpa using hx) (by simpa using hx')⟩
  rcases hp 0 s s' rfl rfl with rfl | rfl
  · exact SV.le_any s
  · exact SV.le_refl _
theorem SameBut.le {ws : List Nat} {t t' : List SV} (h : SameBut ws t t') : leL t' (maskT ws t) :=
 leL_get (by rw [maskT_len, h.1]) fun i s s' hs hs' => by
  rcases maskT_in ws t i s' hs' with rfl | ⟨h1, h2⟩
  · exact .inl rfl
  · right
    rw [h.2 i h1, h2] at hs
    cases hs; rfl
theorem anyV_cut {k : List It} {all : Array Oper} {G : List Nat} {kI : List IT} {ws : List Nat} {S : Array Bool} {t0 : List SV} (hr : RelT P kI k) (hS : Region.ready .any all S = []) (hW : ∀ (i : Nat) o, all[i]? = some o → S.getD i false = true → ∀ d, o.dst = some d → d ∈ ws) :
 ∀ (fuel : Nat) (listed : Array Bool) (t : List SV) (H : List SObj), SameBut ws t0 t → listed.size = S.size → (∀ j, listed.getD j false = true → S.getD j false = true) → AnyV P (CutQ P AQ k0 kI (maskT ws t0)) k0 [] all G fuel listed t H →
  ∀ (E : EnD) (r : Option Nat) (n : Nat) (C : Cx) (a : Act), Fit E r k0 → Den E C t H a → wpAnyIn (Fw r) n P .any all (afterT (Fw r) n P E (conc E AQ) k) fuel listed a C.w := by
 have leaf : ∀ {t : List SV} {H : List SObj}, Sound P (CutQ P AQ k0 kI (maskT ws t0)) ⟨k0, [], t, H⟩ → ∀ (E : EnD) (r : Option Nat) (n : Nat) (C : Cx) (a : Act), Fit E r k0 → Den E C t H a → wpT (Fw r) n P E (conc E AQ) k a C.w := by
  intro t H h E r n C a h0 hd
  have h1 := h E r n C a h0 hd
  simp only [wpT] at h1
  obtain ⟨C', t', H', h2, h3, h4⟩ := h1
  rw [← h3]
  exact soundI_get (h2 : SoundI P AQ ⟨k0, kI, t', H'⟩) hr E r n C' a h0 h4
 intro fuel
 induction fuel with
 | zero => exact fun listed t H _ _ _ h E r n C a h0 hd => ⟨h.1, leaf h.2 E r n C a h0 hd⟩
 | succ fuel ih =>
  intro listed t H hb hsz hsub h E r n C a h0 hd
  refine ⟨fun h9 => leaf (h.1 h9) E r n C a h0 hd, fun i hi => ?_⟩
  obtain ⟨o, ho, h1⟩ := h.2 i hi
  obtain ⟨hun, o', ho', hall⟩ := mem_ready.1 hi
  have hlt : i < S.size := by
   rcases Nat.lt_or_ge i listed.size with q | q
   · omega
   · simp [Array.getElem?_eq_none q] at hun
  have hiS : S.getD i false = true := by
   cases hq : S.getD i false with
   | true => rfl
   | false =>
    have : i ∈ Region.ready .any all S := mem_ready.2 ⟨by simp [hlt] at hq ⊢; exact hq, o', ho', fun e he hb' => hsub _ (hall e he hb')⟩
    rw [hS] at this
    cases this
  have hwd : ∀ d, o.dst = some d → d ∈ ws := hW i o ho hiS
  have hsub' : ∀ j, (listed.setIfInBounds i true).getD j false = true → S.getD j false = true := fun j hj => by
   by_cases e : i = j
   · subst e; exact hiS
   · rw [getD_set_ne false e] at hj; exact hsub j hj
  have hsz' : (listed.setIfInBounds i true).size = S.size := by simpa using hsz
  unfold wpOpIn
  simp only [ho]
  rcases h1 with ⟨hw, hop⟩ | ⟨hw, hk⟩
  · rw [if_pos (wantedT_ok hd.tmps hw)]
    refine hop E C r n a _ _ hd.wd hd.defs.2 (fun x _ => evT_den hd.tmps x) ?_ ?_
    · intro s v H' C' hk hw' hx hs
      exact ih _ _ _ (hb.put hwd s) hsz' hsub' hk.2 E r n C' _ h0 (den_next hd hw' hx hs)
    · intro s v H' C' hk hw' hx hs
      exact ⟨C', maskT ws t0, H', s, v, hk, rfl, hs, rfl, hw', hx.ext hd.ext, (DefOk.stp hx hd.defs).fin, .inr (leL_den hb.le (denL_evo hx.evo hd.tmps))⟩
  · rw [if_neg (by rw [wantedT_ok hd.tmps hw]; simp)]
    exact ⟨fun f _ => fw_fn r f, ih _ _ _ (hb.put hwd _) hsz' hsub' hk.2 E r n C _ h0 (den_next hd hd.wd (.of (Ext.refl _ _)) (by rw [SV.den]; rfl))⟩
theorem planL_end {all : Array Oper} : ∀ (fuel : Nat) (listed : Array Bool) (l : List (Bool × OpI)), planL P all fuel listed = some l →
 ∃ S : Array Bool, Region.ready .any all S = [] ∧ S.size = listed.size ∧ (∀ j, listed.getD j false = true → S.getD j false = true) ∧ ∀ i, S.getD i false = true → listed.getD i false = true ∨ ∃ o, all[i]? = some o ∧ ∀ d, o.dst = some d → d ∈ IC.wr (.drw l)
 | 0, listed, l, h => by
  unfold planL at h
  split at h
  · rename_i he
    exact ⟨listed, by simpa using he, rfl, fun _ h => h, fun _ h => .inl h⟩
  · cases h
 | n + 1, listed, l, h => by
  unfold planL at h
  split at h
  · rename_i he
    exact ⟨listed, by simpa using he, rfl, fun _ h => h, fun _ h => .inl h⟩
  · split at h
    · rename_i i fl hch
      split at h
      · rename_i o ho
        split at h
        · rename_i io hco
          split at h
          · rename_i l' hl'
            split at h
            · cases h
              obtain ⟨S, h1, h2, h3, h4⟩ := planL_end n _ l' hl'
              refine ⟨S, h1, by simpa using h2, fun j hj => h3 j (getD_set_true hj), fun j hj => ?_⟩
              rcases h4 j hj with q | ⟨o', q1, q2⟩
              · by_cases e : i = j
                · subst e
                  refine .inr ⟨o, ho, fun d hd => ?_⟩
                  have hio := (compO_op hco).2
                  simp only [IC.wr, List.flatMap_cons, List.mem_append]
                  left
                  unfold OpI.wr
                  split <;> simp [hio, hd]
                · rw [getD_set_ne false e] at q
                  exact .inl q
              · refine .inr ⟨o', q1, fun d hd => ?_⟩
                have := q2 d hd
                simp only [IC.wr, List.flatMap_cons, List.mem_append] at this ⊢
                exact .inr this
            · cases h
          · cases h
        · cases h
      · cases h
    · cases h
theorem si_drwP {l : List (Bool × OpI)} (G : List Nat) (hm : P.follows .mixedOrders = true) (h : SoundI P (CutQ P AQ k0 k (maskT (IC.wr (.drw l)) t)) ⟨k0, [.dops G l], t, H⟩) : SoundI P AQ ⟨k0, .ic (.drw l) :: k, t, H⟩ := soundI_plain (fun td' hr => by
 obtain ⟨c', r, rfl, hc, hr⟩ := hr
 obtain ⟨id, all, rfl, hl⟩ := comp_inv hc
 obtain ⟨S, h1, h2, h3, h4⟩ := planL_end _ _ _ hl
 intro E r' n C a h0 hd
 simp only [wpT]
 have hd' : Den E C.drew t H a := ⟨wd_drew hd.wd, hd.ext.trans (ext_drew C H), DefOk.next (ext_drew C H) hd.defs, denL_evo (evo_drew C) hd.tmps⟩
 have hno : ∀ j, (Array.replicate all.size false).getD j false = true → False := fun j hj => by
  rcases Nat.lt_or_ge j all.size with q | q
  · simp [q] at hj
  · simp [q] at hj
 refine wpIn_region_any hm (anyV_cut hr h1 (fun i o ho hi d hd => ?_) _ _ _ _ ⟨rfl, fun _ _ => rfl⟩ h2.symm h3 (h all _ _ [] hl rfl) E r' n C.drew a h0 hd')
 rcases h4 i hi with q | ⟨o', q1, q2⟩
 · exact (hno i q).elim
 · rw [ho] at q1; cases q1
   exact q2 d hd) rfl
end Go.Sx
namespace Go.Sx
open Go

def ZInv (q : Nat → Prop) (w0 : World) (C : Cx) (H : List SObj) : Prop := ∀ b, q b → b < C.w.heap.size ∧ ¬ C.I b ∧ ¬ OwnB C H b ∧ C.w.heap[b]? = w0.heap[b]?

theorem ext_old {E : En} {C : Cx} {H : List SObj} (hx : Ext E C H) {b : Nat} (h1 : b < E.C.w.heap.size) (h2 : ¬ E.C.I b) (h3 : ¬ OwnB E.C E.H b) : b < C.w.heap.size ∧ ¬ C.I b ∧ ¬ OwnB C H b ∧ C.w.heap[b]? = E.C.w.heap[b]? := by
 refine ⟨Nat.lt_of_lt_of_le h1 hx.size, fun hi => ?_, fun ho => ?_, hx.frame b h1 h3⟩
 · rcases hx.immNew b hi with g | ⟨g | g, _⟩
   · exact h2 g
   · exact absurd h1 (Nat.not_lt.2 g)
   · exact h3 g
 · rcases hx.ownNew b ho with g | g
   · exact absurd h1 (Nat.not_lt.2 g)
   · exact h3 g

@[reducible] def frzG (q : Nat → Prop) (w0 : World) : Ghost where
 inv := fun _ C H => ZInv q w0 C H
 fin := fun E _ _ ds => ds = E.base ∧ True
 toFin := fun _ => ⟨rfl, trivial⟩
 next := fun hx h b hb => by
  obtain ⟨h1, h2, h3, h4⟩ := h b hb
  obtain ⟨g1, g2, g3, g4⟩ := ext_old hx h1 h2 h3
  exact ⟨g1, g2, g3, g4.trans h4⟩
 same := fun _ e _ hi ho _ _ h b hb => by
  obtain ⟨h1, h2, h3, h4⟩ := h b hb
  rw [e]
  exact ⟨h1, fun x => (hi b x).elim h2 h3, fun x => h3 (ho b x), h4⟩

def simV (u v : Value) : Prop := v = u ∨ (∃ k n m, u = .int k n ∧ v = .int k m) ∨ ∃ s s', u = .string s ∧ v = .string s' ∧ s'.size ≤ 140737488355328
def simB (o o' : Option Obj) : Prop := o' = o ∨ ∃ (vs vs' : List Value) (T : TypeId) (fz : Nat × Nat), o = some (.cells vs.toArray T fz) ∧ o' = some (.cells vs'.toArray T fz) ∧ vs'.length = vs.length ∧ ∀ (i : Nat) u v, vs[i]? = some u → vs'[i]? = some v → simV u v
theorem simV.trans {u v w : Value} (h : simV u v) (k : simV v w) : simV u w := by
 rcases h with rfl | ⟨k', n, m, rfl, rfl⟩ | ⟨s, s', rfl, rfl, h1⟩
 · exact k
 · rcases k with rfl | ⟨k2, n2, m2, h1, rfl⟩ | ⟨s, s', h1, _⟩
   · exact .inr (.inl ⟨_, _, _, rfl, rfl⟩)
   · cases h1; exact .inr (.inl ⟨_, _, _, rfl, rfl⟩)
   · cases h1
 · rcases k with rfl | ⟨k2, n2, m2, h1, rfl⟩ | ⟨s2, s3, h2, rfl, h3⟩
   · exact .inr (.inr ⟨_, _, rfl, rfl, h1⟩)
   · cases h1
   · cases h2; exact .inr (.inr ⟨_, _, rfl, rfl, h3⟩)
def SInv (q : Nat → Prop) (w0 : World) (E : En) (C : Cx) (H : List SObj) : Prop :=
 ∀ b, q b → (E.C.w.heap.size ≤ b ∨ OwnB E.C E.H b) ∧ b < C.w.heap.size ∧ ¬ C.I b ∧ ¬ OwnB C H b ∧ Unf C.w b ∧ simB w0.heap[b]? C.w.heap[b]?

@[reducible] def scrG (q : Nat → Prop) (w0 : World) : Ghost where
 inv := fun E C H => SInv q w0 E.toEn C H
 fin := fun E C H ds => ds = E.base ∧ SInv q w0 E.toEn C H
 toFin := fun h => ⟨rfl, h⟩
 next := fun hx h b hb => by
  obtain ⟨h0, h1, h2, h3, h4, h5⟩ := h b hb
  obtain ⟨g1, g2, g3, g4⟩ := ext_old hx h1 h2 h3
  refine ⟨h0, g1, g2, g3, h4.keep g4, ?_⟩
  have g4' := g4
  simp only at g4'
  rw [g4']; exact h5
 same := fun _ e _ hi ho _ _ h b hb => by
  obtain ⟨h0, h1, h2, h3, h4, h5⟩ := h b hb
  rw [e]
  exact ⟨h0, h1, fun x => (hi b x).elim h2 h3, fun x => h3 (ho b x), h4, h5⟩

def At (q : Nat → Prop) (w0 : World) (t : Ty) (x : t.den) (b o : Nat) : Prop := q b ∧ ∃ vs, t.rel q w0 x vs ∧ ∀ j u, vs[j]? = some u → w0.cell? ⟨b, o + j, none⟩ = some u
def Sl (q : Nat → Prop) (w0 : World) (t : Ty) (xs : List t.den) (v : Value) : Prop := (Ty.slice t).rel q w0 xs [v]
theorem Sl.out {q : Nat → Prop} {w0 : World} {t : Ty} {xs : List t.den} {v : Value} (h : Sl q w0 t xs v) :
 ∃ A c, v = .slice A xs.length c ∧ (xs = [] ∨ ∃ b o, A = some ⟨b, o, none⟩ ∧ ∀ i x, xs[i]? = some x → At q w0 t x b (o + i * t.size)) := by
 obtain ⟨A, n, c, e, rfl, _, _, h⟩ := h
 simp only [List.cons.injEq, and_true] at e
 refine ⟨A, c, e, orMap h id ?_⟩
 rintro ⟨b, o, rfl, hq, h⟩
 exact ⟨b, o, rfl, fun i x hx => ⟨hq, h i x hx⟩⟩
theorem At.sl {q : Nat → Prop} {w0 : World} {t : Ty} {xs : List t.den} {b o : Nat} (h : At q w0 (.slice t) xs b o) : ∃ v, Sl q w0 t xs v ∧ w0.cell? ⟨b, o, none⟩ = some v := by
 obtain ⟨hq, vs, hr, hc⟩ := h
 obtain ⟨A, n, c, rfl, _⟩ := id hr
 exact ⟨_, hr, hc 0 _ rfl⟩
theorem At.int {q : Nat → Prop} {w0 : World} {k : IntKind} {x : (Ty.int k).den} {b o : Nat} (h : At q w0 (.int k) x b o) : w0.cell? ⟨b, o, none⟩ = some (.int k x) := by
 obtain ⟨hq, vs, rfl, hc⟩ := h; exact hc 0 _ rfl
theorem At.u8 {q : Nat → Prop} {w0 : World} {x : Ty.u8.den} {b o : Nat} (h : At q w0 .u8 x b o) : w0.cell? ⟨b, o, none⟩ = some (.int .u8 (UInt8.toNat x)) := by
 obtain ⟨hq, vs, rfl, hc⟩ := h; exact hc 0 _ rfl
theorem At.str {q : Nat → Prop} {w0 : World} {x : Ty.str.den} {b o : Nat} (h : At q w0 .str x b o) : w0.cell? ⟨b, o, none⟩ = some (.string x) := by
 obtain ⟨hq, vs, ⟨rfl, _⟩, hc⟩ := h; exact hc 0 _ rfl

variable {P : Program} {AQ : Ex → List SV → List SObj → Prop}
end Go.Sx
namespace Go.Sx
open Go

variable {P : Program} {AQ : Ex → List SV → List SObj → Prop} {k0 : Nat} {k : List IT} {t : List SV} {H : List SObj}

def VCallZ (q : Nat → Prop) (w0 : World) (P : Program) (f : FuncId) (args : List SV) (H : List SObj) (K : Out → List SObj → Prop) : Prop :=
 ∀ (C : Cx) (vs : List Value), Wd C H → ZInv q w0 C H → SV.denL C args vs → Calls P f vs.toArray C.w fun e w' => ∃ o H' C', K o H' ∧ C'.w = w' ∧ Wd C' H' ∧ Ext ⟨C, H⟩ C' H' ∧ outDen C' o e
theorem VCallZ.g {q : Nat → Prop} {w0 : World} {f : FuncId} {args : List SV} {K : Out → List SObj → Prop} (h : VCallZ q w0 P f args H K) : @VCallG (frzG q w0) P f args H K :=
 fun E C vs hw hg hv => (h C vs hw hg hv).mono fun _ _ ⟨o, H', C', k, e, w, x, r⟩ => ⟨o, H', C', k, e, w, @Stp.of (frzG q w0) E C C' H H' x, r⟩
theorem ZInv.nil {q : Nat → Prop} {w0 : World} {C : Cx} (h : ZInv q w0 C H) : ZInv q w0 { C with n := 0 } [] := fun b hb => by
 obtain ⟨h1, h2, h3, h4⟩ := h b hb
 exact ⟨h1, h2, fun ⟨i, o, ho, _⟩ => by simp at ho, h4⟩
def Ty.flat : Ty → Bool
 | .slice _ => false
 | .prod a b => a.flat && b.flat
 | _ => true
def RowK (ty : Ty) (xs : List ty.den) : Out → List SObj → Prop := fun o H' => (xs = [] ∧ o = .ret (.raw (.slice none 0 0)) ∧ H' = []) ∨ (o = .ret (.bld 0 ty xs.length) ∧ H' = [.row ty xs])
theorem rowK_nil {ty : Ty} {xs : List ty.den} {H' : List SObj} (h : xs = []) : Weak 0 (RowK ty xs) (.ret (.raw (.slice none 0 0))) H' :=
 ⟨fun h => h, .raw (.slice none 0 0), .raw (.slice none 0 0), [], ⟨⟨rfl, trivial⟩, trivial, rfl, rfl, rfl, rfl, Nat.le_refl _, fun _ h0 => absurd h0 (Nat.lt_irrefl 0)⟩, .inl (.inl rfl), .inl ⟨h, rfl, rfl⟩⟩
theorem rowK_row {ty : Ty} {xs : List ty.den} {H' : List SObj} {h n : Nat} (hH : H'[h]? = some (.row ty xs)) (hn : n = xs.length) : Weak 0 (RowK ty xs) (.ret (.bld h ty n)) H' := by
 subst hn
 exact ⟨fun _ => h, .bld 0 ty xs.length, .bld 0 ty xs.length, [.row ty xs], ⟨⟨rfl, trivial⟩, ⟨hH, trivial⟩, rfl, rfl, rfl, rfl, Nat.zero_le _, fun _ h0 => absurd h0 (Nat.lt_irrefl 0)⟩, .inl (.inl rfl), .inr ⟨rfl, rfl⟩⟩
end Go.Sx
namespace Go.Sx
open Go

variable {P : Program} {AQ : Ex → List SV → List SObj → Prop} {k0 : Nat} {k : List It} {t : List SV} {H : List SObj}

@[reducible] def frzN (q : Nat → Prop) (w0 : World) (N : Nat) : Ghost where
 inv := fun E C H => E.C.w.heap.size ≤ N ∧ ZInv q w0 C H
 fin := fun E _ _ ds => ds = E.base ∧ True
 toFin := fun _ => ⟨rfl, trivial⟩
 next := fun {E _ _ _ _} hx h => ⟨h.1, (frzG q w0).next (E := E) hx h.2⟩
 same := fun {E _ _ _ _} hw e hk hi ho hm hl h => ⟨h.1, (frzG q w0).same (E := E) hw e hk hi ho hm hl h.2⟩

theorem Ty.cells_rel {C : Cx} : ∀ (t : Ty) (x : t.den) (vs : List Value), t.ok x → SV.denL C (t.cells x) vs → t.rel C.I C.w x vs
 | .u8, _, _, _, h => by simp only [Ty.cells, SV.denL, SV.den] at h; obtain ⟨v, us, rfl, rfl, rfl⟩ := h; rfl
 | .int _, _, _, _, h => by simp only [Ty.cells, SV.denL, SV.den] at h; obtain ⟨v, us, rfl, rfl, rfl⟩ := h; rfl
 | .bool, _, _, _, h => by simp only [Ty.cells, SV.denL, SV.den] at h; obtain ⟨v, us, rfl, rfl, rfl⟩ := h; rfl
 | .str, _, _, ho, h => by simp only [Ty.cells, SV.denL, SV.den] at h; obtain ⟨v, us, rfl, rfl, rfl⟩ := h; exact ⟨rfl, ho⟩
 | .slice t, _, _, _, h => by simp only [Ty.cells, SV.denL, SV.den] at h; obtain ⟨v, us, rfl, h, rfl⟩ := h; exact h
 | .prod a b, x, vs, ho, h => by
  obtain ⟨v1, v2, rfl, h1, h2⟩ := denL_append.1 h
  exact ⟨v1, v2, rfl, a.cells_rel _ _ ho.1 h1, b.cells_rel _ _ ho.2 h2⟩
 | .unit, _, _, _, h => by simpa [Ty.cells, SV.denL, Ty.rel] using h

end Go.Sx
namespace Go.Sx
open Go

variable {P : Program} {AQ : Ex → List SV → List SObj → Prop} {k0 : Nat} {k : List It} {t : List SV} {H : List SObj}

structure C2P where
 f : FuncId
 p : Nat
 d0 : Nat
 d1 : Nat
 d2 : Nat
 d3 : Nat
 d4 : Nat
 d5 : Nat
 T : TypeId
 m : Nat
 zs : List Value
 ty : Ty
 x : ty.den

def needs (o : Oper) (j : Nat) : Prop := ∃ e ∈ o.after, Region.binds .any e = true ∧ e.on = j
structure IsC2 (P : Program) (all : Array Oper) (c : C2P) : Prop where
 size : all.size = 8
 top : ∀ (i : Nat) (o : Oper), all[i]? = some o → ∀ e ∈ o.after, e.on < i
 o0 : ∃ o, all[0]? = some o ∧ o.op = .load c.T (.tmp c.p) ∧ o.dst = some c.d0 ∧ o.guard = none
 o1 : ∃ o cl, all[1]? = some o ∧ o.op = .call cl ∧ cl.callee = .value (.func c.f) ∧ cl.args = #[.tmp c.d0] ∧ o.dst = some c.d1 ∧ o.guard = none ∧ needs o 0
 o2 : ∃ o, all[2]? = some o ∧ o.op = .load c.T (.tmp c.p) ∧ o.dst = some c.d2 ∧ o.guard = none
 o3 : ∃ o cl, all[3]? = some o ∧ o.op = .call cl ∧ cl.callee = .value (.func c.f) ∧ cl.args = #[.tmp c.d2] ∧ o.dst = some c.d3 ∧ o.guard = none ∧ needs o 2
 o4 : ∃ o, all[4]? = some o ∧ o.op = .alloc c.T ∧ o.dst = some c.d4 ∧ o.guard = none
 o5 : ∃ o, all[5]? = some o ∧ o.op = .alloc c.T ∧ o.dst = some c.d5 ∧ o.guard = none
 o6 : ∃ o, all[6]? = some o ∧ o.op = .store c.T (.tmp c.d4) (.tmp c.d1) ∧ o.dst = none ∧ o.guard = none ∧ needs o 4 ∧ needs o 1
 o7 : ∃ o, all[7]? = some o ∧ o.op = .store c.T (.tmp c.d5) (.tmp c.d3) ∧ o.dst = none ∧ o.guard = none ∧ needs o 5 ∧ needs o 3
 ag : aggOf P c.T = some (some c.m)
 zero : (P.info? c.T).bind (fun i => i.zero.map (·.cells.toList)) = some c.zs
 zlen : c.zs.length = c.m
 tsz : c.ty.size = c.m
 en : enters P c.f = true
 nd : [c.p, c.d0, c.d1, c.d2, c.d3, c.d4, c.d5].Nodup

def Far (E : EnD) (C : Cx) (H : List SObj) (b : Nat) : Prop := E.C.w.heap.size ≤ b ∧ b < C.w.heap.size ∧ ¬ C.I b ∧ ¬ OwnB C H b ∧ Unf C.w b
theorem Far.ext {E : EnD} {C C' : Cx} {b : Nat} (h : Far E C H b) (hx : Ext ⟨C, H⟩ C' H) : Far E C' H b ∧ C'.w.heap[b]? = C.w.heap[b]? := by
 obtain ⟨h0, h1, h2, h3, h4⟩ := h
 obtain ⟨g1, g2, g3, g4⟩ := ext_old hx h1 h2 h3
 exact ⟨⟨h0, g1, g2, g3, h4.keep g4⟩, g4⟩

def upd (β : Nat → Bool) (i : Nat) : Nat → Bool := fun j => if j = i then true else β j
structure R2 (c : C2P) (E : EnD) (tm : List SV) (H : List SObj) (β : Nat → Bool) (vs : List Value) (q : Nat → Prop) (b4 b5 : Nat) (C : Cx) (a : Act) : Prop where
 den : @Den noGhost E C tm H a
 f0 : β 0 = true → ∃ ws : List Value, a.tmps[c.d0]? = some (.agg ws.toArray) ∧ SV.denL C (c.ty.cells c.x) ws
 f1 : β 1 = true → a.tmps[c.d1]? = some (.agg vs.toArray) ∧ c.ty.rel q C.w c.x vs ∧ ∀ b, q b → Far E C H b
 f2 : β 2 = true → ∃ ws : List Value, a.tmps[c.d2]? = some (.agg ws.toArray) ∧ SV.denL C (c.ty.cells c.x) ws
 f3 : β 3 = true → ∃ ws : List Value, a.tmps[c.d3]? = some (.agg ws.toArray) ∧ SV.denL C (c.ty.cells c.x) ws
 f4 : β 4 = true → a.tmps[c.d4]? = some (.pointer (some ⟨b4, 0, none⟩)) ∧ Far E C H b4 ∧ (β 1 = true → ¬ q b4) ∧ C.w.heap[b4]? = some (.cells (if β 6 = true then vs else c.zs).toArray c.T (0, 0))
 f5 : β 5 = true → a.tmps[c.d5]? = some (.pointer (some ⟨b5, 0, none⟩)) ∧ Far E C H b5 ∧ (β 1 = true → ¬ q b5) ∧ (β 4 = true → b5 ≠ b4) ∧ ∃ us : List Value, C.w.heap[b5]? = some (.cells us.toArray c.T (0, 0)) ∧ us.length = c.m ∧ (β 7 = true → SV.denL C (c.ty.cells c.x) us)
 i6 : β 6 = true → β 4 = true ∧ β 1 = true
 i7 : β 7 = true → β 5 = true ∧ β 3 = true

variable {c : C2P} {E : EnD} {tm : List SV} {β : Nat → Bool} {vs : List Value} {q : Nat → Prop} {b4 b5 : Nat} {C C' : Cx} {a : Act}

theorem R2.ext (r : R2 c E tm H β vs q b4 b5 C a) (hw : Wd C' H) (hx : Ext ⟨C, H⟩ C' H) : R2 c E tm H β vs q b4 b5 C' a where
 den := ⟨hw, r.den.ext.trans hx, ⟨r.den.defs.1, trivial⟩, denL_evo hx.evo r.den.tmps⟩
 f0 := fun h => by obtain ⟨ws, h1, h2⟩ := r.f0 h; exact ⟨ws, h1, denL_evo hx.evo h2⟩
 f1 := fun h => by
  obtain ⟨h1, h2, h3⟩ := r.f1 h
  exact ⟨h1, Ty.rel_keep (fun b hb => ⟨hb, ((h3 b hb).ext hx).2⟩) _ _ _ h2, fun b hb => ((h3 b hb).ext hx).1⟩
 f2 := fun h => by obtain ⟨ws, h1, h2⟩ := r.f2 h; exact ⟨ws, h1, denL_evo hx.evo h2⟩
 f3 := fun h => by obtain ⟨ws, h1, h2⟩ := r.f3 h; exact ⟨ws, h1, denL_evo hx.evo h2⟩
 f4 := fun h => by
  obtain ⟨h1, h2, h3, h4⟩ := r.f4 h
  exact ⟨h1, (h2.ext hx).1, h3, (h2.ext hx).2.trans h4⟩
 f5 := fun h => by
  obtain ⟨h1, h2, h3, h4, us, h5, h6, h7⟩ := r.f5 h
  exact ⟨h1, (h2.ext hx).1, h3, h4, us, (h2.ext hx).2.trans h5, h6, fun h => denL_evo hx.evo (h7 h)⟩
 i6 := r.i6
 i7 := r.i7

theorem den_put {d : Nat} {v : Value} (h : @Den noGhost E C tm H a) (hd : tm[d]? = some .any) : @Den noGhost E C tm H (a.put (some d) v) := by
 refine ⟨h.wd, h.ext, ⟨h.defs.1, trivial⟩, ?_⟩
 simp only [Act.put, Array.toList_setIfInBounds]
 have h1 := denL_set (i := d) (s := .any) (v := v) h.tmps (by rw [SV.den]; trivial)
 have h2 : tm.set d .any = tm := by
  apply List.ext_getElem?
  intro i
  by_cases e : d = i
  · subst e; rw [List.getElem?_set_self (List.getElem?_eq_some_iff.1 hd).1, hd]
  · rw [List.getElem?_set_ne e]
 rwa [h2] at h1
theorem put_ne {d e : Nat} {v : Value} (h : d ≠ e) : (a.put (some d) v).tmps[e]? = a.tmps[e]? := by
 simp only [Act.put]; exact Array.getElem?_setIfInBounds_ne h

theorem R2.put {i d : Nat} {v : Value} (r : R2 c E tm H β vs q b4 b5 C a) (hnd : [c.p, c.d0, c.d1, c.d2, c.d3, c.d4, c.d5].Nodup) (hi : β i = false) (hd : [c.d0, c.d1, c.d2, c.d3, c.d4, c.d5][i]? = some d) (ht : tm[d]? = some .any) : R2 c E tm H β vs q b4 b5 C (a.put (some d) v) := by
 have key : ∀ (j e : Nat), [c.d0, c.d1, c.d2, c.d3, c.d4, c.d5][j]? = some e → β j = true → (a.put (some d) v).tmps[e]? = a.tmps[e]? := fun j e he hj => put_ne fun h => by
  subst h
  have hnd' : [c.d0, c.d1, c.d2, c.d3, c.d4, c.d5].Nodup := (List.nodup_cons.1 hnd).2
  have h1 := (List.getElem?_eq_some_iff.1 hd).1
  have : i = j := (List.getElem?_inj h1 hnd').1 (hd.trans he.symm)
  subst this
  rw [hi] at hj; cases hj
 refine ⟨den_put r.den ht, fun h => ?_, fun h => ?_, fun h => ?_, fun h => ?_, fun h => ?_, fun h => ?_, r.i6, r.i7⟩
 · obtain ⟨ws, h1, h2⟩ := r.f0 h; exact ⟨ws, (key 0 _ rfl h).trans h1, h2⟩
 · obtain ⟨h1, h2⟩ := r.f1 h; exact ⟨(key 1 _ rfl h).trans h1, h2⟩
 · obtain ⟨ws, h1, h2⟩ := r.f2 h; exact ⟨ws, (key 2 _ rfl h).trans h1, h2⟩
 · obtain ⟨ws, h1, h2⟩ := r.f3 h; exact ⟨ws, (key 3 _ rfl h).trans h1, h2⟩
 · obtain ⟨h1, h2⟩ := r.f4 h; exact ⟨(key 4 _ rfl h).trans h1, h2⟩
 · obtain ⟨h1, h2⟩ := r.f5 h; exact ⟨(key 5 _ rfl h).trans h1, h2⟩

end Go.Sx
namespace Go.Sx
open Go

variable {P : Program} {AQ : Ex → List SV → List SObj → Prop} {k0 : Nat} {k : List It} {t : List SV} {H : List SObj}
variable {c : C2P} {E : EnD} {tm : List SV} {β : Nat → Bool} {vs : List Value} {q : Nat → Prop} {b4 b5 : Nat} {C C' : Cx} {a : Act}

end Go.Sx
namespace Go.Sx
open Go

variable {P : Program} {AQ : Ex → List SV → List SObj → Prop} {k0 : Nat} {k : List It} {t : List SV} {H : List SObj}
variable {c : C2P}

end Go.Sx
namespace Go.Sx
open Go

variable {P : Program} {AQ : Ex → List SV → List SObj → Prop} {k0 : Nat} {k : List It} {t : List SV} {H : List SObj}

structure XI where
 ntmps : Nat
 results : List ResultVar
 pre : List IC
 reg : Array Oper
 post : List IC
end Go.Sx
namespace Go.Sx
open Go

variable {P : Program} {AQ : Ex → List SV → List SObj → Prop} {k0 : Nat} {td : List IT} {t : List SV} {H : List SObj}

end Go.Sx
set_option linter.unusedSectionVars false
namespace Go.Sx
open Go

variable {P : Program} {AQ : Ex → List SV → List SObj → Prop} {k0 : Nat} {k : List It} {t : List SV} {H : List SObj}

def far : Obj → Prop
 | .loop _ => True
 | .deferred _ => True
 | _ => False
def FarAt (w : World) (b : Nat) : Prop := ∃ o, w.heap[b]? = some o ∧ far o
def Perm (E : En) (b : Nat) : Prop := E.C.w.heap.size ≤ b ∨ OwnB E.C E.H b
def unmk : SObj → SObj
 | .mark _ => .dead
 | o => o
theorem unmk_live {o : SObj} : (unmk o).live = true ↔ o.live = true := by cases o <;> simp [unmk, SObj.live]
theorem unmk_of {o : SObj} (h : o.live = true) : unmk o = o := by cases o <;> first | rfl | simp [SObj.live] at h
open Classical in
noncomputable def rowOf (S : Nat → Prop) (b : Nat) : Option Nat := if S b then some b else none
noncomputable def startE (um : Bool) (S : Nat → Prop) (C : Cx) (H : List SObj) : EnD :=
 { C := { C with ρ := fun h => if h < C.n then C.ρ h else rowOf S (h - C.n) }, H := (if um then H.map unmk else H) ++ List.replicate C.w.heap.size (.row .u8 []), base := [] }
theorem startE_own {um : Bool} {S : Nat → Prop} {C : Cx} {b : Nat} (hn : C.n = H.length) : OwnB (startE um S C H).C (startE um S C H).H b ↔ OwnB C H b ∨ (S b ∧ b < C.w.heap.size) := by
 have hlen : (if um then H.map unmk else H).length = H.length := by cases um <;> simp
 constructor
 · rintro ⟨h, o, ho, hl, hb⟩
   simp only [startE] at ho hb
   rcases Nat.lt_or_ge h H.length with hh | hh
   · rw [List.getElem?_append_left (by rw [hlen]; exact hh)] at ho
     rw [if_pos (by omega)] at hb
     cases um
     · exact .inl ⟨h, o, ho, hl, hb⟩
     · simp only [if_true, List.getElem?_map, Option.map_eq_some_iff] at ho
       obtain ⟨o', ho', rfl⟩ := ho
       exact .inl ⟨h, o', ho', unmk_live.1 hl, hb⟩
   · rw [List.getElem?_append_right (by rw [hlen]; exact hh), hlen] at ho
     rw [if_neg (by omega)] at hb
     have h1 := (List.getElem?_eq_some_iff.1 ho).1
     rw [List.length_replicate] at h1
     unfold rowOf at hb
     split at hb
     · rename_i hS
       cases hb
       rw [hn]
       exact .inr ⟨hn ▸ hS, h1⟩
     · cases hb
 · rintro (⟨h, o, ho, hl, hb⟩ | ⟨hS, hb⟩)
   · have hh := (List.getElem?_eq_some_iff.1 ho).1
     refine ⟨h, o, ?_, hl, ?_⟩
     · simp only [startE]
       rw [List.getElem?_append_left (by rw [hlen]; exact hh)]
       cases um
       · exact ho
       · simp only [if_true, List.getElem?_map, ho, Option.map_some, unmk_of hl]
     · simp only [startE]
       rw [if_pos (by omega)]; exact hb
   · refine ⟨H.length + b, .row .u8 [], ?_, rfl, ?_⟩
     · simp only [startE]
       rw [List.getElem?_append_right (by rw [hlen]; omega), hlen, Nat.add_sub_cancel_left, List.getElem?_replicate, if_pos hb]
     · simp only [startE]
       rw [if_neg (by omega), hn, Nat.add_sub_cancel_left]
       unfold rowOf
       rw [if_pos hS]
theorem startE_evo {um : Bool} {S : Nat → Prop} {C C' : Cx} (h : Evo (startE um S C H).C C') : Evo C C' :=
 ⟨h.n, fun x hx => (h.ρ x hx).trans (if_pos hx), h.I, h.sz⟩
theorem ext_start {E : En} {um : Bool} {S : Nat → Prop} {C C' : Cx} {H' : List SObj} (hw : Wd C H) (hx : Ext E C H) (hS : ∀ b, S b → Perm E b) (hu : um = true → ∀ n, E.H[0]? ≠ some (.mark n)) (k : Ext (startE um S C H) C' H') : Ext E C' H' := by
 have hown : ∀ b, OwnB (startE um S C H).C (startE um S C H).H b → Perm E b := fun b hb => ((startE_own hw.n).1 hb).elim (hx.ownNew b) fun h => hS b h.1
 refine ⟨hx.evo.trans (startE_evo k.evo), Nat.le_trans hx.size k.size, k.os.trans hx.os, k.tape.trans hx.tape, k.output.trans hx.output, fun b h1 h2 => ?_, fun b hb => ?_, fun b hb => ?_, fun m h0 hm => ?_⟩
 · exact (k.frame b (Nat.lt_of_lt_of_le h1 hx.size) fun ho => (hown b ho).elim (fun x => absurd h1 (Nat.not_lt.2 x)) h2).trans (hx.frame b h1 h2)
 · rcases k.immNew b hb with g | ⟨g, u⟩
   · exact orMap (hx.immNew b g) id fun ⟨x, u⟩ => ⟨x, u.keep (k.evo.I b g).2⟩
   · exact .inr ⟨g.elim (fun x => .inl (Nat.le_trans hx.size x)) (hown b), u⟩
 · exact (k.ownNew b hb).elim (fun x => .inl (Nat.le_trans hx.size x)) (hown b)
 · have h1 := hx.keep0 m h0 hm
   have hn := hw.n
   have hlt : 0 < C.n := Nat.lt_of_lt_of_le h0 hx.evo.n
   cases um with
   | true => exact absurd hm (hu rfl m)
   | false =>
    refine k.keep0 m hlt ?_
    simp only [startE]
    rw [List.getElem?_append_left (by simpa using (show 0 < H.length by omega))]
    exact h1

structure FG where
 um : Bool
 core : EnD → Cx → List SObj → (Nat → Prop) → Prop
 next : ∀ {E C C' H H' S}, Ext ⟨C, H⟩ C' H' → core E C H S → core E C' H' S
 own : ∀ {E C C' H H' S}, Wd C H → C'.w = C.w → (∀ b, C.I b → C'.I b) → (∀ b, C'.I b → C.I b ∨ OwnB C H b) → (∀ b, OwnB C' H' b → OwnB C H b ∨ (E.C.w.heap.size ≤ b ∧ ¬ S b)) → (∀ n, 0 < E.C.n → H[0]? = some (.mark n) → H'[0]? = some (.mark n)) → E.C.n ≤ C'.n → core E C H S → core E C' H' S
 perm : ∀ {E C H S b}, core E C H S → S b → Perm E.toEn b ∧ ¬ C.I b ∧ ¬ OwnB C H b ∧ b < C.w.heap.size
 abide : ∀ {E C H S w' I'}, core E C H S → C.w.heap.size ≤ w'.heap.size → (∀ b, b < C.w.heap.size → (b < E.C.w.heap.size ∨ S b ∨ C.I b ∨ OwnB C H b) → w'.heap[b]? = C.w.heap[b]?) → (∀ b, C.I b → w'.heap[b]? = C.w.heap[b]?) → w'.os = C.w.os → w'.tape = C.w.tape → w'.output = C.w.output →
  (∀ b m, World.bsize C.w b = some m → World.bsize w' b = some m) → (∀ b, C.I b → I' b) → (∀ b, I' b → C.I b ∨ (E.C.w.heap.size ≤ b ∧ ¬ S b ∧ ¬ OwnB C H b ∧ Unf w' b)) → core E { C with w := w', I := I' } H S
 lo : ∀ {E C H S b}, core E C H S → S b → FarAt C.w b → b < E.C.w.heap.size
 start : ∀ {E C H S}, Wd C H → core E C H S → core (startE um S C H) C H S
 back : ∀ {E C H S C' H' S'}, Wd C H → core E C H S → Ext (startE um S C H) C' H' → core (startE um S C H) C' H' S' → core E C' H' S'
 unm : ∀ {E C H S}, um = true → core E C H S → ∀ n, E.H[0]? ≠ some (.mark n)
 base : ∀ {E C H S} (ds : List Deferred), core E C H S → core { E with base := ds } C H S

theorem MarkOk.far {E : En} {C : Cx} {D : Nat} (h : MarkOk E C H D) : FarAt C.w D := ⟨_, h.at_, trivial⟩
theorem MarkOk.next {E : En} {C C' : Cx} {H' : List SObj} {D : Nat} (hx : Ext ⟨C, H⟩ C' H') (h : MarkOk E C H D) : MarkOk E C' H' D := by
 have hlt : D < C.w.heap.size := (Array.getElem?_eq_some_iff.1 h.at_).1
 refine ⟨h.sz, fun hi => ?_, fun ho => ?_, (hx.frame D hlt h.own).trans h.at_⟩
 · exact (hx.immNew D hi).elim h.imm fun ⟨x, _⟩ => x.elim (fun x => absurd hlt (Nat.not_lt.2 x)) h.own
 · exact (hx.ownNew D ho).elim (fun x => absurd hlt (Nat.not_lt.2 x)) h.own
theorem MarkOk.same {E : En} {C C' : Cx} {H' : List SObj} {D : Nat} (e : C'.w = C.w) (hi : ∀ b, C'.I b → C.I b ∨ OwnB C H b) (ho : ∀ b, OwnB C' H' b → OwnB C H b) (h : MarkOk E C H D) : MarkOk E C' H' D :=
 ⟨h.sz, fun x => (hi D x).elim h.imm h.own, fun x => h.own (ho D x), by rw [e]; exact h.at_⟩

@[reducible] def fgG (g : FG) : Ghost where
 inv := fun E C H => ∃ S, g.core E C H S
 fin := fun E C H ds => ds = E.base ∧ ∃ S, g.core E C H S
 toFin := fun h => ⟨rfl, h⟩
 next := fun hx ⟨S, h⟩ => ⟨S, g.next hx h⟩
 same := fun hw e hk hi ho hm hl ⟨S, h⟩ => ⟨S, g.own hw e hk hi (fun b hb => .inl (ho b hb)) hm hl h⟩
end Go.Sx
set_option linter.unusedSectionVars false
namespace Go.Sx
open Go

variable {P : Program} {AQ : Ex → List SV → List SObj → Prop} {k0 : Nat} {k : List It} {t : List SV} {H : List SObj}

@[reducible] def topG (g : FG) (Ds : List Nat) : Ghost where
 inv := fun E C H => (∃ S, g.core E C H S) ∧ Ds.Nodup ∧ ∀ D ∈ Ds, MarkOk E.toEn C H D
 fin := fun E C H ds => ∃ Ds' : List Nat, ds = Ds'.map markD ++ E.base ∧ (∃ S, g.core E C H S) ∧ (Ds' ++ Ds).Nodup ∧ ∀ D ∈ Ds' ++ Ds, MarkOk E.toEn C H D
 toFin := fun h => ⟨[], rfl, h.1, by simpa using h.2.1, by simpa using h.2.2⟩
 next := fun hx h => ⟨(fgG g).next hx h.1, h.2.1, fun D hD => (h.2.2 D hD).next hx⟩
 same := fun hw e hk hi ho hm hl h => ⟨(fgG g).same hw e hk hi ho hm hl h.1, h.2.1, fun D hD => (h.2.2 D hD).same e hi ho⟩
 rd := fun r => r = none
 rd0 := rfl

def Pins (L : List (Nat × Obj)) (C : Cx) (H : List SObj) (S : Nat → Prop) : Prop := ∀ x ∈ L, ¬ C.I x.1 ∧ ¬ OwnB C H x.1 ∧ ¬ S x.1 ∧ C.w.heap[x.1]? = some x.2 ∧ far x.2
theorem Pins.next {L : List (Nat × Obj)} {S : Nat → Prop} {C C' : Cx} {H' : List SObj} (hx : Ext ⟨C, H⟩ C' H') (h : Pins L C H S) : Pins L C' H' S := fun x hxL => by
 obtain ⟨h1, h2, hS, h3, h4⟩ := h x hxL
 have hlt : x.1 < C.w.heap.size := (Array.getElem?_eq_some_iff.1 h3).1
 refine ⟨fun hi => ?_, fun ho => ?_, hS, (hx.frame _ hlt h2).trans h3, h4⟩
 · exact (hx.immNew _ hi).elim h1 fun ⟨y, _⟩ => y.elim (fun y => absurd hlt (Nat.not_lt.2 y)) h2
 · exact (hx.ownNew _ ho).elim (fun y => absurd hlt (Nat.not_lt.2 y)) h2
theorem Pins.same {L : List (Nat × Obj)} {S : Nat → Prop} {C C' : Cx} {H' : List SObj} (e : C'.w = C.w) (hi : ∀ b, C'.I b → C.I b ∨ OwnB C H b) (ho : ∀ b, OwnB C' H' b → OwnB C H b) (h : Pins L C H S) : Pins L C' H' S := fun x hxL => by
 obtain ⟨h1, h2, hS, h3, h4⟩ := h x hxL
 exact ⟨fun y => (hi _ y).elim h1 h2, fun y => h2 (ho _ y), hS, by rw [e]; exact h3, h4⟩
@[reducible] def pinG (g : FG) (L : List (Nat × Obj)) : Ghost where
 inv := fun E C H => ∃ S, g.core E C H S ∧ Pins L C H S
 fin := fun E C H ds => ds = E.base ∧ ∃ S, g.core E C H S ∧ Pins L C H S
 toFin := fun h => ⟨rfl, h⟩
 next := fun hx ⟨S, h⟩ => ⟨S, g.next hx h.1, h.2.next hx⟩
 same := fun hw e hk hi ho hm hl ⟨S, h⟩ => ⟨S, g.own hw e hk hi (fun b hb => .inl (ho b hb)) hm hl h.1, h.2.same e hi ho⟩

structure FJ (B : Nat) (J : Nat → (Nat → Prop) → World → (Nat → Prop) → Prop) : Prop where
 abide : ∀ {m S w I w' I'}, J m S w I → w.heap.size ≤ w'.heap.size → (∀ b, b < w.heap.size → (b < B ∨ S b ∨ I b) → w'.heap[b]? = w.heap[b]?) → (∀ b, I b → w'.heap[b]? = w.heap[b]?) → w'.os = w.os → w'.tape = w.tape → w'.output = w.output →
  (∀ b m, World.bsize w b = some m → World.bsize w' b = some m) → (∀ b, I b → I' b) → (∀ b, I' b → I b ∨ (B ≤ b ∧ ¬ S b ∧ Unf w' b)) → J m S w' I'
 fp : ∀ {m S w I b}, J m S w I → S b → ¬ I b ∧ b < w.heap.size
 lo : ∀ {m S w I b}, J m S w I → S b → FarAt w b → b < B
structure YCore (B : Nat) (J : Nat → (Nat → Prop) → World → (Nat → Prop) → Prop) (E : EnD) (C : Cx) (H : List SObj) (S : Nat → Prop) : Prop where
 pos : 0 < E.C.n
 n : E.C.n ≤ C.n
 unm : ∀ n, E.H[0]? ≠ some (.mark n)
 lo : B ≤ E.C.w.heap.size
 sz : E.C.w.heap.size ≤ C.w.heap.size
 own : ∀ b, OwnB C H b → Perm E.toEn b ∧ B ≤ b
 st : ∃ m, H[0]? = some (.mark m) ∧ J m S C.w C.I
 fp : ∀ b, S b → Perm E.toEn b ∧ ¬ OwnB C H b
end Go.Sx
set_option linter.unusedSectionVars false
namespace Go.Sx
open Go

variable {P : Program} {AQ : Ex → List SV → List SObj → Prop} {k0 : Nat} {k : List It} {t : List SV} {H : List SObj}

structure Fr (Q : Nat → Prop) (C C' : Cx) : Prop where
 size : C.w.heap.size ≤ C'.w.heap.size
 os : C'.w.os = C.w.os
 tape : C'.w.tape = C.w.tape
 output : C'.w.output = C.w.output
 keep : Keeps C.I C'.I C.w C'.w
 sz : ∀ b m, World.bsize C.w b = some m → World.bsize C'.w b = some m
 frame : ∀ b, b < C.w.heap.size → ¬ Q b → C'.w.heap[b]? = C.w.heap[b]?
 imm : ∀ b, C'.I b → C.I b ∨ ((C.w.heap.size ≤ b ∨ Q b) ∧ Unf C'.w b)
theorem Fr.trans {Q Q' : Nat → Prop} {C C' C'' : Cx} (h : Fr Q C C') (k : Fr Q' C' C'') (hq : ∀ b, Q' b → C.w.heap.size ≤ b ∨ Q b) : Fr Q C C'' where
 size := Nat.le_trans h.size k.size
 os := k.os.trans h.os
 tape := k.tape.trans h.tape
 output := k.output.trans h.output
 keep := h.keep.trans k.keep
 sz := fun b m hm => k.sz b m (h.sz b m hm)
 frame := fun b hb hn => (k.frame b (Nat.lt_of_lt_of_le hb h.size) fun h' => (hq b h').elim (fun x => absurd hb (Nat.not_lt.2 x)) hn).trans (h.frame b hb hn)
 imm := fun b hb => by
  rcases k.imm b hb with x | ⟨x, u⟩
  · exact orMap (h.imm b x) id fun ⟨y, u⟩ => ⟨y, u.keep (k.keep b x).2⟩
  · exact .inr ⟨x.elim (fun y => .inl (Nat.le_trans h.size y)) (hq b), u⟩
theorem Fr.mono {Q Q' : Nat → Prop} {C C' : Cx} (h : Fr Q C C') (hq : ∀ b, Q b → Q' b) : Fr Q' C C' where
 size := h.size
 os := h.os
 tape := h.tape
 output := h.output
 keep := h.keep
 sz := h.sz
 frame := fun b hb hn => h.frame b hb fun x => hn (hq b x)
 imm := fun b hb => orMap (h.imm b hb) id fun ⟨y, u⟩ => ⟨orMap y id (hq b), u⟩
structure Rnd (S : Nat → Prop) (C C' : Cx) (H H' : List SObj) (S' : Nat → Prop) : Prop where
 evo : Evo C C'
 fr : Fr (fun b => S b ∨ OwnB C H b) C C'
 own : ∀ b, OwnB C' H' b → OwnB C H b
 fp : ∀ b, S' b → (C.w.heap.size ≤ b ∨ S b ∨ OwnB C H b) ∧ ¬ OwnB C' H' b

end Go.Sx
set_option linter.unusedSectionVars false
namespace Go.Sx
open Go

variable {P : Program} {AQ : Ex → List SV → List SObj → Prop} {k0 : Nat} {k : List It} {t : List SV} {H : List SObj}

def putL : List Tmp → List SV → List SV → List SV
 | p :: ps, s :: l, t => putL ps l (t.set p s)
 | _, _, t => t
theorem Fr.congr {Q : Nat → Prop} {A A' B B' : Cx} (h : Fr Q A B) (e1 : A'.w = A.w) (i1 : ∀ b, A'.I b ↔ A.I b) (e2 : B'.w = B.w) (i2 : ∀ b, B'.I b ↔ B.I b) : Fr Q A' B' where
 size := by rw [e1, e2]; exact h.size
 os := by rw [e1, e2]; exact h.os
 tape := by rw [e1, e2]; exact h.tape
 output := by rw [e1, e2]; exact h.output
 keep := fun b hb => ⟨(i2 b).2 (h.keep b ((i1 b).1 hb)).1, by rw [e1, e2]; exact (h.keep b ((i1 b).1 hb)).2⟩
 sz := by rw [e1, e2]; exact h.sz
 frame := by rw [e1, e2]; exact h.frame
 imm := fun b hb => by rw [e1, e2]; exact (h.imm b ((i2 b).1 hb)).imp (i1 b).2 id
structure Cal (g : FG) (E : EnD) (Ds : List Nat) (t : List SV) (tms : List Value) (l : Nat) (o : Obj) (C : Cx) (H : List SObj) (S : Nat → Prop) : Prop where
 wd : Wd C H
 ext : Ext E.toEn C H
 core : g.core E C H S
 tmps : SV.denL C t tms
 marks : ∀ D ∈ Ds, MarkOk E.toEn C H D
 lne : l ∉ Ds
 lsz : E.C.w.heap.size ≤ l
 limm : ¬ C.I l
 lown : ¬ OwnB C H l
 lat : C.w.heap[l]? = some o
 lfar : far o
def calS (Ds : List Nat) (l : Nat) (C : Cx) (H : List SObj) (S : Nat → Prop) (b : Nat) : Prop := OwnB C H b ∨ S b ∨ b = l ∨ b ∈ Ds
variable {g : FG} {E : EnD} {Ds : List Nat} {tms : List Value} {l : Nat} {o : Obj} {C : Cx} {S : Nat → Prop}

theorem Cal.fp (h : Cal g E Ds t tms l o C H S) {b : Nat} (hb : calS Ds l C H S b) : ¬ C.I b ∧ b < C.w.heap.size := by
 rcases hb with x | x | x | x
 · exact h.wd.own b x
 · exact ⟨(g.perm h.core x).2.1, (g.perm h.core x).2.2.2⟩
 · subst x; exact ⟨h.limm, (Array.getElem?_eq_some_iff.1 h.lat).1⟩
 · exact ⟨(h.marks b x).imm, (Array.getElem?_eq_some_iff.1 (h.marks b x).at_).1⟩
theorem Cal.abide {B : Nat} {w' : World} {I' : Nat → Prop} (h : Cal g E Ds t tms l o C H S) (hB : E.C.w.heap.size ≤ B) (hs : C.w.heap.size ≤ w'.heap.size) (hf : ∀ b, b < C.w.heap.size → (b < B ∨ calS Ds l C H S b ∨ C.I b) → w'.heap[b]? = C.w.heap[b]?)
 (h1 : w'.os = C.w.os) (h2 : w'.tape = C.w.tape) (h3 : w'.output = C.w.output) (hz : ∀ b m, World.bsize C.w b = some m → World.bsize w' b = some m) (hI : ∀ b, C.I b → I' b) (hI' : ∀ b, I' b → C.I b ∨ (B ≤ b ∧ ¬ calS Ds l C H S b ∧ Unf w' b)) (hlt : ∀ b, I' b → b < w'.heap.size) :
 Cal g E Ds t tms l o { C with w := w', I := I' } H S := by
 have hk : Keeps C.I I' C.w w' := fun b hb => ⟨hI b hb, hf b (h.wd.imm b hb) (.inr (.inr hb))⟩
 have he : Evo C { C with w := w', I := I' } := ⟨Nat.le_refl _, fun _ _ => rfl, hk, hz⟩
 refine ⟨⟨h.wd.n, fun x o ho => ?_, fun b hb => ?_, h.wd.inj, hlt⟩, ⟨h.ext.evo.trans he, Nat.le_trans h.ext.size hs, h1.trans h.ext.os, h2.trans h.ext.tape, h3.trans h.ext.output, fun b hb hn => ?_, fun b hb => ?_, h.ext.ownNew, h.ext.keep0⟩, ?_, denL_evo he h.tmps, fun D hD => ?_, h.lne, h.lsz, ?_, h.lown, ?_, h.lfar⟩
 · by_cases hl : o.live = true
   · exact objDen_evo (C' := { C with w := w', I := I' }) hk x rfl (fun b hb => hf b (h.wd.own b ⟨x, o, ho, hl, hb⟩).2 (.inr (.inl (.inl ⟨x, o, ho, hl, hb⟩)))) (denL_evo he) (h.wd.obj x o ho)
   · cases o <;> first | trivial | simp [SObj.live] at hl
 · have := h.wd.own b hb
   exact ⟨fun hi => (hI' b hi).elim this.1 fun y => y.2.1 (.inl hb), Nat.lt_of_lt_of_le this.2 hs⟩
 · exact (hf b (Nat.lt_of_lt_of_le hb h.ext.size) (.inl (Nat.lt_of_lt_of_le hb hB))).trans (h.ext.frame b hb hn)
 · rcases hI' b hb with x | x
   · exact orMap (h.ext.immNew b x) id fun ⟨y, u⟩ => ⟨y, u.keep (hk b x).2⟩
   · exact .inr ⟨.inl (Nat.le_trans hB x.1), x.2.2⟩
 · refine g.abide h.core hs (fun b hb hc => hf b hb ?_) (fun b hb => (hk b hb).2) h1 h2 h3 hz hI fun b hb => orMap (hI' b hb) id fun x => ⟨Nat.le_trans hB x.1, fun y => x.2.1 (.inr (.inl y)), fun y => x.2.1 (.inl y), x.2.2⟩
   rcases hc with x | x | x | x
   · exact .inl (Nat.lt_of_lt_of_le x hB)
   · exact .inr (.inl (.inr (.inl x)))
   · exact .inr (.inr x)
   · exact .inr (.inl (.inl x))
 · have m := h.marks D hD
   exact ⟨m.sz, fun hi => (hI' D hi).elim m.imm fun y => y.2.1 (.inr (.inr (.inr hD))), m.own, (hf D (Array.getElem?_eq_some_iff.1 m.at_).1 (.inr (.inl (.inr (.inr (.inr hD)))))).trans m.at_⟩
 · exact fun hi => (hI' l hi).elim h.limm fun y => y.2.1 (.inr (.inr (.inl rfl)))
 · exact (hf l (Array.getElem?_eq_some_iff.1 h.lat).1 (.inr (.inl (.inr (.inr (.inl rfl)))))).trans h.lat
end Go.Sx
set_option linter.unusedSectionVars false
namespace Go.Sx
open Go

variable {P : Program} {AQ : Ex → List SV → List SObj → Prop} {k0 : Nat} {k : List It} {t : List SV} {H : List SObj}
variable {g : FG} {E : EnD} {Ds : List Nat} {tms : List Value} {l : Nat} {o : Obj} {C C' : Cx} {H' : List SObj} {S S' : Nat → Prop}

def calL (Ds : List Nat) (l : Nat) (o : Obj) : List (Nat × Obj) := (l, o) :: Ds.map fun D => (D, .deferred (some []))
theorem Cal.run (h : Cal g E Ds t tms l o C H S) (hx : Ext (startE g.um S C H).toEn C' H') (hw : Wd C' H') (hcore : g.core (startE g.um S C H) C' H' S') (hp : Pins (calL Ds l o) C' H' S') : Cal g E Ds t tms l o C' H' S' := by
 obtain ⟨q1, q2, q3, q4, q5⟩ := hp (l, o) (by simp [calL])
 refine ⟨hw, ext_start h.wd h.ext (fun b hb => (g.perm h.core hb).1) (fun hu => g.unm hu h.core) hx, g.back h.wd h.core hx hcore, denL_evo (startE_evo hx.evo) h.tmps, fun D hD => ?_, h.lne, h.lsz, q1, q2, q4, q5⟩
 obtain ⟨p1, p2, p3, p4, p5⟩ := hp (D, .deferred (some [])) (by simp [calL]; exact .inr hD)
 exact ⟨(h.marks D hD).sz, p1, p2, p4⟩

def RQ (Hs : Nat → List SObj → Prop) (X : Nat → Ex → List SObj → Prop) (i : Nat) : Ex → List SV → List SObj → Prop
 | .normal, _, H' => Hs (i + 1) H'
 | .ret, _, H' => X i .ret H'
 | .exit id, _, H' => X i (.exit id) H'
 | .pan _, _, _ => False
structure RfOk (P : Program) (g : FG) (ps : Array Tmp) (assign body : Code) (t : List SV) (N : Nat) (vw : Nat → Nat → List SV → List SObj → Prop) (Hs : Nat → List SObj → Prop) (X : Nat → Ex → List SObj → Prop) : Prop where
 len : ∀ i n args' new, vw i n args' new → args'.length = ps.size
 round : ∀ i Hi args' new, i < N → Hs i Hi → vw i Hi.length args' new → ∀ L1 L2, ∃ Φ, (∀ t' H', Φ t' H' → @Sound (pinG g L2) P (RQ Hs X i) ⟨H'.length, [.code body], t', H'⟩) ∧
  @Sound (pinG g L1) P (fun _ _ _ => False) ⟨(Hi ++ new).length, [.code assign, .stop Φ], putL ps.toList args' t, Hi ++ new⟩
@[reducible] def rfRec (fn : FuncId) (us : Array Value) (ps : Array Tmp) (assign body : Code) (D : Nat) (st : LoopState) (pe : Option Code) : Loop := { state := st, pending := pe, fn, tmps := us, params := ps, assign, body, defers := D }

end Go.Sx
