/- Contracts: the reference's reading of keys, names, key sets. -/
import Derived.Test.YtddmkgibghohkaaGreatDoorP27
import Derived.Test.YtddmkgibghohkaaGreatDoorP24
import Derived.Test.YtddmkgibghohkaaGreatDoorPRe4
import Derived.Test.YtddmkgibghohkaaGreatDoorP26
set_option linter.unusedSimpArgs false
set_option linter.unusedVariables false
namespace Go.Proofs.YtddmkgibghohkaaGreatDoor
open Go Go.Sx Go.Proofs
set_option maxRecDepth 100000
set_option maxHeartbeats 4000000
set_option linter.unusedSimpArgs false

theorem rgetKey_c (b : List UInt8) (hb : b.length ≤ 1048576) : PC Tryz.prog 191 [.isl .u8 b] (.agg (KeyT.cells (keyR b))) := by
 have q0 := itmR_len b 0
 have q1 := itmR_len b 1
 have q2 := itmR_len b 2
 refine pc_seal rfl rfl ?_
 refine runE mixed fi191 ?_
 refine callI_pure (item_c b 0 (by omega) (by omega)) ?_
 refine goE mixed ?_
 refine callI_pure (getInt_c _ (by omega)) ?_
 refine goE mixed ?_
 refine callI_pure (item_c b 1 (by omega) (by omega)) ?_
 refine goE mixed ?_
 refine callI_pure (getInt_c _ (by omega)) ?_
 refine goE mixed ?_
 refine callI_pure (item_c b 2 (by omega) (by omega)) ?_
 refine goE mixed ?_
 refine callI_pure (getBytes_c _ (by omega)) ?_
 refine goE mixed ?_
 exact ⟨rfl, rfl, rfl⟩
def srN (l : List (List UInt8)) (i : Nat) : List ByteArray := (l.take i).map sR
theorem srN_succ {l : List (List UInt8)} {i : Nat} (h : i < l.length) : srN l (i + 1) = srN l i ++ [sR (l.getD i (Ty.slice .u8).dflt)] := by unfold srN; rw [take_succ_getD (d := (Ty.slice .u8).dflt) h]; simp
theorem srN_len {l : List (List UInt8)} {i : Nat} (h : i ≤ l.length) : (srN l i).length = i := by simp [srN]; omega
theorem sR_size (x : List UInt8) : (sR x).size ≤ x.length := by
 have := conR_len x
 unfold sR
 show (conR x).toArray.size ≤ _
 simpa using this
theorem rgetPrin_c (b : List UInt8) (hb : b.length ≤ 1048576) : PC Tryz.prog 106 [.isl .u8 b] (.agg (PrinT.cells (prnR b))) := by
 have q0 := itmR_len b 0
 have q1 := itmR_len b 1
 have hc := contents_c (itmR b 0) (by omega)
 have hl := conR_len (itmR b 0)
 have he := elements_c (conR (itmR b 0)) (by omega)
 have hm := elsR_mem (conR (itmR b 0)).length (conR (itmR b 0))
 have hle := elsR_len (conR (itmR b 0)).length (conR (itmR b 0))
 have hd : prnR b = ((elsR (conR (itmR b 0)).length (conR (itmR b 0))).map sR, sR (itmR b 1)) := rfl
 rw [hd]
 clear hd
 generalize elsR (conR (itmR b 0)).length (conR (itmR b 0)) = l at *
 refine pc_seal rfl rfl ?_
 refine runE mixed fi106 ?_
 refine callI_pure (item_c b 0 (by omega) (by omega)) ?_
 refine goE mixed ?_
 refine callI_pure hc ?_
 refine goE mixed ?_
 refine callI_pure he ?_
 refine goE mixed ?_
 refine si_nilcell 1 0 .str rfl rfl rfl ?_
 with_reducible refine sxE ?_
 refine si_loopX (ι := Nat × List SObj) (fun s => [(5, rI s.1)]) (fun s => [.cells 24 [.raw (.slice none 0 0), rS ⟨#[]⟩], .cells 24 [.bld (s.2.length + 2) .str (srN l s.1).length, rS ⟨#[]⟩]] ++ s.2 ++ [.row .str (srN l s.1)]) (fun s => l.length - s.1) (fun s => s.1 ≤ l.length) (0, []) (Nat.zero_le _) rfl ?_ ?_
 · with_reducible refine sxE ?_; trivial
 rintro ⟨i, G⟩ hi
 dsimp only at hi
 have hwr : IntKind.i64.wrap ((i : Int) + 1) = ((i + 1 : Nat) : Int) := wrap_succ (by omega)
 have hln := srN_len hi
 refine run_sound mixed 12 _ ?_
 with_reducible refine sxaE ?_
 refine ⟨fun hlt => ?_, fun hge => ?_⟩
 · have hmm := hm _ (getD_mem (d := (Ty.slice .u8).dflt) hlt)
   have hst := srN_succ hlt
   have hsz := sR_size (l.getD i (Ty.slice .u8).dflt)
   refine si_drw [1] mixed ?_
   refine goaE mixed ?_
   refine ⟨⟨by omega, hlt⟩, callR_pure (contents_c _ (by omega)) ?_⟩
   refine goaE mixed ?_


   refine ⟨by show (sR _).size ≤ _; omega, ⟨by omega, by omega⟩, (i + 1, G ++ [.dead, .row .str [sR (l.getD i (Ty.slice .u8).dflt)]]), by dsimp only; omega, by dsimp only; omega, ?_, ?_⟩
   · simp [hst]
     rfl
   · simp (maxSteps := 3000000) only [hwr, List.append_assoc, getA, getA0, setA, setA0, List.length_append, Nat.add_assoc, go_sem, ↓zA, ↓reduceIte, ↓reduceDIte, reduceCtorEq, Nat.reduceAdd, Nat.reduceSub, Nat.reduceLeDiff, Nat.reduceLT, Nat.reduceEqDiff, Nat.reduceBEq, Nat.reduceMul, Int.reduceToNat, Int.reduceEq, Int.reduceLT, Int.reduceLE] <;> try simp only [zB]
 · obtain rfl : i = l.length := by omega
   refine goaE mixed ?_
   refine callI_pure (item_c b 1 (by omega) (by omega)) ?_
   refine goaE mixed ?_
   refine callI_pure (contents_c _ (by omega)) ?_
   refine goaE mixed ?_
   exact ⟨⟨Nat.le_refl _, by omega⟩, by rw [List.take_length]; unfold srN; rw [List.take_length], rfl⟩
def pnN (l : List (List UInt8)) (i : Nat) : List Prin := (l.take i).map prnR
theorem pnN_succ {l : List (List UInt8)} {i : Nat} (h : i < l.length) : pnN l (i + 1) = pnN l i ++ [prnR (l.getD i (Ty.slice .u8).dflt)] := by unfold pnN; rw [take_succ_getD (d := (Ty.slice .u8).dflt) h]; simp
theorem pnN_len {l : List (List UInt8)} {i : Nat} (h : i ≤ l.length) : (pnN l i).length = i := by simp [pnN]; omega
theorem pnN_all (l : List (List UInt8)) : pnN l l.length = l.map prnR := by unfold pnN; rw [List.take_length]
theorem rgetPrins_c (b : List UInt8) (hb : b.length ≤ 1048576) : PC Tryz.prog 107 [.isl .u8 b] (.isl PrinT (nmsR b)) := by
 have hc := contents_c b (by omega)
 have hl := conR_len b
 have he := elements_c (conR b) (by omega)
 have hm := elsR_mem (conR b).length (conR b)
 have hle := elsR_len (conR b).length (conR b)
 have hd : nmsR b = (elsR (conR b).length (conR b)).map prnR := rfl
 rw [hd]
 clear hd
 generalize elsR (conR b).length (conR b) = l at *
 rw [← pnN_all]
 refine pc_seal rfl rfl ?_
 refine runE mixed fi107 ?_
 refine callI_pure hc ?_
 refine goE mixed ?_
 refine callI_pure he ?_
 refine goE mixed ?_
 refine si_accN 3 PrinT (pnN l) (fun i => [(5, rI i)]) l.length (fun _ => True) rfl (by simp) (by simp [pnN]) rfl (fun i => rfl) ?_ fun i hi _ => ?_
 · with_reducible refine sxE ?_; trivial
 have hwr : IntKind.i64.wrap ((i : Int) + 1) = ((i + 1 : Nat) : Int) := wrap_succ (by omega)
 have hln := pnN_len hi
 refine goE mixed ?_
 refine ⟨fun hlt => ?_, fun hge => ?_⟩
 · have hmm := hm _ (getD_mem (d := (Ty.slice .u8).dflt) hlt)
   have hst := pnN_succ hlt
   have hq := itmR_len (l.getD i (Ty.slice .u8).dflt) 1
   have hs1 : (prnR (l.getD i (Ty.slice .u8).dflt)).2.size ≤ 1048576 := by
    have := sR_size (itmR (l.getD i (Ty.slice .u8).dflt) 1)
    show (sR _).size ≤ _
    omega
   have hs2 : (prnR (l.getD i (Ty.slice .u8).dflt)).2.size ≤ 140737488355328 := by omega
   refine ⟨⟨by omega, hlt⟩, callI_pure (rgetPrin_c _ (by omega)) ?_⟩
   refine goE mixed ?_
   refine ⟨hs2, ⟨by omega, by omega⟩, acc_next [_, _] [] hlt trivial (by rw [hst]; rfl) ?_⟩
   with_reducible refine sx3 hwr hst ?_; trivial
 · obtain rfl : i = l.length := by omega
   refine ⟨⟨Nat.le_refl _, by omega⟩, List.take_of_length_le (Nat.le_refl _)⟩
def kyN (l : List (List UInt8)) (i : Nat) : List Key := (l.take i).map keyR
theorem kyN_succ {l : List (List UInt8)} {i : Nat} (h : i < l.length) : kyN l (i + 1) = kyN l i ++ [keyR (l.getD i (Ty.slice .u8).dflt)] := by unfold kyN; rw [take_succ_getD (d := (Ty.slice .u8).dflt) h]; simp
theorem kyN_len {l : List (List UInt8)} {i : Nat} (h : i ≤ l.length) : (kyN l i).length = i := by simp [kyN]; omega
theorem kyN_all (l : List (List UInt8)) : kyN l l.length = l.map keyR := by unfold kyN; rw [List.take_length]
theorem rgetSet_c (b : List UInt8) (hb : b.length ≤ 1048576) : PC Tryz.prog 109 [.isl .u8 b] (.agg (SetT.cells (setR b))) := by
 have q0 := itmR_len b 0
 have q1 := itmR_len b 1
 have q2 := itmR_len b 2
 have q3 := itmR_len b 3
 have q4 := itmR_len b 4
 have hc := contents_c (itmR b 1) (by omega)
 have hl := conR_len (itmR b 1)
 have he := elements_c (conR (itmR b 1)) (by omega)
 have hm := elsR_mem (conR (itmR b 1)).length (conR (itmR b 1))
 have hle := elsR_len (conR (itmR b 1)).length (conR (itmR b 1))
 have hd : setR b = ((gIntR (itmR b 0) : Int), (elsR (conR (itmR b 1)).length (conR (itmR b 1))).map keyR, sR (itmR b 2), (gIntR (itmR b 3) : Int), (gIntR (itmR b 4) : Int)) := rfl
 rw [hd]
 clear hd
 generalize elsR (conR (itmR b 1)).length (conR (itmR b 1)) = l at *
 rw [← kyN_all]
 refine pc_seal rfl rfl ?_
 refine runE mixed fi109 ?_
 refine callF_pure (item_c b 0 (by omega) (by omega)) ?_
 refine goE mixed ?_
 refine callF_pure (getInt_c _ (by omega)) ?_
 refine goE mixed ?_
 refine callF_pure (item_c b 2 (by omega) (by omega)) ?_
 refine goE mixed ?_
 refine callF_pure (contents_c _ (by omega)) ?_
 refine goE mixed ?_
 refine callF_pure (item_c b 3 (by omega) (by omega)) ?_
 refine goE mixed ?_
 refine callF_pure (getInt_c _ (by omega)) ?_
 refine goE mixed ?_
 refine callF_pure (item_c b 4 (by omega) (by omega)) ?_
 refine goE mixed ?_
 refine callF_pure (getInt_c _ (by omega)) ?_
 refine goE mixed ?_
 refine callI_pure (item_c b 1 (by omega) (by omega)) ?_
 refine goE mixed ?_
 refine callI_pure hc ?_
 refine goE mixed ?_
 refine callI_pure he ?_
 refine goE mixed ?_
 refine si_nilcell 1 1 KeyT rfl rfl rfl ?_
 with_reducible refine sxE ?_
 refine si_loopX (ι := Nat × List SObj) (fun s => [(5, rI s.1)]) (fun s => [.cells 34 [rI 0, .raw (.slice none 0 0), rS ⟨#[]⟩, rI 0, rI 0], .cells 34 [rI (gIntR (itmR b 0)), .bld (s.2.length + 2) KeyT (kyN l s.1).length, rS (sR (itmR b 2)), rI (gIntR (itmR b 3)), rI (gIntR (itmR b 4))]] ++ s.2 ++ [.row KeyT (kyN l s.1)]) (fun s => l.length - s.1) (fun s => s.1 ≤ l.length) (0, []) (Nat.zero_le _) rfl ?_ ?_
 · with_reducible refine sxE ?_; trivial
 rintro ⟨i, G⟩ hi
 dsimp only at hi
 have hwr : IntKind.i64.wrap ((i : Int) + 1) = ((i + 1 : Nat) : Int) := wrap_succ (by omega)
 have hln := kyN_len hi
 refine run_sound mixed 12 _ ?_
 with_reducible refine sxaE ?_
 refine ⟨fun hlt => ?_, fun hge => ?_⟩
 · have hmm := hm _ (getD_mem (d := (Ty.slice .u8).dflt) hlt)
   have hst := kyN_succ hlt
   refine si_drw [1] mixed ?_
   refine goaE mixed ?_
   refine ⟨⟨by omega, hlt⟩, callR_pure (rgetKey_c _ (by omega)) ?_⟩
   refine goaE mixed ?_
   refine ⟨⟨by omega, by omega⟩, (i + 1, G ++ [.dead, .row KeyT [keyR (l.getD i (Ty.slice .u8).dflt)]]), by dsimp only; omega, by dsimp only; omega, ?_, ?_⟩
   · simp [hst]
   · simp (maxSteps := 3000000) only [hwr, List.append_assoc, getA, getA0, setA, setA0, List.length_append, Nat.add_assoc, go_sem, ↓zA, ↓reduceIte, ↓reduceDIte, reduceCtorEq, Nat.reduceAdd, Nat.reduceSub, Nat.reduceLeDiff, Nat.reduceLT, Nat.reduceEqDiff, Nat.reduceBEq, Nat.reduceMul, Int.reduceToNat, Int.reduceEq, Int.reduceLT, Int.reduceLE] <;> try simp only [zB]
 · obtain rfl : i = l.length := by omega
   refine goaE mixed ?_
   exact ⟨⟨Nat.le_refl _, by omega⟩, List.take_of_length_le (Nat.le_refl _)⟩
end Go.Proofs.YtddmkgibghohkaaGreatDoor
namespace Go.Sx
open Go
variable {P : Program} {AQ : Ex → List SV → List SObj → Prop} {k0 : Nat} {k : List IT} {t : List SV} {H : List SObj}

theorem sound_compact {P : Program} {k : List It} (A A' G : List SObj) {ty : Ty} {xs : List ty.den} (hk : k0 ≤ A.length) (hA : A = A'.map (SObj.ren (shift A.length (A.length + G.length)))) (hb : belH (A.length + 1) A' = true) (hbt : SV.belL (A.length + 1) t = true)
 (hl : leT (shift A.length (A.length + G.length)) t t) (hs : Sound P AQ ⟨k0, k, t, A' ++ [.row ty xs]⟩) : Sound P AQ ⟨k0, k, t, A ++ G ++ [.row ty xs]⟩ := by
 intro E r n C a h0 hd
 have hlen : A.length = A'.length := by have := congrArg List.length hA; rwa [List.length_map] at this
 have hsh : ∀ h, h < A.length → shift A.length (A.length + G.length) h = h := fun h hh => by unfold shift; rw [if_neg (by omega)]
 have hshn : shift A.length (A.length + G.length) A.length = A.length + G.length := by unfold shift; rw [if_pos rfl]
 have hd' : Den E (C.ren (shift A.length (A.length + G.length)) (A' ++ [SObj.row ty xs]).length) t (A' ++ [.row ty xs]) a := by
  refine den_le h0 hd hl (by rw [List.length_append, ← hlen]; exact hbt) (fun h o ho _ => ?_) (belH_of fun h o ho => ?_) (fun h h' o o' ho ho' _ _ e => ?_) (fun h hh => hsh h (Nat.lt_of_lt_of_le hh hk)) (by rw [List.length_append, ← hlen]; exact Nat.le_trans hk (Nat.le_add_right _ _))
  · rcases get_append_some ho with ⟨hh, ho⟩ | ⟨hh, rfl⟩
    · rw [hsh h (by omega), List.append_assoc, List.getElem?_append_left (by omega)]
      have := congrArg (fun l => l[h]?) hA
      simp only [List.getElem?_map, ho] at this
      exact this
    · rw [hh, ← hlen, hshn, ← List.length_append, List.getElem?_append_right (Nat.le_refl _), Nat.sub_self]
      rfl
  · rcases get_append_some ho with ⟨hh, ho⟩ | ⟨hh, rfl⟩
    · rw [List.length_append, ← hlen]
      exact belH_get hb ho
    · rfl
  · have h1 := (List.getElem?_eq_some_iff.1 ho).1
    have h2 := (List.getElem?_eq_some_iff.1 ho').1
    rw [List.length_append, List.length_singleton] at h1 h2
    unfold shift at e
    split at e <;> split at e <;> omega
 exact hs E r n (C.ren (shift A.length (A.length + G.length)) (A' ++ [SObj.row ty xs]).length) a h0 hd'
theorem si_compact (A A' G : List SObj) {ty : Ty} {xs : List ty.den} {td : List IT} (hp : plainT td = true) (hH : H = A ++ G ++ [.row ty xs]) (hk : k0 ≤ A.length) (hA : A = A'.map (SObj.ren (shift A.length (A.length + G.length)))) (hb : belH (A.length + 1) A' = true) (hbt : SV.belL (A.length + 1) t = true)
 (hl : leT (shift A.length (A.length + G.length)) t t) (hs : SoundI P AQ ⟨k0, td, t, A' ++ [.row ty xs]⟩) : SoundI P AQ ⟨k0, td, t, H⟩ := by
 subst hH
 exact soundI_plain (fun _ hr => sound_compact A A' G hk hA hb hbt hl (soundI_get hs hr)) hp
end Go.Sx
namespace Go.Sx
open Go
variable {P : Program} {AQ : Ex → List SV → List SObj → Prop} {k0 : Nat} {k : List IT} {t : List SV} {H : List SObj}

def CutQ (P : Program) (AQ : Ex → List SV → List SObj → Prop) (k0 : Nat) (k : List IT) (T0 : List SV) : Ex → List SV → List SObj → Prop
 | .normal, t, H => SoundI P AQ ⟨k0, k, t, H⟩
 | .pan s, _, H => AQ (.pan s) T0 H
 | _, _, _ => False
theorem cutQ_n {T0 : List SV} (h : SoundI P AQ ⟨k0, k, t, H⟩) : CutQ P AQ k0 k T0 .normal t H := h
theorem cutQ_p {T0 t' : List SV} {s : SV} (h : AQ (.pan s) T0 H) : CutQ P AQ k0 k T0 (.pan s) t' H := h
def SameBut (ws : List Nat) (t t' : List SV) : Prop := t'.length = t.length ∧ ∀ i, i ∉ ws → t'[i]? = t[i]?
theorem SameBut.put {ws : List Nat} {t t' : List SV} (h : SameBut ws t t') {d : Option Tmp} (hd : ∀ e, d = some e → e ∈ ws) (s : SV) : SameBut ws t (putT t' d s) := by
 cases d with
 | none => exact h
 | some e => exact ⟨by simp [putT, h.1], fun i hi => by
  have hne : e ≠ i := fun e' => hi (e' ▸ hd e rfl)
  simp only [putT]
  rw [List.getElem?_set_ne hne]
  exact h.2 i hi⟩
theorem maskT_len : ∀ (ws : List Nat) (t : List SV), (maskT ws t).length = t.length
 | [], t => rfl
 | d :: ws, t => by
  show (maskT ws (t.set d .any)).length = _
  rw [maskT_len ws, List.length_set]
theorem maskT_in : ∀ (ws : List Nat) (t : List SV) (i : Nat) (s : SV), (maskT ws t)[i]? = some s → s = .any ∨ (i ∉ ws ∧ t[i]? = some s)
 | [], t, i, s, h => .inr ⟨by simp, h⟩
 | d :: ws, t, i, s, h => by
  have h' : (maskT ws (t.set d .any))[i]? = some s := h
  rcases maskT_in ws _ i s h' with rfl | ⟨h1, h2⟩
  · exact .inl rfl
  · by_cases e : d = i
    · subst e
      rw [List.getElem?_set] at h2
      simp at h2
      exact .inl h2.2.symm
    · rw [List.getElem?_set_ne e] at h2
      exact .inr ⟨by simp [h1]; exact fun q => e q.symm, h2⟩
theorem leL_get : ∀ {l l' : List SV}, l.length = l'.length → (∀ (i : Nat) s s', l[i]? = some s → l'[i]? = some s' → s' = .any ∨ s' = s) → leL l l'
 | [], [], _, _ => trivial
 | [], _ :: _, h, _ => by simp at h
 | _ :: _, [], h, _ => by simp at h
 | s :: l, s' :: l', h, hp => by
  refine ⟨?_, leL_get (by simpa using h) fun i x x' hx hx' => hp (i + 1) x x' (by simpa using hx) (by simpa using hx')⟩
  rcases hp 0 s s' rfl rfl with rfl | rfl
  · exact SV.le_any s
  · exact SV.le_refl _
theorem SameBut.le {ws : List Nat} {t t' : List SV} (h : SameBut ws t t') : leL t' (maskT ws t) :=
 leL_get (by rw [maskT_len, h.1]) fun i s s' hs hs' => by
  rcases maskT_in ws t i s' hs' with rfl | ⟨h1, h2⟩
  · exact .inl rfl
  · right
    rw [h.2 i h1, h2] at hs
    cases hs; rfl
theorem anyV_cut {k : List It} {all : Array Oper} {G : List Nat} {kI : List IT} {ws : List Nat} {S : Array Bool} {t0 : List SV} (hr : RelT P kI k) (hS : Region.ready .any all S = []) (hW : ∀ (i : Nat) o, all[i]? = some o → S.getD i false = true → ∀ d, o.dst = some d → d ∈ ws) :
 ∀ (fuel : Nat) (listed : Array Bool) (t : List SV) (H : List SObj), SameBut ws t0 t → listed.size = S.size → (∀ j, listed.getD j false = true → S.getD j false = true) → AnyV P (CutQ P AQ k0 kI (maskT ws t0)) k0 [] all G fuel listed t H →
  ∀ (E : EnD) (r : Option Nat) (n : Nat) (C : Cx) (a : Act), E.C.n ≤ k0 → Den E C t H a → wpAnyIn (Fw r) n P .any all (afterT (Fw r) n P E (conc E AQ) k) fuel listed a C.w := by
 have leaf : ∀ {t : List SV} {H : List SObj}, Sound P (CutQ P AQ k0 kI (maskT ws t0)) ⟨k0, [], t, H⟩ → ∀ (E : EnD) (r : Option Nat) (n : Nat) (C : Cx) (a : Act), E.C.n ≤ k0 → Den E C t H a → wpT (Fw r) n P E (conc E AQ) k a C.w := by
  intro t H h E r n C a h0 hd
  have h1 := h E r n C a h0 hd
  simp only [wpT] at h1
  obtain ⟨C', t', H', h2, h3, h4⟩ := h1
  rw [← h3]
  exact soundI_get (h2 : SoundI P AQ ⟨k0, kI, t', H'⟩) hr E r n C' a h0 h4
 intro fuel
 induction fuel with
 | zero => exact fun listed t H _ _ _ h E r n C a h0 hd => ⟨h.1, leaf h.2 E r n C a h0 hd⟩
 | succ fuel ih =>
  intro listed t H hb hsz hsub h E r n C a h0 hd
  refine ⟨fun h9 => leaf (h.1 h9) E r n C a h0 hd, fun i hi => ?_⟩
  obtain ⟨o, ho, h1⟩ := h.2 i hi
  obtain ⟨hun, o', ho', hall⟩ := mem_ready.1 hi
  have hlt : i < S.size := by
   rcases Nat.lt_or_ge i listed.size with q | q
   · omega
   · simp [Array.getElem?_eq_none q] at hun
  have hiS : S.getD i false = true := by
   cases hq : S.getD i false with
   | true => rfl
   | false =>
    have : i ∈ Region.ready .any all S := mem_ready.2 ⟨by simp [hlt] at hq ⊢; exact hq, o', ho', fun e he hb' => hsub _ (hall e he hb')⟩
    rw [hS] at this
    cases this
  have hwd : ∀ d, o.dst = some d → d ∈ ws := hW i o ho hiS
  have hsub' : ∀ j, (listed.setIfInBounds i true).getD j false = true → S.getD j false = true := fun j hj => by
   by_cases e : i = j
   · subst e; exact hiS
   · rw [getD_set_ne false e] at hj; exact hsub j hj
  have hsz' : (listed.setIfInBounds i true).size = S.size := by simpa using hsz
  unfold wpOpIn
  simp only [ho]
  rcases h1 with ⟨hw, hop⟩ | ⟨hw, hk⟩
  · rw [if_pos (wantedT_ok hd.tmps hw)]
    refine hop C r n a _ _ hd.wd (fun x _ => evT_den hd.tmps x) ?_ ?_
    · intro s v H' C' hk hw' hx hs
      exact ih _ _ _ (hb.put hwd s) hsz' hsub' hk.2 E r n C' _ h0 (den_next hd hw' hx hs)
    · intro s v H' C' hk hw' hx hs
      exact ⟨C', maskT ws t0, H', s, v, hk, rfl, hs, rfl, hw', hd.ext.trans hx, hd.defs.next hx, .inr (leL_den hb.le (denL_evo hx.evo hd.tmps))⟩
  · rw [if_neg (by rw [wantedT_ok hd.tmps hw]; simp)]
    exact ⟨fun f _ => fw_fn r f, ih _ _ _ (hb.put hwd _) hsz' hsub' hk.2 E r n C _ h0 (den_next hd hd.wd (Ext.refl _ _) (by rw [SV.den]; rfl))⟩
theorem planL_end {all : Array Oper} : ∀ (fuel : Nat) (listed : Array Bool) (l : List (Bool × OpI)), planL P all fuel listed = some l →
 ∃ S : Array Bool, Region.ready .any all S = [] ∧ S.size = listed.size ∧ (∀ j, listed.getD j false = true → S.getD j false = true) ∧ ∀ i, S.getD i false = true → listed.getD i false = true ∨ ∃ o, all[i]? = some o ∧ ∀ d, o.dst = some d → d ∈ IC.wr (.drw l)
 | 0, listed, l, h => by
  unfold planL at h
  split at h
  · rename_i he
    exact ⟨listed, by simpa using he, rfl, fun _ h => h, fun _ h => .inl h⟩
  · cases h
 | n + 1, listed, l, h => by
  unfold planL at h
  split at h
  · rename_i he
    exact ⟨listed, by simpa using he, rfl, fun _ h => h, fun _ h => .inl h⟩
  · split at h
    · rename_i i fl hch
      split at h
      · rename_i o ho
        split at h
        · rename_i io hco
          split at h
          · rename_i l' hl'
            split at h
            · cases h
              obtain ⟨S, h1, h2, h3, h4⟩ := planL_end n _ l' hl'
              refine ⟨S, h1, by simpa using h2, fun j hj => h3 j (getD_set_true hj), fun j hj => ?_⟩
              rcases h4 j hj with q | ⟨o', q1, q2⟩
              · by_cases e : i = j
                · subst e
                  refine .inr ⟨o, ho, fun d hd => ?_⟩
                  have hio := (compO_op hco).2
                  simp only [IC.wr, List.flatMap_cons, List.mem_append]
                  left
                  unfold OpI.wr
                  split <;> simp [hio, hd]
                · rw [getD_set_ne false e] at q
                  exact .inl q
              · refine .inr ⟨o', q1, fun d hd => ?_⟩
                have := q2 d hd
                simp only [IC.wr, List.flatMap_cons, List.mem_append] at this ⊢
                exact .inr this
            · cases h
          · cases h
        · cases h
      · cases h
    · cases h
theorem si_drwP {l : List (Bool × OpI)} (G : List Nat) (hm : P.follows .mixedOrders = true) (h : SoundI P (CutQ P AQ k0 k (maskT (IC.wr (.drw l)) t)) ⟨k0, [.dops G l], t, H⟩) : SoundI P AQ ⟨k0, .ic (.drw l) :: k, t, H⟩ := soundI_plain (fun td' hr => by
 obtain ⟨c', r, rfl, hc, hr⟩ := hr
 obtain ⟨id, all, rfl, hl⟩ := comp_inv hc
 obtain ⟨S, h1, h2, h3, h4⟩ := planL_end _ _ _ hl
 intro E r' n C a h0 hd
 simp only [wpT]
 have hd' : Den E C.drew t H a := ⟨wd_drew hd.wd, hd.ext.trans (ext_drew C H), hd.defs.next (ext_drew C H), denL_evo (evo_drew C) hd.tmps⟩
 have hno : ∀ j, (Array.replicate all.size false).getD j false = true → False := fun j hj => by
  rcases Nat.lt_or_ge j all.size with q | q
  · simp [q] at hj
  · simp [q] at hj
 refine wpIn_region_any hm (anyV_cut hr h1 (fun i o ho hi d hd => ?_) _ _ _ _ ⟨rfl, fun _ _ => rfl⟩ h2.symm h3 (h all _ _ [] hl rfl) E r' n C.drew a h0 hd')
 rcases h4 i hi with q | ⟨o', q1, q2⟩
 · exact (hno i q).elim
 · rw [ho] at q1; cases q1
   exact q2 d hd) rfl
end Go.Sx
/- Contracts: the reference's decoding of an entry; both decoders tell the same. -/
namespace Go.Proofs.YtddmkgibghohkaaGreatDoor
open Go Go.Sx Go.Proofs
set_option maxRecDepth 100000
set_option maxHeartbeats 4000000
set_option linter.unusedSimpArgs false

theorem elt_len (x : List UInt8) : (eltR x).length ≤ x.length := Nat.le_trans (elsR_len _ _) (conR_len x)
theorem elt_mem {x y : List UInt8} (h : y ∈ eltR x) : y.length ≤ x.length := Nat.le_trans (elsR_mem _ _ y h).2 (conR_len x)
theorem okR_map {t : Ty} {f : List UInt8 → t.den} {x : List UInt8} (hx : x.length ≤ 1048576) (h : ∀ y, y.length ≤ 1048576 → t.ok (f y)) : (Ty.slice t).ok ((eltR x).map f) := by
 refine ⟨by rw [List.length_map]; have := elt_len x; omega, fun z hz => ?_⟩
 obtain ⟨y, hy, rfl⟩ := List.mem_map.1 hz
 exact h y (Nat.le_trans (elt_mem hy) hx)
theorem okR_str {y : List UInt8} (h : y.length ≤ 1048576) : (Ty.str).ok (sR y) := by
 have := sR_size y
 show (sR y).size ≤ _
 omega
theorem okR_con {y : List UInt8} (h : y.length ≤ 1048576) : (Ty.slice .u8).ok (conR y) := ⟨by have := conR_len y; show (conR y).length ≤ _; omega, fun _ _ => trivial⟩
theorem itm_le {y : List UInt8} (n : Nat) (h : y.length ≤ 1048576) : (itmR y n).length ≤ 1048576 := Nat.le_trans (itmR_len y n) h
theorem okR_prn {y : List UInt8} (h : y.length ≤ 1048576) : PrinT.ok (prnR y) := ⟨okR_map (t := .str) (itm_le 0 h) fun _ hz => okR_str hz, okR_str (itm_le 1 h)⟩
theorem okR_key {y : List UInt8} (h : y.length ≤ 1048576) : KeyT.ok (keyR y) := ⟨trivial, trivial, okR_con (itm_le 2 h)⟩
theorem okR_set {y : List UInt8} (h : y.length ≤ 1048576) : SetT.ok (setR y) := ⟨trivial, okR_map (t := KeyT) (itm_le 1 h) fun _ hz => okR_key hz, okR_str (itm_le 2 h), trivial, trivial⟩
theorem okR_nms {y : List UInt8} (h : y.length ≤ 1048576) : (Ty.slice PrinT).ok (nmsR y) := okR_map (t := PrinT) h fun _ hz => okR_prn hz
theorem okR_ent {y : List UInt8} (h : y.length ≤ 1048576) : EntT.ok (entR y) :=
 ⟨okR_prn (itm_le 0 h), okR_nms (itm_le 1 h), trivial, trivial, okR_map (t := SetT) (itm_le 4 h) fun _ hz => okR_set hz, okR_str (itm_le 5 h), trivial, trivial, trivial, trivial, trivial, trivial, trivial, okR_nms (itm_le 13 h), okR_nms (itm_le 14 h), okR_map (t := .slice .u8) (itm_le 15 h) fun _ hz => okR_con hz⟩
def stN (l : List (List UInt8)) (i : Nat) : List (KSet) := (l.take i).map setR
theorem stN_succ {l : List (List UInt8)} {i : Nat} (h : i < l.length) : stN l (i + 1) = stN l i ++ [setR (l.getD i (Ty.slice .u8).dflt)] := by unfold stN; rw [take_succ_getD (d := (Ty.slice .u8).dflt) h]; simp
theorem stN_len {l : List (List UInt8)} {i : Nat} (h : i ≤ l.length) : (stN l i).length = i := by simp [stN]; omega
theorem stN_all (l : List (List UInt8)) : stN l l.length = l.map setR := by unfold stN; rw [List.take_length]
def hsN (l : List (List UInt8)) (i : Nat) : List (List UInt8) := (l.take i).map conR
theorem hsN_succ {l : List (List UInt8)} {i : Nat} (h : i < l.length) : hsN l (i + 1) = hsN l i ++ [conR (l.getD i (Ty.slice .u8).dflt)] := by unfold hsN; rw [take_succ_getD (d := (Ty.slice .u8).dflt) h]; simp
theorem hsN_len {l : List (List UInt8)} {i : Nat} (h : i ≤ l.length) : (hsN l i).length = i := by simp [hsN]; omega
theorem hsN_all (l : List (List UInt8)) : hsN l l.length = l.map conR := by unfold hsN; rw [List.take_length]
theorem rdecEnt_c (b : List UInt8) (hb : b.length ≤ 1048576) : PC Tryz.prog 41 [.isl .u8 b] (.tup [.agg (EntT.cells ((decEnt b).getD EntT.dflt)), rI (if (decEnt b).isSome then 0 else 6)]) := by
 have hd : decEnt b = if vEnt (entR b) = true ∧ entS (entR b) = b then some (entR b) else none := (decEnt_eq b (by omega)).symm
 generalize decEnt b = R at *
 have hok := okR_ent hb
 have hat := entR_attr b
 have hE : entR b = (prnR (itmR b 0), nmsR (itmR b 1), (gBitsR (itmR b 2) : Int), (gIntR (itmR b 3) : Int), (elsR (conR (itmR b 4)).length (conR (itmR b 4))).map setR, strOf (conR (itmR b 5)), (gIntR (itmR b 6) : Int), (gIntR (itmR b 7) : Int), (gIntR (itmR b 8) : Int), (gIntR (itmR b 9) : Int), (gIntR (itmR b 10) : Int), (gIntR (itmR b 11) : Int), (gIntR (itmR b 12) : Int), nmsR (itmR b 13), nmsR (itmR b 14), (elsR (conR (itmR b 15)).length (conR (itmR b 15))).map conR) := rfl
 have hx2 := gBitsR_lt (itmR b 2)
 have q0 := itmR_len b 0
 have q1 := itmR_len b 1
 have q2 := itmR_len b 2
 have q3 := itmR_len b 3
 have q4 := itmR_len b 4
 have q5 := itmR_len b 5
 have q6 := itmR_len b 6
 have q7 := itmR_len b 7
 have q8 := itmR_len b 8
 have q9 := itmR_len b 9
 have q10 := itmR_len b 10
 have q11 := itmR_len b 11
 have q12 := itmR_len b 12
 have q13 := itmR_len b 13
 have q14 := itmR_len b 14
 have q15 := itmR_len b 15
 have c0 := rgetPrin_c (itmR b 0) (by omega)
 have c1 := rgetPrins_c (itmR b 1) (by omega)
 have c2 := getBits_c (itmR b 2) (by omega)
 have c3 := getInt_c (itmR b 3) (by omega)
 have c5 := contents_c (itmR b 5) (by omega)
 have c6 := getInt_c (itmR b 6) (by omega)
 have c7 := getInt_c (itmR b 7) (by omega)
 have c8 := getInt_c (itmR b 8) (by omega)
 have c9 := getInt_c (itmR b 9) (by omega)
 have c10 := getInt_c (itmR b 10) (by omega)
 have c11 := getInt_c (itmR b 11) (by omega)
 have c12 := getInt_c (itmR b 12) (by omega)
 have c13 := rgetPrins_c (itmR b 13) (by omega)
 have c14 := rgetPrins_c (itmR b 14) (by omega)
 have d4 := contents_c (itmR b 4) (by omega)
 have dl4 := conR_len (itmR b 4)
 have e4 := elements_c (conR (itmR b 4)) (by omega)
 have hm4 := elsR_mem (conR (itmR b 4)).length (conR (itmR b 4))
 have hle4 := elsR_len (conR (itmR b 4)).length (conR (itmR b 4))
 have d15 := contents_c (itmR b 15) (by omega)
 have dl15 := conR_len (itmR b 15)
 have e15 := elements_c (conR (itmR b 15)) (by omega)
 have hm15 := elsR_mem (conR (itmR b 15)).length (conR (itmR b 15))
 have hle15 := elsR_len (conR (itmR b 15)).length (conR (itmR b 15))
 generalize entR b = X at *
 generalize prnR (itmR b 0) = x0 at *
 generalize nmsR (itmR b 1) = x1 at *
 generalize gBitsR (itmR b 2) = x2 at *
 generalize gIntR (itmR b 3) = x3 at *
 generalize conR (itmR b 5) = y5 at *
 generalize gIntR (itmR b 6) = x6 at *
 generalize gIntR (itmR b 7) = x7 at *
 generalize gIntR (itmR b 8) = x8 at *
 generalize gIntR (itmR b 9) = x9 at *
 generalize gIntR (itmR b 10) = x10 at *
 generalize gIntR (itmR b 11) = x11 at *
 generalize gIntR (itmR b 12) = x12 at *
 generalize nmsR (itmR b 13) = x13 at *
 generalize nmsR (itmR b 14) = x14 at *
 generalize elsR (conR (itmR b 4)).length (conR (itmR b 4)) = l4 at *
 generalize elsR (conR (itmR b 15)).length (conR (itmR b 15)) = l15 at *
 have hu : IntKind.u32.wrap ((x2 : Nat) : Int) = ((x2 : Nat) : Int) := u32_nat hx2
 refine pc_seal rfl (by cases R <;> rfl) ?_
 refine runE mixed fi41 ?_
 refine callF_pure (item_c b 0 (by omega) (by omega)) ?_
 refine goE mixed ?_
 refine callF_pure c0 ?_
 refine goE mixed ?_
 refine callF_pure (item_c b 1 (by omega) (by omega)) ?_
 refine goE mixed ?_
 refine callF_pure c1 ?_
 refine goE mixed ?_
 refine callF_pure (item_c b 2 (by omega) (by omega)) ?_
 refine goE mixed ?_
 refine callF_pure c2 ?_
 refine run_sound mixed 600 _ ?_
 with_reducible refine sx1 hu ?_
 refine callF_pure (item_c b 3 (by omega) (by omega)) ?_
 refine goE mixed ?_
 refine callF_pure c3 ?_
 refine goE mixed ?_
 refine callF_pure (item_c b 5 (by omega) (by omega)) ?_
 refine goE mixed ?_
 refine callF_pure c5 ?_
 refine goE mixed ?_
 refine callF_pure (item_c b 6 (by omega) (by omega)) ?_
 refine goE mixed ?_
 refine callF_pure c6 ?_
 refine goE mixed ?_
 refine callF_pure (item_c b 7 (by omega) (by omega)) ?_
 refine goE mixed ?_
 refine callF_pure c7 ?_
 refine goE mixed ?_
 refine callF_pure (item_c b 8 (by omega) (by omega)) ?_
 refine goE mixed ?_
 refine callF_pure c8 ?_
 refine goE mixed ?_
 refine callF_pure (item_c b 9 (by omega) (by omega)) ?_
 refine goE mixed ?_
 refine callF_pure c9 ?_
 refine goE mixed ?_
 refine callF_pure (item_c b 10 (by omega) (by omega)) ?_
 refine goE mixed ?_
 refine callF_pure c10 ?_
 refine goE mixed ?_
 refine callF_pure (item_c b 11 (by omega) (by omega)) ?_
 refine goE mixed ?_
 refine callF_pure c11 ?_
 refine goE mixed ?_
 refine callF_pure (item_c b 12 (by omega) (by omega)) ?_
 refine goE mixed ?_
 refine callF_pure c12 ?_
 refine goE mixed ?_
 refine callF_pure (item_c b 13 (by omega) (by omega)) ?_
 refine goE mixed ?_
 refine callF_pure c13 ?_
 refine goE mixed ?_
 refine callF_pure (item_c b 14 (by omega) (by omega)) ?_
 refine goE mixed ?_
 refine callF_pure c14 ?_
 refine goE mixed ?_
 refine callI_pure (item_c b 4 (by omega) (by omega)) ?_
 refine goE mixed ?_
 refine callI_pure d4 ?_
 refine goE mixed ?_
 refine callI_pure e4 ?_
 refine goE mixed ?_
 refine si_nilcell 1 5 (SetT) rfl rfl rfl ?_
 with_reducible refine sxE ?_
 refine si_loopX (ι := Nat × List SObj) (fun s => [(6, rI s.1)]) (fun s => [.cells 31 [.raw (.slice none 0 0), rS ⟨#[]⟩, .raw (.slice none 0 0), .raw (.int .u32 0), rI 0, .raw (.slice none 0 0), rS ⟨#[]⟩, rI 0, rI 0, rI 0, rI 0, rI 0, rI 0, rI 0, .raw (.slice none 0 0), .raw (.slice none 0 0), .raw (.slice none 0 0)], .cells 31 [.isl .str x0.1, rS x0.2, .isl PrinT x1, .raw (.int .u32 (x2 : Nat)), rI (x3 : Nat), .bld (s.2.length + 2) (SetT) (stN l4 s.1).length, rS (strOf y5), rI (x6 : Nat), rI (x7 : Nat), rI (x8 : Nat), rI (x9 : Nat), rI (x10 : Nat), rI (x11 : Nat), rI (x12 : Nat), .isl PrinT x13, .isl PrinT x14, .raw (.slice none 0 0)]] ++ s.2 ++ [.row (SetT) (stN l4 s.1)]) (fun s => l4.length - s.1) (fun s => s.1 ≤ l4.length) (0, []) (Nat.zero_le _) rfl ?_ ?_
 · with_reducible refine sxE ?_; trivial
 rintro ⟨i, G⟩ hi
 dsimp only at hi
 have hwr : IntKind.i64.wrap ((i : Int) + 1) = ((i + 1 : Nat) : Int) := wrap_succ (by omega)
 have hln := stN_len hi
 refine run_sound mixed 12 _ ?_
 with_reducible refine sxaE ?_
 refine ⟨fun hlt => ?_, fun hge => ?_⟩
 · have hmm := hm4 _ (getD_mem (d := (Ty.slice .u8).dflt) hlt)
   have hst := stN_succ hlt
   have hos := (okR_set (y := l4.getD i (Ty.slice .u8).dflt) (by omega)).2.2.1
   refine si_drw [1] mixed ?_
   refine goaE mixed ?_
   refine ⟨⟨by omega, hlt⟩, callR_pure (rgetSet_c _ (by omega)) ?_⟩
   refine goaE mixed ?_
   refine ⟨hos, ⟨by omega, by omega⟩, (i + 1, G ++ [.dead, .row (SetT) [setR (l4.getD i (Ty.slice .u8).dflt)]]), by dsimp only; omega, by dsimp only; omega, ?_, ?_⟩
   · simp [hst]
   · simp (maxSteps := 3000000) only [hwr, List.append_assoc, getA, getA0, setA, setA0, List.length_append, Nat.add_assoc, go_sem, ↓zA, ↓reduceIte, ↓reduceDIte, reduceCtorEq, Nat.reduceAdd, Nat.reduceSub, Nat.reduceLeDiff, Nat.reduceLT, Nat.reduceEqDiff, Nat.reduceBEq, Nat.reduceMul, Int.reduceToNat, Int.reduceEq, Int.reduceLT, Int.reduceLE] <;> try simp only [zB]
 obtain rfl : i = l4.length := by omega
 refine si_compact (ty := SetT) (xs := stN l4 l4.length) [.cells 31 [.raw (.slice none 0 0), rS ⟨#[]⟩, .raw (.slice none 0 0), .raw (.int .u32 0), rI 0, .raw (.slice none 0 0), rS ⟨#[]⟩, rI 0, rI 0, rI 0, rI 0, rI 0, rI 0, rI 0, .raw (.slice none 0 0), .raw (.slice none 0 0), .raw (.slice none 0 0)], .cells 31 [.isl .str x0.1, rS x0.2, .isl PrinT x1, .raw (.int .u32 (x2 : Nat)), rI (x3 : Nat), .bld (G.length + 2) (SetT) (stN l4 l4.length).length, rS (strOf y5), rI (x6 : Nat), rI (x7 : Nat), rI (x8 : Nat), rI (x9 : Nat), rI (x10 : Nat), rI (x11 : Nat), rI (x12 : Nat), .isl PrinT x13, .isl PrinT x14, .raw (.slice none 0 0)]] [.cells 31 [.raw (.slice none 0 0), rS ⟨#[]⟩, .raw (.slice none 0 0), .raw (.int .u32 0), rI 0, .raw (.slice none 0 0), rS ⟨#[]⟩, rI 0, rI 0, rI 0, rI 0, rI 0, rI 0, rI 0, .raw (.slice none 0 0), .raw (.slice none 0 0), .raw (.slice none 0 0)], .cells 31 [.isl .str x0.1, rS x0.2, .isl PrinT x1, .raw (.int .u32 (x2 : Nat)), rI (x3 : Nat), .bld 2 (SetT) (stN l4 l4.length).length, rS (strOf y5), rI (x6 : Nat), rI (x7 : Nat), rI (x8 : Nat), rI (x9 : Nat), rI (x10 : Nat), rI (x11 : Nat), rI (x12 : Nat), .isl PrinT x13, .isl PrinT x14, .raw (.slice none 0 0)]] G rfl (by simp) (by simp) ?_ (by rfl) ?_ ?_ ?_
 · simp [SObj.ren, SV.ren, SV.renL, shift, Nat.add_comm]
 · rfl
 · with_reducible refine sxE ?_; trivial
 with_reducible refine sxE ?_
 refine si_freeze 2 rfl rfl (by omega) ?_ ?_ ?_
 · with_reducible refine sxE ?_
   exact Nat.le_refl _
 · with_reducible refine sxE ?_; trivial
 with_reducible refine sxE ?_
 rw [List.take_of_length_le (Nat.le_refl _), stN_all]
 clear hi hwr hln hge
 generalize l4.map setR = v4 at *
 refine goE mixed ?_
 refine callI_pure (item_c b 15 (by omega) (by omega)) ?_
 refine goE mixed ?_
 refine callI_pure d15 ?_
 refine goE mixed ?_
 refine callI_pure e15 ?_
 refine goE mixed ?_
 refine si_nilcell 1 16 (Ty.slice .u8) rfl rfl rfl ?_
 with_reducible refine sxE ?_
 refine si_loopX (ι := Nat × List SObj) (fun s => [(8, rI s.1)]) (fun s => [.cells 31 [.raw (.slice none 0 0), rS ⟨#[]⟩, .raw (.slice none 0 0), .raw (.int .u32 0), rI 0, .raw (.slice none 0 0), rS ⟨#[]⟩, rI 0, rI 0, rI 0, rI 0, rI 0, rI 0, rI 0, .raw (.slice none 0 0), .raw (.slice none 0 0), .raw (.slice none 0 0)], .cells 31 [.isl .str x0.1, rS x0.2, .isl PrinT x1, .raw (.int .u32 (x2 : Nat)), rI (x3 : Nat), .isl SetT v4, rS (strOf y5), rI (x6 : Nat), rI (x7 : Nat), rI (x8 : Nat), rI (x9 : Nat), rI (x10 : Nat), rI (x11 : Nat), rI (x12 : Nat), .isl PrinT x13, .isl PrinT x14, .bld (s.2.length + 3) (Ty.slice .u8) (hsN l15 s.1).length], .dead] ++ s.2 ++ [.row (Ty.slice .u8) (hsN l15 s.1)]) (fun s => l15.length - s.1) (fun s => s.1 ≤ l15.length) (0, []) (Nat.zero_le _) rfl ?_ ?_
 · with_reducible refine sxE ?_; trivial
 rintro ⟨i, G⟩ hi
 dsimp only at hi
 have hwr : IntKind.i64.wrap ((i : Int) + 1) = ((i + 1 : Nat) : Int) := wrap_succ (by omega)
 have hln := hsN_len hi
 refine run_sound mixed 12 _ ?_
 with_reducible refine sxaE ?_
 refine ⟨fun hlt => ?_, fun hge => ?_⟩
 · have hmm := hm15 _ (getD_mem (d := (Ty.slice .u8).dflt) hlt)
   have hst := hsN_succ hlt
   refine si_drw [1] mixed ?_
   refine goaE mixed ?_
   refine ⟨⟨by omega, hlt⟩, callR_pure (getBytes_c _ (by omega)) ?_⟩
   refine goaE mixed ?_
   refine ⟨⟨by omega, by omega⟩, (i + 1, G ++ [.dead, .row (Ty.slice .u8) [conR (l15.getD i (Ty.slice .u8).dflt)]]), by dsimp only; omega, by dsimp only; omega, ?_, ?_⟩
   · simp [hst]
   · simp (maxSteps := 3000000) only [hwr, List.append_assoc, getA, getA0, setA, setA0, List.length_append, Nat.add_assoc, go_sem, ↓zA, ↓reduceIte, ↓reduceDIte, reduceCtorEq, Nat.reduceAdd, Nat.reduceSub, Nat.reduceLeDiff, Nat.reduceLT, Nat.reduceEqDiff, Nat.reduceBEq, Nat.reduceMul, Int.reduceToNat, Int.reduceEq, Int.reduceLT, Int.reduceLE] <;> try simp only [zB]
 obtain rfl : i = l15.length := by omega
 refine si_compact (ty := Ty.slice .u8) (xs := hsN l15 l15.length) [.cells 31 [.raw (.slice none 0 0), rS ⟨#[]⟩, .raw (.slice none 0 0), .raw (.int .u32 0), rI 0, .raw (.slice none 0 0), rS ⟨#[]⟩, rI 0, rI 0, rI 0, rI 0, rI 0, rI 0, rI 0, .raw (.slice none 0 0), .raw (.slice none 0 0), .raw (.slice none 0 0)], .cells 31 [.isl .str x0.1, rS x0.2, .isl PrinT x1, .raw (.int .u32 (x2 : Nat)), rI (x3 : Nat), .isl SetT v4, rS (strOf y5), rI (x6 : Nat), rI (x7 : Nat), rI (x8 : Nat), rI (x9 : Nat), rI (x10 : Nat), rI (x11 : Nat), rI (x12 : Nat), .isl PrinT x13, .isl PrinT x14, .bld (G.length + 3) (Ty.slice .u8) (hsN l15 l15.length).length], .dead] [.cells 31 [.raw (.slice none 0 0), rS ⟨#[]⟩, .raw (.slice none 0 0), .raw (.int .u32 0), rI 0, .raw (.slice none 0 0), rS ⟨#[]⟩, rI 0, rI 0, rI 0, rI 0, rI 0, rI 0, rI 0, .raw (.slice none 0 0), .raw (.slice none 0 0), .raw (.slice none 0 0)], .cells 31 [.isl .str x0.1, rS x0.2, .isl PrinT x1, .raw (.int .u32 (x2 : Nat)), rI (x3 : Nat), .isl SetT v4, rS (strOf y5), rI (x6 : Nat), rI (x7 : Nat), rI (x8 : Nat), rI (x9 : Nat), rI (x10 : Nat), rI (x11 : Nat), rI (x12 : Nat), .isl PrinT x13, .isl PrinT x14, .bld 3 (Ty.slice .u8) (hsN l15 l15.length).length], .dead] G rfl (by simp) (by simp) ?_ (by rfl) ?_ ?_ ?_
 · simp [SObj.ren, SV.ren, SV.renL, shift, Nat.add_comm]
 · rfl
 · with_reducible refine sxE ?_; trivial
 with_reducible refine sxE ?_
 refine si_freeze 3 rfl rfl (by omega) ?_ ?_ ?_
 · with_reducible refine sxE ?_
   exact Nat.le_refl _
 · with_reducible refine sxE ?_; trivial
 with_reducible refine sxE ?_
 rw [List.take_of_length_le (Nat.le_refl _), hsN_all]
 clear hi hwr hln hge
 generalize l15.map conR = v15 at *
 refine goE mixed ?_
 subst hE
 refine callR_pure (rvalid_c _ hok hat) ?_
 cases hv : vEnt (x0, x1, ((x2 : Nat) : Int), ((x3 : Nat) : Int), v4, strOf y5, ((x6 : Nat) : Int), ((x7 : Nat) : Int), ((x8 : Nat) : Int), ((x9 : Nat) : Int), ((x10 : Nat) : Int), ((x11 : Nat) : Int), ((x12 : Nat) : Int), x13, x14, v15) with
 | false =>
  have hR : R = none := by rw [hd, if_neg (by rw [hv]; simp)]
  subst hR
  refine goE mixed ?_
  exact ⟨⟨rfl, rfl, rfl, rfl, rfl, rfl, rfl, rfl, rfl, rfl, rfl, rfl, rfl, rfl, rfl, rfl, rfl⟩, rfl⟩
 | true =>
  refine goE mixed ?_
  refine callR_pure (rencEnt_c (x0, x1, ((x2 : Nat) : Int), ((x3 : Nat) : Int), v4, strOf y5, ((x6 : Nat) : Int), ((x7 : Nat) : Int), ((x8 : Nat) : Int), ((x9 : Nat) : Int), ((x10 : Nat) : Int), ((x11 : Nat) : Int), ((x12 : Nat) : Int), x13, x14, v15) hv hat) ?_
  refine goE mixed ?_
  refine ⟨fun q => ?_, fun q => ?_⟩
  · have hne : ¬ entS (x0, x1, ((x2 : Nat) : Int), ((x3 : Nat) : Int), v4, strOf y5, ((x6 : Nat) : Int), ((x7 : Nat) : Int), ((x8 : Nat) : Int), ((x9 : Nat) : Int), ((x10 : Nat) : Int), ((x11 : Nat) : Int), ((x12 : Nat) : Int), x13, x14, v15) = b := fun e => q (by rw [e])
    have hR : R = none := by rw [hd, if_neg (fun h => hne h.2)]
    subst hR
    exact ⟨⟨rfl, rfl, rfl, rfl, rfl, rfl, rfl, rfl, rfl, rfl, rfl, rfl, rfl, rfl, rfl, rfl, rfl⟩, rfl⟩
  · have he : entS (x0, x1, ((x2 : Nat) : Int), ((x3 : Nat) : Int), v4, strOf y5, ((x6 : Nat) : Int), ((x7 : Nat) : Int), ((x8 : Nat) : Int), ((x9 : Nat) : Int), ((x10 : Nat) : Int), ((x11 : Nat) : Int), ((x12 : Nat) : Int), x13, x14, v15) = b := by simpa [strOf] using q
    have hR : R = some (x0, x1, ((x2 : Nat) : Int), ((x3 : Nat) : Int), v4, strOf y5, ((x6 : Nat) : Int), ((x7 : Nat) : Int), ((x8 : Nat) : Int), ((x9 : Nat) : Int), ((x10 : Nat) : Int), ((x11 : Nat) : Int), ((x12 : Nat) : Int), x13, x14, v15) := by rw [hd, if_pos ⟨hv, he⟩]
    subst hR
    exact ⟨⟨rfl, rfl, rfl, rfl, rfl, rfl, rfl, rfl, rfl, rfl, rfl, rfl, rfl, rfl, rfl, rfl, rfl⟩, rfl⟩
end Go.Proofs.YtddmkgibghohkaaGreatDoor
/- Contracts: reading names: the pieces. -/
namespace Go.Proofs.YtddmkgibghohkaaGreatDoor
open Go Go.Sx Go.Proofs
set_option maxRecDepth 100000
set_option maxHeartbeats 4000000
set_option linter.unusedSimpArgs false

def FR (i : Nat) (b : List UInt8) (n : Nat) : Except Nat (List UInt8 × Nat) → Prop
 | .ok (l, k) => PE Tryz.prog 258 [.ptr 0 0, rI i, .fn 199 [] []] [rdr b n] (.ret (.ptr 2 0)) [rdr b (n + k), .dead, rdr l 0]
 | .error e => PE Tryz.prog 258 [.ptr 0 0, rI i, .fn 199 [] []] [rdr b n] (.pan (errV e)) [.dead]
theorem frdr_c (i : Nat) (hi : i ≤ 30) (b : List UInt8) (n : Nat) (hn : n ≤ b.length) (hb : b.length ≤ 1099511627776) : FR i b n (needP i (rdP 48 decOct) (b.drop n)) := by
 cases h : nextB i (b.drop n) with
 | false =>
  rw [needP_no h, List.length_drop]
  have hs := rtag_no i hi b n hn h
  have hl := left_c b n hn
  generalize b.length - n = q at *
  refine pe_seal (by simp) ?_
  refine runE mixed fi258 ?_
  refine effE mixed [0] (hs) ?_
  refine effE mixed [0] (hl) ?_
  by_cases hq : q = 0
  · simp [hq]
  · simp [hq]
 | true =>
  rw [needP_in h]
  by_cases h1 : takeE (tagB i) (b.drop n) = 0
  · rw [inP_t h1]
    have hs := rtag_ok i hi b n hn hb h h1
    have hc := tkC_le (n := n) hb
    generalize takeC (b.drop n) = c at *
    generalize takeN (b.drop n) = N at *
    by_cases h2 : takeE 48 c = 0
    · have hx : rdP 48 decOct c = .ok (takeC c, takeN c) := by unfold rdP; rw [if_pos h2]; rfl
      rw [hx]
      have hr := rseq_ok c 0 (Nat.zero_le _) hc (by rw [List.drop_zero]; exact h2)
      rw [List.drop_zero, Nat.zero_add] at hr
      have hm := takeN_le h2
      generalize takeC c = l at *
      generalize takeN c = m at *
      have hl := left_c c m hm
      simp only [closeP]
      by_cases hml : m < c.length
      · rw [if_pos hml]
        refine pe_seal (by simp) ?_
        refine runE mixed fi258 ?_
        refine effE mixed [0] (hs) ?_
        refine effE mixed [1] (hr) ?_
        refine effE mixed [2] (must_nrdr l 0) ?_
        refine effE mixed [1] (hl) ?_
        exact ⟨fun _ => rfl, fun q => absurd (by omega) q⟩
      · rw [if_neg hml]
        refine pe_seal (by simp) ?_
        refine runE mixed fi258 ?_
        refine effE mixed [0] (hs) ?_
        refine effE mixed [1] (hr) ?_
        refine effE mixed [2] (must_nrdr l 0) ?_
        refine effE mixed [1] (hl) ?_
        exact ⟨fun q => absurd q (by omega), fun _ => trivial⟩
    · have hx : rdP 48 decOct c = .error (takeE 48 c) := by unfold rdP; rw [if_neg h2]
      rw [hx]
      have hr := rseq_er c 0 (Nat.zero_le _) hc (by rw [List.drop_zero]; exact h2)
      rw [List.drop_zero] at hr
      generalize takeE 48 c = e at *
      refine pe_seal (by simp) ?_
      refine runE mixed fi258 ?_
      refine effE mixed [0] (hs) ?_
      refine effE mixed [1] (hr) ?_
      refine effP [] (must_er_nrdr e h2) ?_; trivial
  · rw [inP_f h1]
    have hs := rtag_er i hi b n hn hb h h1
    generalize takeE (tagB i) (b.drop n) = e at *
    refine pe_seal (by simp) ?_
    refine runE mixed fi258 ?_
    refine effE mixed [0] (hs) ?_
    exact ⟨fun _ => trivial, fun q => absurd (by omega) h1⟩
theorem rcopy_c (b : List UInt8) (n : Nat) : PE Tryz.prog 255 [.ptr 0 0] [rdr b n] (.ret (.ptr 1 0)) [rdr b n, rdr b n] := by
 refine pe_seal (by simp) ?_
 refine runE mixed fi255 ?_; trivial
theorem dpanN_c (b : List UInt8) (n m e : Nat) (T2 T3 T4 T5 : TypeId) (x y : SV) (z : Value) (R : List SObj) (K : List SObj → Prop)
 (h : K ([rdr b n, .cells T2 [.ptr 0 0], .cells T3 [.raw (.slice none 0 0), rS ⟨#[]⟩], .cells T4 [rI e], rdr b n, .cells T5 [.ptr 4 0]] ++ R)) :
 DCall Tryz.prog 256 [.ptr 5 0, .ptr 1 0, .ptr 2 0, .ptr 3 0] (some (errV e)) ([rdr b m, .cells T2 [.ptr 0 0], .cells T3 [x, y], .cells T4 [.raw z], rdr b n, .cells T5 [.ptr 4 0]] ++ R) K := by
 refine dc_ri fi256 ?_
 refine run_sound mixed 13 _ ?_
 with_reducible refine sxaE ?_
 refine si_drw [1, 4, 5] mixed ?_
 refine goaE mixed ?_
 exact h
end Go.Proofs.YtddmkgibghohkaaGreatDoor
/- Contracts: reading names. -/
namespace Go.Proofs.YtddmkgibghohkaaGreatDoor
open Go Go.Sx Go.Proofs
set_option maxRecDepth 100000
set_option maxHeartbeats 4000000
set_option linter.unusedSimpArgs false

abbrev zPrin : SV := .agg [.isl .str [], rS ⟨#[]⟩]
def rO {α : Type} (res : α → SV) (z : SV) : Except Nat (α × Nat) → Out
 | .ok (v, _) => .ret (.tup [res v, rI 0])
 | .error e => .ret (.tup [z, rI e])
def rH {α : Type} (b : List UInt8) (n : Nat) : Except Nat (α × Nat) → List SObj
 | .ok (_, k) => [rdr b (n + k)]
 | .error _ => [rdr b n]
attribute [go_sem] rO rH
theorem effR_of {P : Program} {α : Type} {f : FuncId} {args : List SV} {b : List UInt8} {n : Nat} {res : α → SV} {z : SV} {x : Except Nat (α × Nat)} (h : VC P f args [rdr b n] (SealO (rO res z x) (rH b n x))) : EffR P f args b n res z x := by
 cases x with
 | error e => exact pe_seal (by simp [rH]) h
 | ok y => exact pe_seal (by simp [rH]) h
theorem read_er (b : List UInt8) (n : Nat) (hn : n ≤ b.length) (hb : b.length ≤ 1099511627776) (h : takeE 48 (b.drop n) ≠ 0) :
 EffR Tryz.prog 219 [.ptr 0 0] b n (fun p : Prin => .agg (PrinT.cells p)) zPrin (nameP (b.drop n)) := by
 have hs := rseq_er b n hn hb h
 have he : nameP (b.drop n) = .error (takeE 48 (b.drop n)) := by unfold nameP; rw [inP_f h]; rfl
 rw [he]
 clear he
 generalize takeE 48 (b.drop n) = e at *
 refine pe_seal (by simp) ?_
 refine defE mixed fi219 ?_
 refine effE mixed [0] (rcopy_c b n) ?_
 refine goE mixed ?_
 refine effE mixed [0] (hs) ?_
 refine effP [] (must_er_nrdr e h) ?_
 refine ⟨by simp, dpanN_c b n n e _ _ _ _ _ _ _ [] _ ?_⟩
 with_reducible refine sxE ?_; trivial
end Go.Proofs.YtddmkgibghohkaaGreatDoor
/- Contracts: reading names that begin with a sequence. -/
namespace Go.Proofs.YtddmkgibghohkaaGreatDoor
open Go Go.Sx Go.Proofs
set_option maxRecDepth 100000
set_option maxHeartbeats 4000000
set_option linter.unusedSimpArgs false

theorem strsP_er {β : Type} {l r : List UInt8} {f : List ByteArray → PR β} {e : Nat} (h : listP strP l.length l = .error e) : bindP (strsP l) f r = .error e := by unfold bindP strsP atP; rw [h]
theorem strsP_ok {β : Type} {l r : List UInt8} {f : List ByteArray → PR β} {xs : List ByteArray} {m : Nat} (h : listP strP l.length l = .ok (xs, m)) : bindP (strsP l) f r = shiftP 0 (f xs r) := by
 unfold bindP strsP atP
 rw [h]
 simp only [List.drop_zero]
 cases f xs r with
 | error e => rfl
 | ok y => rfl
theorem shift_sh {α : Type} {j k : Nat} {x : Except Nat (α × Nat)} : shiftP j (shiftP k x) = shiftP (j + k) x := by
 cases x with
 | error e => rfl
 | ok y => obtain ⟨u, m⟩ := y; simp only [shiftP, Nat.add_assoc]
theorem dretN_c (H : List SObj) (K : List SObj → Prop) (h : ∀ G, K (H ++ G)) : DCall Tryz.prog 256 [.ptr 5 0, .ptr 1 0, .ptr 2 0, .ptr 3 0] none H K := by
 refine recE mixed fi256 ?_
 simpa using h []
theorem read_ok (b : List UInt8) (n : Nat) (hn : n ≤ b.length) (hb : b.length ≤ 1099511627776) (h : takeE 48 (b.drop n) = 0) :
 EffR Tryz.prog 219 [.ptr 0 0] b n (fun p : Prin => .agg (PrinT.cells p)) zPrin (nameP (b.drop n)) := by
 have hs := rseq_ok b n hn hb h
 have hc := tkC_le (n := n) hb
 have he : nameP (b.drop n) = chkP vPrin (closeP (takeC (b.drop n)).length (takeN (b.drop n)) (nameIn (takeC (b.drop n)))) := by unfold nameP; rw [inP_t h]
 generalize nameP (b.drop n) = Y at *
 generalize takeC (b.drop n) = c at *
 generalize takeN (b.drop n) = N at *
 refine effR_of ?_
 unfold nameIn at he
 have f0 := frdr_c 0 (by omega) c 0 (Nat.zero_le _) hc
 rw [List.drop_zero] at f0
 refine defE mixed fi219 ?_
 refine effE mixed [0] (rcopy_c b n) ?_
 refine goE mixed ?_
 refine effE mixed [0] (hs) ?_
 refine effE mixed [6] (must_nrdr c 0) ?_
 cases h1 : needP 0 (rdP 48 decOct) c with
 | error e =>
  rw [bindP_er h1] at he
  subst he
  rw [h1] at f0
  have f0' : PE Tryz.prog 258 [.ptr 0 0, rI (0 : Nat), .fn 199 [] []] [rdr c 0] (.pan (errV e)) [.dead] := f0
  simp only [closeP, chkP]
  refine effP [6] (f0') ?_
  refine ⟨by simp, dpanN_c b n _ e _ _ _ _ _ _ _ [_] _ ?_⟩
  with_reducible refine sxE ?_; trivial
 | ok x =>
  obtain ⟨l, k⟩ := x
  rw [bindP_s0 h1] at he
  have hk := needP_fits _ _ _ h1
  rw [h1] at f0
  have f0' : PE Tryz.prog 258 [.ptr 0 0, rI (0 : Nat), .fn 199 [] []] [rdr c 0] (.ret (.ptr 2 0)) [rdr c (0 + k), .dead, rdr l 0] := f0
  rw [Nat.zero_add] at f0'
  refine effE mixed [6] (f0') ?_
  have hlb : l.length ≤ 1099511627776 := (okP_need (okP_rd (Q := fun v : List UInt8 => v.length ≤ 1099511627776) fun c v hc hd => by unfold decOct at hd; cases hd; exact hc)) c l k hc h1
  generalize hX : listP strP l.length l = X
  refine si_nilcell 2 0 .str rfl rfl rfl ?_
  with_reducible refine sxE ?_
  refine si_loopX (ι := Nat × List ByteArray × List SObj) (fun s => []) (fun s => [rdr b (n + N), .cells 114 [.ptr 0 0], .cells 24 [.bld (s.2.2.length + 9) .str s.2.1.length, rS ⟨#[]⟩], .cells 38 [rI 0], rdr b n, .cells 114 [.ptr 4 0], rdr c k, .dead, rdr l s.1] ++ s.2.2 ++ [.row .str s.2.1]) (fun s => l.length - s.1) (fun s => s.2.1.length ≤ s.1 ∧ s.1 ≤ l.length ∧ (∀ x ∈ s.2.1, x.size ≤ 1099511627776) ∧ X = tailP s.2.1 s.1 (listP strP (l.length - s.2.1.length) (l.drop s.1))) (0, [], []) ⟨Nat.le_refl _, Nat.zero_le _, by simp, ?_⟩ rfl ?_ ?_
  · rw [List.drop_zero, List.length_nil, Nat.sub_zero, tailP_id]; exact hX.symm
  · with_reducible refine sxE ?_; trivial
  rintro ⟨m, xs, G⟩ ⟨i1, i2, i4, i3⟩
  dsimp only at i1 i2 i3 i4
  have hleft := left_c l m i2
  refine goaE mixed ?_
  refine callI_eff [8] hleft rfl (by decide) ⟨rfl, rfl, trivial⟩ rfl rfl ?_
  simp only [afterO, Out.ren, SV.ren, mgA, sig, SObj.ren, SV.renL, List.cons_append, List.nil_append, List.append_assoc, List.set_cons_zero, List.set_cons_succ, List.set, List.map, List.append_nil]
  refine run_sound mixed 5 _ ?_
  with_reducible refine sxaE ?_
  refine ⟨fun hp0 => ?_, fun hp0 => ?_⟩
  · have hml : m < l.length := by omega
    refine si_drwP [2] mixed ?_
    refine goaE mixed ?_
    cases hp : strP (l.drop m) with
    | error e =>
     have hr := rstr_er l m i2 hlb hp
     have hXe := i3.trans (listP_bad hml (by omega) hp)
     rw [strsP_er (hX.trans hXe)] at he
     subst he
     simp only [shiftP, closeP, chkP]
     refine callR_eff [8] hr rfl (by decide) ⟨rfl, rfl, trivial⟩ rfl rfl ?_ ?_
     · simp (maxSteps := 3000000) only [mgA, sig, sameG_cons, sameG_nil, List.append_assoc, getA, getA0, setA, setA0, List.length_append, Nat.add_assoc, go_sem, ↓zA, ↓reduceIte, ↓reduceDIte, reduceCtorEq, Nat.reduceAdd, Nat.reduceSub, Nat.reduceLeDiff, Nat.reduceLT, Nat.reduceEqDiff, Nat.reduceBEq, Nat.reduceMul, Int.reduceToNat, Int.reduceEq, Int.reduceLT, Int.reduceLE] <;> try simp only [zB]
     · simp only [afterR, Out.ren, SV.ren, mgA, sig, SObj.ren, SV.renL, List.cons_append, List.nil_append, List.append_assoc, List.set_cons_zero, List.set_cons_succ, List.set, List.map, List.append_nil]
       refine goaE mixed ?_
       refine callR_eff [] (must_er_nstr (.string ⟨#[]⟩) e (rdP_ne hp)) rfl (by decide) trivial rfl rfl ?_ ?_
       · simp (maxSteps := 3000000) only [mgA, sig, sameG_cons, sameG_nil, List.append_assoc, getA, getA0, setA, setA0, List.length_append, Nat.add_assoc, go_sem, ↓zA, ↓reduceIte, ↓reduceDIte, reduceCtorEq, Nat.reduceAdd, Nat.reduceSub, Nat.reduceLeDiff, Nat.reduceLT, Nat.reduceEqDiff, Nat.reduceBEq, Nat.reduceMul, Int.reduceToNat, Int.reduceEq, Int.reduceLT, Int.reduceLE] <;> try simp only [zB]
       · simp only [afterR, Out.ren, SV.ren, mgA, sig, SObj.ren, SV.renL, List.cons_append, List.nil_append, List.append_assoc, List.set_cons_zero, List.set_cons_succ, List.set, List.map, List.append_nil]
         refine cutQ_p ?_
         with_reducible refine sxaE ?_
         refine ⟨by simp, ?_⟩
         have hpan := fun K hK => dpanN_c b n (n + N) e 114 24 38 114 (.bld (G.length + 9) .str xs.length) (rS ⟨#[]⟩) (.int .i64 0) ([rdr c k, .dead, rdr l m] ++ G ++ [.row .str xs]) K hK
         simp only [List.cons_append, List.nil_append, List.append_assoc] at hpan
         refine hpan _ ?_
         with_reducible refine sxaE ?_; trivial
    | ok y =>
     obtain ⟨v, q⟩ := y
     have hr := rstr_ok l m i2 hlb hp
     have hfit := rdP_le hp
     have hq2 := takeN_pos (rdP_ok hp).1
     have hq : 2 ≤ q := by rw [(rdP_ok hp).2.2]; exact hq2
     have hvs := okP_str (l.drop m) v q (by rw [List.length_drop]; omega) hp
     rw [List.length_drop] at hfit
     have hXs := i3.trans (listP_step hml (by omega) hp)
     refine callR_eff [8] hr rfl (by decide) ⟨rfl, rfl, trivial⟩ rfl rfl ?_ ?_
     · simp (maxSteps := 3000000) only [mgA, sig, sameG_cons, sameG_nil, List.append_assoc, getA, getA0, setA, setA0, List.length_append, Nat.add_assoc, go_sem, ↓zA, ↓reduceIte, ↓reduceDIte, reduceCtorEq, Nat.reduceAdd, Nat.reduceSub, Nat.reduceLeDiff, Nat.reduceLT, Nat.reduceEqDiff, Nat.reduceBEq, Nat.reduceMul, Int.reduceToNat, Int.reduceEq, Int.reduceLT, Int.reduceLE] <;> try simp only [zB]
     · simp only [afterR, Out.ren, SV.ren, mgA, sig, SObj.ren, SV.renL, List.cons_append, List.nil_append, List.append_assoc, List.set_cons_zero, List.set_cons_succ, List.set, List.map, List.append_nil]
       refine goaE mixed ?_
       refine callR_pure (must_nstr _) ?_
       refine goaE mixed ?_
       refine ⟨by show v.size ≤ _; omega, ⟨by omega, by omega⟩, cutQ_n ?_⟩
       refine goaE mixed ?_
       refine ⟨(m + q, xs ++ [v], G ++ [.dead, .row .str [v]]), ⟨by simp; omega, by dsimp only; omega, fun x hx => ?_, ?_⟩, by dsimp only; omega, ?_, ?_⟩
       · rcases List.mem_append.1 hx with hx | hx
         · exact i4 x hx
         · rw [List.mem_singleton] at hx; subst hx; exact hvs
       · dsimp only
         rw [hXs, List.length_append, List.length_singleton, Nat.sub_sub]
       · simp
       · with_reducible refine sxaE ?_; trivial
  · have hXe := i3.trans (listP_end (by omega))
    rw [strsP_ok (hX.trans hXe), shift_sh, Nat.add_zero] at he
    clear hX hXe i3
    refine si_compact (ty := .str) (xs := xs) [rdr b (n + N), .cells 114 [.ptr 0 0], .cells 24 [.bld (G.length + 9) .str xs.length, rS ⟨#[]⟩], .cells 38 [rI 0], rdr b n, .cells 114 [.ptr 4 0], rdr c k, .dead, rdr l m] [rdr b (n + N), .cells 114 [.ptr 0 0], .cells 24 [.bld 9 .str xs.length, rS ⟨#[]⟩], .cells 38 [rI 0], rdr b n, .cells 114 [.ptr 4 0], rdr c k, .dead, rdr l m] G rfl (by simp) (by simp) ?_ (by rfl) ?_ ?_ ?_
    · simp [SObj.ren, SV.ren, SV.renL, shift, Nat.add_comm]
    · rfl
    · with_reducible refine sxE ?_; trivial
    with_reducible refine sxE ?_
    have hxs : xs.length ≤ 1099511627776 := by omega
    refine si_freeze 9 rfl rfl (by omega) ?_ ?_ ?_
    · with_reducible refine sxE ?_
      exact Nat.le_refl _
    · with_reducible refine sxE ?_; trivial
    with_reducible refine sxE ?_
    rw [List.take_of_length_le (Nat.le_refl _)]
    have hf1 := fstr_c 1 (by omega) c k hk hc
    cases h2 : needP 1 strP (c.drop k) with
    | error e =>
     rw [bindP_er h2] at he
     subst he
     have hf1' := effX_er hf1 h2
     simp only [shiftP, closeP, chkP]
     refine goE mixed ?_
     refine effP [6] (hf1') ?_
     refine ⟨by simp, ?_⟩
     have hpan := fun K hK => dpanN_c b n (n + N) e 114 24 38 114 (.isl .str xs) (rS ⟨#[]⟩) (.int .i64 0) [.dead, .dead, rdr l m, .dead] K hK
     simp only [List.cons_append, List.nil_append, List.append_assoc] at hpan
     refine hpan _ ?_
     with_reducible refine sxE ?_; trivial
    | ok y =>
     obtain ⟨t, q⟩ := y
     rw [bindP_st h2] at he
     have hf1' := effX_ok hf1 h2
     have hkq := fits_at needP_fits hk h2
     have hts := okP_need okP_str (c.drop k) t q (by rw [List.length_drop]; omega) h2
     have hlq := left_c c (k + q) hkq
     simp only [shiftP, retP, closeP] at he
     refine goE mixed ?_
     refine effE mixed [6] (hf1') ?_
     refine effE mixed [6] (hlq) ?_
     refine ⟨fun hle => callI_pure (nvalid_c (xs, t) ⟨⟨by show xs.length ≤ _; omega, fun x hx => by have := i4 x hx; show x.size ≤ _; omega⟩, by show t.size ≤ _; omega⟩) ?_, fun hgt => ⟨by simp, ?_⟩⟩
     · rw [if_neg (by omega)] at he
       simp only [chkP] at he
       cases hv : vPrin (xs, t) with
       | true =>
        rw [if_pos hv] at he
        subst he
        refine goE mixed ?_
        refine dretN_c _ _ fun G => ?_
        with_reducible refine sxE ?_; trivial
       | false =>
        rw [if_neg (by rw [hv]; decide)] at he
        subst he
        refine goE mixed ?_
        refine ⟨by simp, ?_⟩
        have hpan := fun K hK => dpanN_c b n (n + N) 6 114 24 38 114 (.isl .str xs) (rS t) (.int .i64 0) [rdr c (k + q), .dead, rdr l m, .dead] K hK
        simp only [List.cons_append, List.nil_append, List.append_assoc] at hpan
        refine hpan _ ?_
        with_reducible refine sxE ?_; trivial
     · rw [if_pos (by omega)] at he
       simp only [chkP] at he
       subst he
       have hpan := fun K hK => dpanN_c b n (n + N) 6 114 24 38 114 (.isl .str xs) (rS t) (.int .i64 0) [rdr c (k + q), .dead, rdr l m, .dead] K hK
       simp only [List.cons_append, List.nil_append, List.append_assoc] at hpan
       refine hpan _ ?_
       with_reducible refine sxE ?_; trivial
end Go.Proofs.YtddmkgibghohkaaGreatDoor
