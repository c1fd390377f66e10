/- Contracts: the laws of encoded entries. -/
import Derived.Test.YtddmkgibghohkaaGreatDoorPKn
import Derived.Test.YtddmkgibghohkaaGreatDoorP26
import Derived.Test.YtddmkgibghohkaaGreatDoorP27
import Derived.Test.YtddmkgibghohkaaGreatDoorPLa
import Derived.Test.YtddmkgibghohkaaGreatDoorP20
set_option linter.unusedSimpArgs false
set_option linter.unusedVariables false
namespace Go.Proofs.YtddmkgibghohkaaGreatDoor
open Go Go.Sx Go.Proofs
set_option maxRecDepth 100000
set_option maxHeartbeats 4000000
set_option linter.unusedSimpArgs false

end Go.Proofs.YtddmkgibghohkaaGreatDoor
/- The plain law of the stage: a key set added and taken away. -/
namespace Go.Proofs.YtddmkgibghohkaaGreatDoor
open Go Go.Sx Go.Proofs
set_option maxRecDepth 100000
set_option maxHeartbeats 4000000
set_option linter.unusedSimpArgs false

theorem firstN_hd {n : Nat} {q : Nat → Bool} (h : q 0 = true) (hn : 0 < n) : firstN n q = some 0 := firstN_some hn h (fun j hj => absurd hj (Nat.not_lt_zero j))
theorem firstN_tl {n : Nat} {q q' : Nat → Bool} (h0 : q 0 = false) (h : ∀ j, j < n → q (j + 1) = q' j) : firstN (n + 1) q = (firstN n q').map (· + 1) := by
 cases hf : firstN n q' with
 | none =>
  refine firstN_none fun j hj => ?_
  cases j with
  | zero => exact h0
  | succ j =>
   rw [h j (by omega)]
   unfold firstN at hf
   rw [List.find?_range_eq_none] at hf
   simpa using hf j (by omega)
 | some k =>
  obtain ⟨k1, k2, k3⟩ := firstN_spec hf
  refine firstN_some (i := k + 1) (by omega) (by rw [h k k1]; exact k2) fun j hj => ?_
  cases j with
  | zero => exact h0
  | succ j =>
   rw [h j (by omega)]
   exact k3 j (by omega)
theorem addS_zero {e : Ent} {s : KSet} (h : (addS e s).2 = 0) : vEnt e = true ∧ busyB e s = false ∧ lateB e s = false ∧ vSet s e.2.2.2.1 = true ∧ (keysOf e).length < 16 ∧ (addS e s).1 = withKeys e (s :: keysOf e) := by
 unfold addS at h ⊢
 split at h
 · cases h
 · rename_i hv
   split at h
   · cases h
   · rename_i hb
     split at h
     · cases h
     · rename_i hl
       split at h
       · cases h
       · rename_i hn
         rw [if_neg hv, if_neg hb, if_neg hl, if_neg hn]
         refine ⟨by simpa using hv, by simpa using hb, ?_, ?_, by omega, rfl⟩
         · cases hq : lateB e s with
           | false => rfl
           | true => exact absurd (.inl hq) hl
         · cases hq : vSet s e.2.2.2.1 with
           | true => rfl
           | false => exact absurd (.inr hq) hl
theorem setAt_cons {s : KSet} {l : List KSet} {j : Nat} : (s :: l).getD (j + 1) SetT.dflt = l.getD j SetT.dflt := List.getD_cons_succ
theorem ord_cons {s : KSet} {l : List KSet} (h : ord (t := SetT) sOrd l = true) (h0 : l.length = 0 ∨ sOrd s (l.getD 0 SetT.dflt) = true) : ord (t := SetT) sOrd (s :: l) = true := by
 unfold ord at h ⊢
 rw [allN_iff] at h ⊢
 intro j hj
 rw [List.length_cons, Nat.add_sub_cancel] at hj
 rw [setAt_cons]
 cases j with
 | zero =>
  rcases h0 with h0 | h0
  · omega
  · exact h0
 | succ j =>
  rw [setAt_cons]
  exact h j (by omega)
theorem added {e : Ent} {s : KSet} (h : (addS e s).2 = 0) : vEnt (addS e s).1 = true ∧ curS (addS e s).1 = (s, 0) ∧ woS (addS e s).1 s.1 = (e, 0) ∧ ∀ j, j < (keysOf e).length → findS e ((keysOf e).getD j SetT.dflt).1 0 = findS (addS e s).1 ((keysOf e).getD j SetT.dflt).1 0 ∧ (findS e ((keysOf e).getD j SetT.dflt).1 0).2 = 0 := by
 obtain ⟨hv, hb, hl, hs, hn, hA⟩ := addS_zero h
 rw [hA]
 clear h hA
 have hkeys := vEnt_keys hv
 have hsets := (ent_fields hv).2.2.2.2.1.2
 obtain ⟨e0, e1, e2, e3, l, e5⟩ := e
 have hn' : l.length < 16 := hn
 have hord : ord (t := SetT) sOrd l = true := hkeys.2
 have hsets' : ∀ x ∈ l, vSet x e3 = true := hsets
 have hs' : vSet s e3 = true := hs
 have hfirst : l.length = 0 ∨ sOrd s (l.getD 0 SetT.dflt) = true := by
  by_cases h0 : l.length = 0
  · exact .inl h0
  · right
    have hb' : (decide (0 < (l.length : Int)) && decide (s.1 ≤ (l.getD 0 SetT.dflt).1)) = false := hb
    have hl' : (decide (0 < (l.length : Int)) && decide (s.2.2.2.2 < (l.getD 0 SetT.dflt).2.2.2.2)) = false := hl
    have hp : decide (0 < (l.length : Int)) = true := decide_eq_true (by omega)
    rw [hp, Bool.true_and] at hb' hl'
    have hb'' : ¬ (s.1 : Int) ≤ (l.getD 0 SetT.dflt).1 := of_decide_eq_false hb'
    have hl'' : ¬ (s.2.2.2.2 : Int) < (l.getD 0 SetT.dflt).2.2.2.2 := of_decide_eq_false hl'
    simp only [sOrd, Bool.and_eq_true, decide_eq_true_eq]
    exact ⟨Int.not_le.1 hb'', Int.not_lt.1 hl''⟩
 have hordA := ord_cons hord hfirst
 have hvA : vEnt (e0, e1, e2, e3, s :: l, e5) = true := by
  have hk : vKeys (e0, e1, e2, e3, s :: l, e5) = true := by
   show ((decide (((s :: l).length : Int) ≤ 16) && (s :: l).all (vSet · e3)) && ord (t := SetT) sOrd (s :: l)) = true
   rw [hordA, Bool.and_true, Bool.and_eq_true]
   refine ⟨decide_eq_true (by rw [List.length_cons]; omega), List.all_eq_true.2 fun x hx => ?_⟩
   rcases List.mem_cons.1 hx with rfl | hx
   · exact hs'
   · exact hsets' x hx
  have hk0 : vKeys (e0, e1, e2, e3, l, e5) = true := by
   show ((decide ((l.length : Int) ≤ 16) && l.all (vSet · e3)) && ord (t := SetT) sOrd l) = true
   rw [hord, Bool.and_true, Bool.and_eq_true]
   exact ⟨decide_eq_true (by omega), List.all_eq_true.2 hsets'⟩
  unfold vEnt at hv ⊢
  have hnm : vNames (e0, e1, e2, e3, s :: l, e5) = vNames (e0, e1, e2, e3, l, e5) := rfl
  rw [hk, hnm]
  rw [hk0] at hv
  exact hv
 have hver : 1 ≤ s.1 := by
  simp only [vSet, Bool.and_eq_true, decide_eq_true_eq] at hs'
  exact hs'.1.1
 refine ⟨hvA, ?_, ?_, fun j hj => ?_⟩
 · show curS (e0, e1, e2, e3, s :: l, e5) = _
   unfold curS
   rw [if_neg (by rw [hvA]; decide), if_neg (by show ¬ (s :: l).length = 0; simp)]
   rfl
 · show woS (e0, e1, e2, e3, s :: l, e5) s.1 = _
   have hf : firstN (keysOf (e0, e1, e2, e3, s :: l, e5)).length (verAt (keysOf (e0, e1, e2, e3, s :: l, e5)) s.1) = some 0 := firstN_hd (by unfold verAt; exact decide_eq_true rfl) (by simp [keysOf])
   unfold woS
   rw [if_neg (by rw [hvA]; decide), hf]
   rfl
 · have hj' : j < l.length := hj
   have hlt : (l.getD j SetT.dflt).1 < s.1 := by
    have h1 : (s :: l).getD (j + 1) SetT.dflt = l.getD j SetT.dflt := setAt_cons
    have := ver_lt hordA j 0 (by rw [List.length_cons]; omega)
    rw [Nat.zero_add, h1] at this
    exact this
   have hvs := hsets' _ (getD_mem (d := SetT.dflt) hj')
   have hv1 : 1 ≤ (l.getD j SetT.dflt).1 := by
    simp only [vSet, Bool.and_eq_true, decide_eq_true_eq] at hvs
    exact hvs.1.1
   show findS (e0, e1, e2, e3, l, e5) (l.getD j SetT.dflt).1 0 = findS (e0, e1, e2, e3, s :: l, e5) (l.getD j SetT.dflt).1 0 ∧ (findS (e0, e1, e2, e3, l, e5) (l.getD j SetT.dflt).1 0).2 = 0
   obtain ⟨i, hi⟩ : ∃ i, firstN l.length (verAt l (l.getD j SetT.dflt).1) = some i := by
    cases hf : firstN l.length (verAt l (l.getD j SetT.dflt).1) with
    | some i => exact ⟨i, rfl⟩
    | none =>
     unfold firstN at hf
     rw [List.find?_range_eq_none] at hf
     have := hf j hj'
     simp [verAt] at this
   have hi1 := (firstN_spec hi).1
   have hv0 : ¬ (l.getD j SetT.dflt).1 = (0 : Int) := fun q => by
    have hv2 : (1 : Int) ≤ (l.getD j SetT.dflt).1 := hv1
    rw [q] at hv2
    exact absurd hv2 (by decide)
   have hv3 : ¬ (l.getD j SetT.dflt).1 < (0 : Int) := fun q => by
    have hv2 : (1 : Int) ≤ (l.getD j SetT.dflt).1 := hv1
    exact absurd (Int.lt_of_le_of_lt hv2 q) (by decide)
   have hidx : idxS l (l.getD j SetT.dflt).1 = some i := by unfold idxS; rw [if_neg hv0]; exact hi
   have hidxA : idxS (s :: l) (l.getD j SetT.dflt).1 = some (i + 1) := by
    unfold idxS
    rw [if_neg hv0]
    have := firstN_tl (n := l.length) (q := verAt (s :: l) (l.getD j SetT.dflt).1) (q' := verAt l (l.getD j SetT.dflt).1) (by unfold verAt; exact decide_eq_false (fun q => by have q' : s.1 = (l.getD j SetT.dflt).1 := q; rw [← q'] at hlt; exact absurd hlt (Int.lt_irrefl _))) (fun k hk => by unfold verAt; rw [setAt_cons])
    rw [hi] at this
    exact this
   have hvi := hsets' _ (getD_mem (d := SetT.dflt) hi1)
   have hkl : 1 ≤ ((l.getD i SetT.dflt).2.1.length : Int) := by
    simp only [vSet, Bool.and_eq_true, decide_eq_true_eq] at hvi
    exact hvi.2.1
   have hfk : findK (l.getD i SetT.dflt).2.1 0 = ((l.getD i SetT.dflt).2.1.getD 0 KeyT.dflt, 0) := by
    unfold findK
    rw [firstN_hd (by unfold proAt; rw [decide_eq_true rfl]; rfl) (by omega)]
   have g1 : findS (e0, e1, e2, e3, l, e5) (l.getD j SetT.dflt).1 0 = findK (l.getD i SetT.dflt).2.1 0 := by
    unfold findS
    rw [if_neg (by rw [hv]; rintro (q | q | q); cases q; exact hv3 q; exact absurd q (by decide))]
    show (match idxS l (l.getD j SetT.dflt).1 with | none => (KeyT.dflt, 9) | some i => findK (setAt l i).2.1 0) = _
    rw [hidx]; rfl
   have g2 : findS (e0, e1, e2, e3, s :: l, e5) (l.getD j SetT.dflt).1 0 = findK (l.getD i SetT.dflt).2.1 0 := by
    unfold findS
    rw [if_neg (by rw [hvA]; rintro (q | q | q); cases q; exact hv3 q; exact absurd q (by decide))]
    show (match idxS (s :: l) (l.getD j SetT.dflt).1 with | none => (KeyT.dflt, 9) | some i => findK (setAt (s :: l) i).2.1 0) = _
    rw [hidxA]
    show findK ((s :: l).getD (i + 1) SetT.dflt).2.1 0 = _
    rw [setAt_cons]
   rw [g1, g2, hfk]
   exact ⟨rfl, rfl⟩
theorem ofS_valid {e : Ent} (hv : vEnt e = true) : (ofS e).2 = 0 ∧ vOffer (ofS e).1 = true := by
 have hsets := (ent_fields hv).2.2.2.2.1.2
 unfold ofS
 rw [if_neg (by rw [hv]; decide)]
 by_cases h0 : (keysOf e).length = 0
 · rw [if_pos h0]
   exact ⟨rfl, by decide⟩
 · rw [if_neg h0]
   refine ⟨rfl, ?_⟩
   have hm := hsets _ (getD_mem (d := SetT.dflt) (show 0 < (keysOf e).length by omega))
   show vOffer (offN ((keysOf e).getD 0 SetT.dflt) ((keysOf e).getD 0 SetT.dflt).2.1.length) = true
   have hm' : vSet ((keysOf e).getD 0 SetT.dflt) e.2.2.2.1 = true := hm
   generalize (keysOf e).getD 0 SetT.dflt = s at *
   simp only [vSet, Bool.and_eq_true, decide_eq_true_eq, List.all_eq_true] at hm'
   obtain ⟨_, _, ⟨h4, h5⟩, h6, h7, ⟨h8, h9⟩, _⟩ := hm'
   have he : offN s s.2.1.length = s.2.1.map fun k => (k.1, s.2.2.1, s.2.2.2.1) := by unfold offN; rw [List.take_length]
   rw [he]
   have hl : (s.2.1.map fun k => ((k.1, s.2.2.1, s.2.2.2.1) : Salt)).length = s.2.1.length := List.length_map _
   have hget : ∀ j, j < s.2.1.length → (s.2.1.map fun k => ((k.1, s.2.2.1, s.2.2.2.1) : Salt)).getD j SaltT.dflt = ((s.2.1.getD j KeyT.dflt).1, s.2.2.1, s.2.2.2.1) := fun j hj => by
    rw [getD_at (by rw [hl]; exact hj), getD_at hj, List.getElem_map]
   unfold vOffer
   rw [Bool.and_eq_true, Bool.and_eq_true]
   refine ⟨⟨decide_eq_true (by rw [hl]; omega), List.all_eq_true.2 fun x hx => ?_⟩, ?_⟩
   · obtain ⟨k, hk, rfl⟩ := List.mem_map.1 hx
     have hk' := h5 k hk
     simp only [vKeyS, Bool.and_eq_true, decide_eq_true_eq] at hk'
     simp only [vSalt, Bool.and_eq_true, decide_eq_true_eq]
     exact ⟨hk'.2.1, h7, h8, h9⟩
   · unfold ord at h6 ⊢
     rw [allN_iff] at h6 ⊢
     rw [hl]
     intro j hj
     have := h6 j hj
     rw [hget j (by omega), hget (j + 1) (by omega)]
     simp only [kOrd, oOrd, decide_eq_true_eq] at this ⊢
     exact this
end Go.Proofs.YtddmkgibghohkaaGreatDoor
