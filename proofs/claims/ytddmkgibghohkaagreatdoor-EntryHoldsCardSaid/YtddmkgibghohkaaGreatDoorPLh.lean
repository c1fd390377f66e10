/- Contracts: the law of the stage's theorem. -/
import Derived.Test.YtddmkgibghohkaaGreatDoorP28
set_option linter.unusedSimpArgs false
set_option linter.unusedVariables false
namespace Go.Proofs.YtddmkgibghohkaaGreatDoor
open Go Go.Sx Go.Proofs
set_option maxRecDepth 100000
set_option maxHeartbeats 4000000
set_option linter.unusedSimpArgs false

theorem entS_len {e : Ent} (hv : vEnt e = true) (ha : attrOk e) : (entS e).length ≤ 16777225 := by
 obtain ⟨hS, _, hs, _⟩ := entP_at e hv ha
 rw [hS, tlv_length]
 have := lenS_len (sufS (entL e) 0 16).length
 omega
theorem vOffer_f {l : List Salt} (h : vOffer l = true) : l.length ≤ 4 ∧ ∀ s ∈ l, vSalt s = true := by
 simp only [vOffer, Bool.and_eq_true, decide_eq_true_eq, List.all_eq_true] at h
 have h1 : (l.length : Int) ≤ 4 := h.1.1
 exact ⟨by omega, h.1.2⟩
theorem ofr_ok {l : List Salt} (h : vOffer l = true) : (Ty.slice SaltT).ok l := by
 obtain ⟨h1, h2⟩ := vOffer_f h
 refine ⟨by show l.length ≤ _; omega, fun x hx => ?_⟩
 have h3 := (salt_small (h2 x hx)).2.1
 exact ⟨trivial, by show x.2.1.size ≤ _; omega, trivial⟩
theorem offerS_len {l : List Salt} (h : vOffer l = true) : (offerS l).length ≤ 16777225 := by
 obtain ⟨hd, hf⟩ := offerS_tlv h
 rw [hd, tlv_length]
 have := lenS_len (l.map saltS).flatten.length
 omega
theorem holds_law (e : Ent) (s : KSet) (ho : EntT.ok e) (hs : SetT.ok s) (ha : 0 ≤ e.2.2.1 ∧ e.2.2.1 ≤ 4294967295) : PC Tryz.prog 9 [.agg (EntT.cells e), .agg (SetT.cells s)] (rB true) := by
 have csame : ∀ x : Ent, EntT.ok x → PC Tryz.prog 17 [.agg (EntT.cells x), .agg (EntT.cells x)] (rB true) := fun x hx => by have h := rsame_c x x hx; rwa [(sameE_eq x x).2 rfl] at h
 refine pc_of rfl rfl ?_
 refine runE mixed fi9 ?_
 refine callI_pure (small_c e ho) ?_
 refine goE mixed ?_
 refine ⟨fun _ => callI_pure (smallSet_c s hs) ?_, fun _ => callI_pure known_c ?_⟩
 rotate_left
 · refine goE mixed ?_; trivial
 refine goE mixed ?_
 refine ⟨fun _ => callI_pure known_c ?_, fun _ => ?_⟩
 · refine goE mixed ?_; trivial
 refine callI_pure (encode_c e ho ha) ?_
 cases hv : vEnt e with
 | false =>
  refine goE mixed ?_
  refine callI_pure (lnum_c _) ?_
  refine goE mixed ?_
  refine callI_pure known_c ?_
  refine goE mixed ?_; trivial
 | true =>
  refine goE mixed ?_
  refine callI_pure (lnum_c _) ?_
  refine goE mixed ?_
  have hdec : PC Tryz.prog 40 [.isl .u8 (entS e)] (.tup [.agg (EntT.cells e), rI 0]) := by
   have := decodeEnt_c (entS e) (Nat.le_trans (entS_len hv ha) (by omega))
   rw [decEnt_of hv ha rfl] at this
   exact this
  obtain ⟨of0, ofv⟩ := ofS_valid hv
  have hof := offer_c e ho
  rw [of0] at hof
  generalize (ofS e).1 = L at *
  have hol := ofr_ok ofv
  have hen := encodeOffer_c L hol
  have hdo : PC Tryz.prog 35 [.isl .u8 (offerS L)] (.tup [.isl SaltT L, rI 0]) := by
   have := decodeOffer_c (offerS L) (Nat.le_trans (offerS_len ofv) (by omega))
   rw [(decOffer_iff (offerS L) L).2 ⟨ofv, rfl⟩] at this
   exact this
  rw [ofv] at hen
  have hsof := rsameOffer_c L L hol.1
  rw [decide_eq_true rfl] at hsof
  have hw00 : IntKind.i64.wrap 0 = 0 := by decide
  have hwz : IntKind.i64.wrap (0 + 0) = 0 := by decide
  refine callI_pure hdec ?_
  refine goE mixed ?_
  refine callI_pure hof ?_
  refine goE mixed ?_
  refine callI_pure hen ?_
  refine goE mixed ?_
  refine callI_pure hdo ?_
  refine goE mixed ?_
  refine callI_pure (lnum_c _) ?_
  refine goE mixed ?_
  refine callI_pure (lnum_c _) ?_
  refine run_sound mixed 600 _ ?_
  with_reducible refine sx1 hwz ?_
  refine callI_pure (lnum_c _) ?_
  refine run_sound mixed 600 _ ?_
  with_reducible refine sx1 hwz ?_
  refine callI_pure (lnum_c _) ?_
  refine run_sound mixed 600 _ ?_
  with_reducible refine sx1 hwz ?_
  refine callI_pure (csame e ho) ?_
  refine goE mixed ?_
  refine callI_pure hsof ?_
  refine goE mixed ?_
  refine callI_pure (eadd_c e s ho hs) ?_
  refine goE mixed ?_
  refine callI_pure (lnum_c _) ?_
  refine goE mixed ?_
  have ao := addS_ok ho hs
  have had := fun h0 => added (e := e) (s := s) h0
  generalize (addS e s).1 = A at *
  generalize (addS e s).2 = n0 at *
  have hss : PC Tryz.prog 26 [.agg (SetT.cells s), .agg (SetT.cells s)] (rB true) := by have h := rsset_c s s hs; rwa [decide_eq_true rfl] at h
  refine ⟨fun _ => callI_pure known_c ?_, fun h0 => ?_⟩
  · refine goE mixed ?_; trivial
  obtain ⟨av, ac, aw, af⟩ := had h0
  have hcur := current_c A ao
  rw [ac] at hcur
  have hwo := ewithout_c A s.1 ao
  rw [aw] at hwo
  refine callI_pure hcur ?_
  refine goE mixed ?_
  refine callI_pure hwo ?_
  refine goE mixed ?_
  refine callI_pure (lnum_c _) ?_
  refine goE mixed ?_
  refine callI_pure (lnum_c _) ?_
  refine run_sound mixed 600 _ ?_
  with_reducible refine sx1 hwz ?_
  refine callI_pure hss ?_
  refine goE mixed ?_
  refine callI_pure (csame e ho) ?_
  refine goE mixed ?_
  have hkl : List.length e.2.2.2.2.1 ≤ 16 := (ent_fields hv).2.2.2.2.1.1
  refine si_cntD (fun i => [(21, .raw (.int .i64 ((i : Nat) : Int)))]) (List.length e.2.2.2.2.1) (fun j => (fun _ => true) j = true) (by first | decide | simp) (fun i => rfl) ?_ fun i hi hall => ?_
  · (with_reducible refine sxE ?_ <;> try exact True.intro)
    all_goals (try rfl)
  have hwr : IntKind.i64.wrap ((i : Int) + 1) = ((i + 1 : Nat) : Int) := wrap_succ (by omega)
  refine goE mixed ?_
  have bad : i < (List.length e.2.2.2.2.1) → (fun _ => true) i = false → allN (List.length e.2.2.2.2.1) (fun _ => true) = false := fun hlt hv => allN_false hlt hv
  have fin : ¬ i < (List.length e.2.2.2.2.1) → allN (List.length e.2.2.2.2.1) (fun _ => true) = true := fun h => allN_true fun j hj => hall j (by omega)
  try dsimp only at bad fin hall
  refine ⟨fun hlt => ?_, fun hge => ?_⟩
  · obtain ⟨af1, af2⟩ := af i hlt
    have hfe := efind_c e (List.getD e.2.2.2.2.1 i SetT.dflt).1 0 ho
    have hfa := efind_c A (List.getD e.2.2.2.2.1 i SetT.dflt).1 0 ao
    rw [← af1] at hfa
    rw [af2] at hfe hfa
    generalize (findS e (List.getD e.2.2.2.2.1 i SetT.dflt).1 0).1 = K at *
    refine ⟨⟨by omega, hlt⟩, callF_pure hfe ?_⟩
    refine goE mixed ?_
    refine ⟨⟨by omega, hlt⟩, callF_pure hfa ?_⟩
    refine goE mixed ?_
    refine callI_pure (lnum_c _) ?_
    refine goE mixed ?_
    refine callI_pure (lnum_c _) ?_
    refine run_sound mixed 600 _ ?_
    with_reducible refine sx1 hwz ?_
    refine ⟨hlt, trivial, ⟨[_, _], rfl⟩, ?_⟩
    with_reducible refine sx1 hwr ?_; trivial
  · refine callI_pure (valid_k A ao) ?_
    rw [av]
    refine goE mixed ?_
    refine callI_pure known_c ?_
    refine goE mixed ?_; trivial
end Go.Proofs.YtddmkgibghohkaaGreatDoor
