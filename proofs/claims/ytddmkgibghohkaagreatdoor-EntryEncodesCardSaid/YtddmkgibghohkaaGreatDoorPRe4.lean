/- Contracts: the reference's encoding of a whole entry. -/
import Derived.Test.YtddmkgibghohkaaGreatDoorP27
set_option linter.unusedSimpArgs false
set_option linter.unusedVariables false
namespace Go.Proofs.YtddmkgibghohkaaGreatDoor
open Go Go.Sx Go.Proofs
set_option maxRecDepth 100000
set_option maxHeartbeats 4000000
set_option linter.unusedSimpArgs false

theorem setS_sm {s : KSet} {m : Int} (h : vSet s m = true) : (setS s).length ≤ 1600 := by
 obtain ⟨v, ks, t, i, w⟩ := s
 change Int at v i w
 change List Key at ks
 change ByteArray at t
 obtain ⟨⟨h1, h2⟩, ⟨h3, h4⟩, h5, h6, h7, ⟨h8, h9⟩, h10, h11⟩ := vSet_f h
 clear h
 have i0 := intS_len v
 have hb : (listS (t := KeyT) keyS ks).length ≤ 314 * ks.length + 5 := listS_le (t := KeyT) (w := keyS) (l := ks) 314 fun x hx => keyS_sm (h5 x hx)
 have i2 := txtO_le t
 have i3 := numO_le i
 have i4 : (timeS w).length ≤ 11 := by
  unfold timeS
  split
  · have := elemS_len 24 [numS w 6]
    simpa [numS_length] using this
  · simp
 have q0 := wrapS_len 160 0 (intS v)
 have q1 := wrapS_len 160 1 (listS (t := KeyT) keyS ks)
 have q2 := wrapS_len 160 2 (txtO t)
 have q3 := wrapS_len 160 3 (numO i)
 have q4 := wrapS_len 160 4 (timeS w)
 have g := elemS_len 48 [wrapS 160 0 (intS v), wrapS 160 1 (listS (t := KeyT) keyS ks), wrapS 160 2 (txtO t), wrapS 160 3 (numO i), wrapS 160 4 (timeS w)]
 simp only [List.flatten_cons, List.flatten_nil, List.append_nil, List.length_append] at g
 show (elemS 48 [wrapS 160 0 (intS v), wrapS 160 1 (listS (t := KeyT) keyS ks), wrapS 160 2 (txtO t), wrapS 160 3 (numO i), wrapS 160 4 (timeS w)]).length ≤ _
 generalize (listS (t := KeyT) keyS ks).length = a1 at *
 omega
theorem rencEnt_c (e : Ent) (hv : vEnt e = true) (ha : attrOk e) : PC Tryz.prog 39 [.agg (EntT.cells e)] (.isl .u8 (entS e)) := by
 obtain ⟨f0, ⟨f1, f1'⟩, f2, f3, ⟨f4, f4'⟩, f5, f6, f7, f8, f9, f10, f11, f12, ⟨f13, f13'⟩, ⟨f14, f14'⟩, ⟨f15, f15'⟩⟩ := ent_fields hv
 have h2 := attrB_le ha f2
 clear hv f2
 obtain ⟨⟨e0, r0⟩, e1, e2, e3, e4, e5, e6, e7, e8, e9, e10, e11, e12, e13, e14, e15⟩ := e
 dsimp only at *
 change List ByteArray at e0
 change List Prin at e1 e13 e14
 change List KSet at e4
 change List (List UInt8) at e15
 change Int at e2 e3 e6 e7 e8 e9 e10 e11 e12
 change ByteArray at r0 e5
 have hse : entS ((e0, r0), e1, e2, e3, e4, e5, e6, e7, e8, e9, e10, e11, e12, e13, e14, e15) = elemS 48 [wrapS 160 0 (prinE (e0, r0)), wrapS 160 1 (listS (t := PrinT) prinE e1), wrapS 160 2 (bitsS e2), wrapS 160 3 (numO e3), wrapS 160 4 (listS (t := SetT) setS e4), wrapS 160 5 (txtO e5), wrapS 160 6 (timO e6), wrapS 160 7 (timO e7), wrapS 160 8 (numO e8), wrapS 160 9 (numO e9), wrapS 160 10 (numO e10), wrapS 160 11 (timO e11), wrapS 160 12 (timO e12), wrapS 160 13 (listS (t := PrinT) prinE e13), wrapS 160 14 (listS (t := PrinT) prinE e14), wrapS 160 15 (listS (t := Ty.slice .u8) octS e15)] := rfl
 rw [hse]
 clear hse
 have a0 : (0 : Int) ≤ e2 := ha.1
 have a1 : e2 ≤ (1023 : Int) := h2
 have z3i : (0 : Int) ≤ e3 ∧ e3 ≤ 4611686018427387904 := ⟨f3.1, Int.le_trans f3.2 (by decide)⟩
 have z8 : (0 : Int) ≤ e8 ∧ e8 ≤ 4611686018427387904 := ⟨f8.1, Int.le_trans f8.2 (by decide)⟩
 have z9 : (0 : Int) ≤ e9 ∧ e9 ≤ 4611686018427387904 := ⟨f9.1, Int.le_trans f9.2 (by decide)⟩
 have z10 : (0 : Int) ≤ e10 ∧ e10 ≤ 4611686018427387904 := ⟨f10.1, Int.le_trans f10.2 (by decide)⟩
 have f6 : (0 : Int) ≤ e6 ∧ e6 ≤ 1099511627776 := f6
 have f7 : (0 : Int) ≤ e7 ∧ e7 ≤ 1099511627776 := f7
 have f11 : (0 : Int) ≤ e11 ∧ e11 ≤ 1099511627776 := f11
 have f12 : (0 : Int) ≤ e12 ∧ e12 ≤ 1099511627776 := f12
 have z5 : e5.size ≤ 32 := f5
 have f1 : e1.length ≤ 16 := f1
 have f4 : e4.length ≤ 16 := f4
 have f13 : e13.length ≤ 16 := f13
 have f14 : e14.length ≤ 16 := f14
 have f15 : e15.length ≤ 16 := f15
 obtain ⟨z1, z2, z3⟩ := vPrin_sz f0
 have z1 : e0.length ≤ 4 := z1
 have z3 : r0.size ≤ 32 := z3
 have hpe : prinE (e0, r0) = prinS (e0, r0) := by unfold prinE; rw [if_pos f0]
 have l0 := (nameP_ok f0).2.1
 have l1 := (nms_q f1 f1').2
 have l2 := (bitsS_le e2).1
 have l3 := numO_le e3
 have l5 := txtO_le e5
 have l6 := timO_le e6
 have l7 := timO_le e7
 have l8 := numO_le e8
 have l9 := numO_le e9
 have l10 := numO_le e10
 have l11 := timO_le e11
 have l12 := timO_le e12
 have l13 := (nms_q f13 f13').2
 have l14 := (nms_q f14 f14').2
 have l15 := (his_q f15 f15').2
 have l4 : (listS (t := SetT) setS e4).length ≤ 1600 * e4.length + 5 := listS_le (t := SetT) (w := setS) (l := e4) 1600 fun x hx => setS_sm (f4' x hx)
 have m4 : (mapN (t := SetT) setS e4 e4.length).flatten.length ≤ 1600 * e4.length := mapN_sm (t := SetT) (w := setS) (l := e4) 1600 (fun x hx => setS_sm (f4' x hx)) (Nat.le_refl _)
 have m15 : (mapN (t := Ty.slice .u8) octS e15 e15.length).flatten.length ≤ 21 * e15.length := mapN_sm (t := Ty.slice .u8) (w := octS) (l := e15) 21 (fun x hx => by
  have := elemS_len 4 [x]
  simp only [List.flatten_cons, List.flatten_nil, List.append_nil] at this
  have := f15' x hx
  unfold octS; omega) (Nat.le_refl _)
 have hls4 := listS_el (t := SetT) (w := setS) (l := e4)
 have hls15 := listS_el (t := Ty.slice .u8) (w := octS) (l := e15)
 have ht5 : txtO e5 = if decide (e5 = ⟨#[]⟩) = true then [] else elemS 27 [e5.data.toList] := by unfold txtO; by_cases h : e5 = ⟨#[]⟩ <;> simp [h]
 have hw2 : IntKind.i64.wrap e2 = e2 := wrapi (by omega)
 refine pc_seal rfl rfl ?_
 refine runE mixed fi39 ?_
 refine si_accN 3 (.slice .u8) (mapN (t := SetT) setS e4) (fun i => [(5, rI i)]) e4.length (fun _ => True) rfl (by simp) (by simp [mapN]) rfl (fun i => rfl) ?_ fun j hj _ => ?_
 · with_reducible refine sxE ?_; trivial
 have hwr : IntKind.i64.wrap ((j : Int) + 1) = ((j + 1 : Nat) : Int) := wrap_succ (by omega)
 have hln := mapN_len (t := SetT) (w := setS) hj
 by_cases hlt : j < e4.length
 · have hst := mapN_succ (t := SetT) (w := setS) hlt
   have hone := rset_c _ _ (f4' _ (getD_mem (d := SetT.dflt) hlt))
   refine goE mixed ?_
   refine ⟨fun _ => ⟨⟨by omega, hlt⟩, callI_pure hone ?_⟩, fun h => absurd hlt h⟩
   refine goE mixed ?_
   refine ⟨⟨by omega, by omega⟩, acc_next [_, _] [] hlt trivial (by rw [hst]; rfl) ?_⟩
   with_reducible refine sx3 hwr hst ?_; trivial
 obtain rfl : j = e4.length := by omega
 refine si_freeze 1 rfl rfl (by omega) ?_ ?_ ?_
 · with_reducible refine sxE ?_; trivial
 · with_reducible refine sxE ?_
   exact Nat.le_refl _
 with_reducible refine sxE ?_
 rw [List.take_of_length_le (Nat.le_refl _)]
 refine goE mixed ?_
 refine ⟨fun h => absurd h hlt, fun _ => ?_⟩
 clear hlt hwr
 refine si_accN 4 (.slice .u8) (mapN (t := Ty.slice .u8) octS e15) (fun i => [(6, rI i)]) e15.length (fun _ => True) rfl (by simp) (by simp [mapN]) rfl (fun i => rfl) ?_ fun j hj _ => ?_
 · with_reducible refine sxE ?_; trivial
 have hwr : IntKind.i64.wrap ((j : Int) + 1) = ((j + 1 : Nat) : Int) := wrap_succ (by omega)
 have hln2 := mapN_len (t := Ty.slice .u8) (w := octS) hj
 by_cases hlt : j < e15.length
 · have hst := mapN_succ (t := Ty.slice .u8) (w := octS) hlt
   have h16 := f15' _ (getD_mem (d := (Ty.slice .u8).dflt) hlt)
   have hone := roct_c (e15.getD j (Ty.slice .u8).dflt) (by omega)
   refine goE mixed ?_
   refine ⟨fun _ => ⟨⟨by omega, hlt⟩, callI_pure hone ?_⟩, fun h => absurd hlt h⟩
   refine goE mixed ?_
   refine ⟨⟨by omega, by omega⟩, acc_next [_, _] [] hlt trivial (by rw [hst]; rfl) ?_⟩
   with_reducible refine sx3 hwr hst ?_; trivial
 · obtain rfl : j = e15.length := by omega
   refine si_freeze 2 rfl rfl (by omega) ?_ ?_ ?_
   · with_reducible refine sxE ?_; trivial
   · with_reducible refine sxE ?_
     exact Nat.le_refl _
   with_reducible refine sxE ?_
   rw [List.take_of_length_le (Nat.le_refl _)]
   refine run_sound mixed 600 _ ?_
   with_reducible refine sx1 hw2 ?_
   refine ⟨fun h => absurd h hlt, fun _ => ?_⟩
   have w0 := wrapS_len 160 0 (prinE (e0, r0))
   have w1 := wrapS_len 160 1 (listS (t := PrinT) prinE e1)
   have w2 := wrapS_len 160 2 (bitsS e2)
   have w3 := wrapS_len 160 3 (numO e3)
   have w4 := wrapS_len 160 4 (listS (t := SetT) setS e4)
   have w5 := wrapS_len 160 5 (txtO e5)
   have w6 := wrapS_len 160 6 (timO e6)
   have w7 := wrapS_len 160 7 (timO e7)
   have w8 := wrapS_len 160 8 (numO e8)
   have w9 := wrapS_len 160 9 (numO e9)
   have w10 := wrapS_len 160 10 (numO e10)
   have w11 := wrapS_len 160 11 (timO e11)
   have w12 := wrapS_len 160 12 (timO e12)
   have w13 := wrapS_len 160 13 (listS (t := PrinT) prinE e13)
   have w14 := wrapS_len 160 14 (listS (t := PrinT) prinE e14)
   have w15 := wrapS_len 160 15 (listS (t := Ty.slice .u8) octS e15)
   refine callR_pure (rprin_c e0 r0 z1 z2 z3) ?_
   rw [← hpe]
   refine goE mixed ?_
   refine callR_pure (rtag_c 0 (by decide) _ (by omega)) ?_
   refine goE mixed ?_
   refine callR_pure (rnms_c e1 f1 f1') ?_
   refine goE mixed ?_
   refine callR_pure (rtag_c 1 (by decide) _ (by omega)) ?_
   refine goE mixed ?_
   refine callR_pure (rbits_c e2 ⟨a0, by omega⟩) ?_
   refine goE mixed ?_
   refine callR_pure (rtag_c 2 (by decide) _ (by omega)) ?_
   refine goE mixed ?_
   refine callR_pure (rnumber_c e3 z3i) ?_
   refine goE mixed ?_
   refine callR_pure (rtag_c 3 (by decide) _ (by omega)) ?_
   refine goE mixed ?_
   refine callR_pure (rseq_c (mapN (t := SetT) setS e4 e4.length) (by omega) (by omega)) ?_
   refine goE mixed ?_
   refine callR_pure (runless_c _ _) ?_
   rw [hln, hls4]
   refine goE mixed ?_
   refine callR_pure (rtag_c 4 (by decide) _ (by omega)) ?_
   refine goE mixed ?_
   refine callR_pure (rstr_c e5 (by omega)) ?_
   refine goE mixed ?_
   refine callR_pure (runless_c _ _) ?_
   rw [← ht5]
   refine goE mixed ?_
   refine callR_pure (rtag_c 5 (by decide) _ (by omega)) ?_
   refine goE mixed ?_
   refine callR_pure (rtimeO_c e6 f6) ?_
   refine goE mixed ?_
   refine callR_pure (rtag_c 6 (by decide) _ (by omega)) ?_
   refine goE mixed ?_
   refine callR_pure (rtimeO_c e7 f7) ?_
   refine goE mixed ?_
   refine callR_pure (rtag_c 7 (by decide) _ (by omega)) ?_
   refine goE mixed ?_
   refine callR_pure (rnumber_c e8 z8) ?_
   refine goE mixed ?_
   refine callR_pure (rtag_c 8 (by decide) _ (by omega)) ?_
   refine goE mixed ?_
   refine callR_pure (rnumber_c e9 z9) ?_
   refine goE mixed ?_
   refine callR_pure (rtag_c 9 (by decide) _ (by omega)) ?_
   refine goE mixed ?_
   refine callR_pure (rnumber_c e10 z10) ?_
   refine goE mixed ?_
   refine callR_pure (rtag_c 10 (by decide) _ (by omega)) ?_
   refine goE mixed ?_
   refine callR_pure (rtimeO_c e11 f11) ?_
   refine goE mixed ?_
   refine callR_pure (rtag_c 11 (by decide) _ (by omega)) ?_
   refine goE mixed ?_
   refine callR_pure (rtimeO_c e12 f12) ?_
   refine goE mixed ?_
   refine callR_pure (rtag_c 12 (by decide) _ (by omega)) ?_
   refine goE mixed ?_
   refine callR_pure (rnms_c e13 f13 f13') ?_
   refine goE mixed ?_
   refine callR_pure (rtag_c 13 (by decide) _ (by omega)) ?_
   refine goE mixed ?_
   refine callR_pure (rnms_c e14 f14 f14') ?_
   refine goE mixed ?_
   refine callR_pure (rtag_c 14 (by decide) _ (by omega)) ?_
   refine goE mixed ?_
   refine callR_pure (rseq_c (mapN (t := Ty.slice .u8) octS e15 e15.length) (by omega) (by omega)) ?_
   refine goE mixed ?_
   refine callR_pure (runless_c _ _) ?_
   rw [hln2, hls15]
   refine goE mixed ?_
   refine callR_pure (rtag_c 15 (by decide) _ (by omega)) ?_
   refine goE mixed ?_
   refine callR_hand 3 (by decide) ?_
   with_reducible refine sxE ?_
   refine callR_pure (rseq_c _ (by simp) (by simp only [List.flatten_cons, List.flatten_nil, List.append_nil, List.length_append]; omega)) ?_
   refine goE mixed ?_; trivial
end Go.Proofs.YtddmkgibghohkaaGreatDoor
