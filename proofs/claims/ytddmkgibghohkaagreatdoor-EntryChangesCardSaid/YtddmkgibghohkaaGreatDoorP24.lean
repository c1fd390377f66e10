/- The plain law: the program and the reference tell the same of entries. -/
import Derived.Test.YtddmkgibghohkaaGreatDoorPRv
set_option linter.unusedSimpArgs false
set_option linter.unusedVariables false
namespace Go.Proofs.YtddmkgibghohkaaGreatDoor
open Go Go.Sx Go.Proofs
set_option maxRecDepth 100000
set_option maxHeartbeats 1000000
set_option linter.unusedSimpArgs false

theorem getD_at {α : Type} {l : List α} {d : α} {j : Nat} (h : j < l.length) : l.getD j d = l[j] := by
  rw [List.getD_eq_getElem?_getD, List.getElem?_eq_getElem h]; rfl
theorem allN_all {α : Type} {l : List α} {d : α} {q : α → Bool} : allN l.length (fun j => q (l.getD j d)) = l.all q := by
  rw [Bool.eq_iff_iff, allN_iff, List.all_eq_true]
  constructor
  · intro h x hx
    obtain ⟨j, hj, rfl⟩ := List.getElem_of_mem hx
    have := h j hj
    rwa [getD_at hj] at this
  · intro h j hj
    exact h _ (getD_mem hj)
theorem nodup_iff {l : List Prin} : l.Nodup ↔ ∀ i, i < l.length → ∀ k, k < i → prinAt l k ≠ prinAt l i := by
  unfold List.Nodup
  rw [List.pairwise_iff_getElem]
  constructor
  · intro h i hi k hk
    unfold prinAt
    rw [getD_at hi, getD_at (show k < l.length by omega)]
    exact h k i (by omega) hi hk
  · intro h i j hi hj hij
    have := h j hj i hij
    unfold prinAt at this
    rwa [getD_at hi, getD_at hj] at this
theorem diff_eq (l : List Prin) : rDiff l = vPrins l := by
  rw [Bool.eq_iff_iff]
  unfold rDiff vPrins disB
  simp only [Bool.and_eq_true, decide_eq_true_eq, allN_iff, difAt, neAt, Bool.not_eq_true', decide_eq_false_iff_not]
  rw [← allN_all (d := PrinT.dflt), allN_iff]
  constructor
  · rintro ⟨h1, h2⟩
    exact ⟨⟨h2, fun j hj => (h1 j hj).1⟩, nodup_iff.2 fun i hi k hk => (h1 i hi).2 k hk⟩
  · rintro ⟨⟨h2, h3⟩, h4⟩
    exact ⟨fun j hj => ⟨h3 j hj, fun k hk => nodup_iff.1 h4 j hj k hk⟩, h2⟩
theorem names_eq (e : Ent) : vNames e = (vPrin e.1 && (rDiff e.2.1 && allN e.2.1.length (aliAt e.2.1 e.1))) := by
  rw [diff_eq, Bool.eq_iff_iff]
  unfold vNames vPrins disB aliAt
  simp only [Bool.and_eq_true, decide_eq_true_eq, List.nodup_cons, List.all_eq_true, vAlias, allN_iff, Bool.not_eq_true', decide_eq_false_iff_not]
  constructor
  · rintro ⟨h1, ⟨h2, h3⟩, h4, h5⟩
    refine ⟨h1, ⟨⟨h2, fun x hx => (h3 x hx).1⟩, h5⟩, fun j hj => ⟨(h3 _ (getD_mem hj)).2, fun he => h4 (he ▸ getD_mem hj)⟩⟩
  · rintro ⟨h1, ⟨⟨h2, h3⟩, h5⟩, h6⟩
    refine ⟨h1, ⟨h2, fun x hx => ⟨h3 x hx, ?_⟩⟩, fun hm => ?_, h5⟩
    · obtain ⟨j, hj, rfl⟩ := List.getElem_of_mem hx
      have := (h6 j hj).1
      rwa [getD_at hj] at this
    · obtain ⟨j, hj, he⟩ := List.getElem_of_mem hm
      refine (h6 j hj).2 ?_
      rw [getD_at hj, he]
theorem keys_eq (l : List KSet) (m : Int) : ((decide ((l.length : Int) ≤ 16) && l.all (vSet · m)) && ord (t := SetT) sOrd l) = (allN l.length (setOk l m) && decide ((l.length : Int) ≤ 16)) := by
  rw [Bool.eq_iff_iff]
  unfold ord setOk sOrd
  simp only [Bool.and_eq_true, Bool.or_eq_true, decide_eq_true_eq, List.all_eq_true, allN_iff]
  constructor
  · rintro ⟨⟨h1, h2⟩, h3⟩
    refine ⟨fun j hj => ⟨h2 _ (getD_mem hj), ?_⟩, h1⟩
    by_cases h0 : j = 0
    · exact .inl h0
    · have := h3 (j - 1) (by omega)
      rw [Nat.sub_add_cancel (by omega)] at this
      exact .inr this
  · rintro ⟨h1, h2⟩
    refine ⟨⟨h2, fun x hx => ?_⟩, fun j hj => ?_⟩
    · obtain ⟨j, hj, rfl⟩ := List.getElem_of_mem hx
      have := (h1 j hj).1
      rwa [getD_at hj] at this
    · have := (h1 (j + 1) (by omega)).2
      rcases this with h | h
      · omega
      · simpa using h
theorem his_eq (l : List (List UInt8)) : allN l.length (hisOk l) = l.all lenB := by
  rw [← allN_all (d := (Ty.slice .u8).dflt)]; rfl
theorem u32wrap {n : Nat} (h : n < 4294967296) : IntKind.u32.wrap (n : Int) = n := by
  simp [IntKind.wrap, IntKind.bits, IntKind.signed]; omega
theorem and_zero {n : Nat} (hn : n < 4294967296) : (BitVec.ofNat 32 n &&& ~~~(1023#32)) = 0#32 ↔ n < 1024 := by
  have hbit : ∀ i, (BitVec.ofNat 32 n &&& ~~~(1023#32)).getLsbD i = (n.testBit i && (decide (i < 32) && !decide (i < 10))) := fun i => by
    simp only [BitVec.getLsbD_and, BitVec.getLsbD_not, BitVec.getLsbD_ofNat]
    rw [show (1023 : Nat) = 2 ^ 10 - 1 from rfl, Nat.testBit_two_pow_sub_one]
    by_cases h : i < 32 <;> simp [h]
  constructor
  · intro hz
    have h0 : n / 2 ^ 10 = 0 := by
      apply Nat.eq_of_testBit_eq
      intro i
      rw [Nat.testBit_div_two_pow, Nat.zero_testBit]
      by_cases hi : i + 10 < 32
      · have hb := hbit (i + 10)
        rw [hz, BitVec.getLsbD_zero] at hb
        simp only [hi, decide_true, Bool.true_and, show ¬ (i + 10 < 10) from by omega, decide_false, Bool.not_false, Bool.and_true] at hb
        exact hb.symm
      · exact Nat.testBit_lt_two_pow (Nat.lt_of_lt_of_le hn (Nat.pow_le_pow_right (n := 2) (by decide) (show 32 ≤ i + 10 by omega)))
    omega
  · intro h
    apply BitVec.eq_of_getLsbD_eq
    intro i _
    rw [hbit, BitVec.getLsbD_zero]
    by_cases hi : i < 10
    · simp [hi]
    · have : n.testBit i = false := Nat.testBit_lt_two_pow (Nat.lt_of_lt_of_le h (Nat.pow_le_pow_right (n := 2) (by decide) (show 10 ≤ i by omega)))
      simp [this]
theorem or_all {n : Nat} : n ||| 1023 = 1023 ↔ n < 1024 := by
  constructor
  · intro h
    have := Nat.left_le_or (n := n) (m := 1023)
    omega
  · intro h
    have h1 : n ||| 1023 < 2 ^ 10 := Nat.or_lt_two_pow h (by decide)
    have h2 := Nat.right_le_or (n := n) (m := 1023)
    omega
theorem attr_eq {a : Int} (h : 0 ≤ a ∧ a ≤ 4294967295) : attrB a = attrR a := by
  obtain ⟨n, rfl⟩ : ∃ n : Nat, a = n := ⟨a.toNat, by omega⟩
  have hn : n < 4294967296 := by omega
  unfold attrB attrR
  rw [wrapi (n := (n : Int)) (by omega), decide_eq_decide]
  rw [u32wrap (BitVec.isLt _)]
  have e2 : (BitVec.ofInt 64 (n : Int) ||| BitVec.ofInt 64 1023).toNat = n ||| 1023 := by
    rw [BitVec.ofInt_natCast, BitVec.toNat_or, BitVec.toNat_ofNat, Nat.mod_eq_of_lt (by omega)]
    rfl
  have e3 : n ||| 1023 < 2 ^ 32 := Nat.or_lt_two_pow (by omega) (by decide)
  rw [e2, wrapi (by omega), BitVec.ofInt_natCast]
  have e4 : BitVec.ofInt 32 1023 = 1023#32 := by decide
  rw [e4]
  have h1 := and_zero hn
  have h2 := or_all (n := n)
  rw [← BitVec.toNat_inj, BitVec.toNat_zero] at h1
  omega
theorem rEnt_eq (e : Ent) (ha : 0 ≤ e.2.2.1 ∧ e.2.2.1 ≤ 4294967295) : rEnt e = vEnt e := by
  unfold rEnt vEnt
  rw [names_eq, attr_eq ha, vKeys, keys_eq, his_eq, diff_eq, diff_eq, diff_eq]
  unfold vText inR
  simp only [List.all_cons, List.all_nil, inB, Bool.and_true]
  rw [Bool.eq_iff_iff]
  simp only [Bool.and_eq_true]
  constructor
  · rintro ⟨h1, h2, h3, h4, h5, h6, h7, h8, h9, h10, h11, h12, h13, h14, h15, h16, h17, h18, h19, h20⟩
    exact ⟨⟨h1, h2, h5⟩, h8, h9, ⟨h6, h10⟩, ⟨h12, h11⟩, ⟨h14, h15, h19, h20⟩, ⟨h16, h17⟩, h18, h3, h4, h13, h7⟩
  · rintro ⟨⟨h1, h2, h5⟩, h8, h9, ⟨h6, h10⟩, ⟨h12, h11⟩, ⟨h14, h15, h19, h20⟩, ⟨h16, h17⟩, h18, h3, h4, h13, h7⟩
    exact ⟨h1, h2, h3, h4, h5, h6, h7, h8, h9, h10, h11, h12, h13, h14, h15, h16, h17, h18, h19, h20⟩
theorem rvalid_c (e : Ent) (ho : EntT.ok e) (ha : 0 ≤ e.2.2.1 ∧ e.2.2.1 ≤ 4294967295) : PC Tryz.prog 24 [.agg (EntT.cells e)] (rB (vEnt e)) := by
  have := rvalid_r e ho
  rwa [rEnt_eq e ha] at this
end Go.Proofs.YtddmkgibghohkaaGreatDoor
/- Contracts: the reference's Offer, SameOffer, Add. -/
namespace Go.Proofs.YtddmkgibghohkaaGreatDoor
open Go Go.Sx Go.Proofs
set_option maxRecDepth 100000
set_option maxHeartbeats 4000000
set_option linter.unusedSimpArgs false

theorem salt_eq (a b : Salt) : (decide (a.1 = b.1) && (decide (a.2.1 = b.2.1) && decide (a.2.2 = b.2.2))) = decide (a = b) := by
  obtain ⟨a1, a2, a3⟩ := a
  obtain ⟨b1, b2, b3⟩ := b
  rw [Bool.eq_iff_iff]
  simp
theorem rsameOffer_c (l l' : List Salt) (hl : l.length ≤ 1125899906842624) : PC Tryz.prog 25 [.isl SaltT l, .isl SaltT l'] (rB (decide (l = l'))) := by
  have key := sameN l l' SaltT.dflt
  refine pc_of rfl rfl ?_
  refine vc_fi fi25 (run_sound mixed 600 _ ?_)
  simp (maxSteps := 3000000) only [ir25, go_sem, ↓bothG_tt, ↓bothG_tf, ↓bothG_ft, ↓bothG_ff, ↓reduceIte, ↓reduceDIte, reduceCtorEq, Nat.reduceAdd, Nat.reduceSub, Nat.reduceLeDiff, Nat.reduceLT, Nat.reduceEqDiff, Nat.reduceBEq, Nat.reduceMul, Int.reduceToNat, Int.reduceEq, Int.reduceLT, Int.reduceLE] <;> try simp only [bothG_t, bothG_f, decide_eq_true_eq, decide_eq_false_iff_not, Bool.not_eq_true', Bool.not_eq_false', Int.ofNat_lt, Int.ofNat_le]
  refine ⟨fun h => ?_, fun h => ?_⟩
  · rw [decide_eq_false (fun e => h (by rw [e]))]
  have hll : l.length = l'.length := by omega
  refine si_cntD (fun i => [(5, .raw (.int .i64 ((i : Nat) : Int)))]) (l.length) (fun j => (eqAt l l' SaltT.dflt) j = true) (by first | decide | simp) (fun i => rfl) ?_ fun i hi hall => ?_
  · simp (maxSteps := 3000000) only [go_sem, ↓bothG_tt, ↓bothG_tf, ↓bothG_ft, ↓bothG_ff, ↓reduceIte, ↓reduceDIte, reduceCtorEq, Nat.reduceAdd, Nat.reduceSub, Nat.reduceLeDiff, Nat.reduceLT, Nat.reduceEqDiff, Nat.reduceBEq, Nat.reduceMul, Int.reduceToNat, Int.reduceEq, Int.reduceLT, Int.reduceLE] <;> try simp only [bothG_t, bothG_f, decide_eq_true_eq, decide_eq_false_iff_not, Bool.not_eq_true', Bool.not_eq_false', Int.ofNat_lt, Int.ofNat_le]
    all_goals (try rfl)
  have hwr : IntKind.i64.wrap ((i : Int) + 1) = ((i + 1 : Nat) : Int) := wrap_succ (by omega)
  refine run_sound mixed 600 _ ?_
  simp (maxSteps := 3000000) only [go_sem, ↓bothG_tt, ↓bothG_tf, ↓bothG_ft, ↓bothG_ff, ↓reduceIte, ↓reduceDIte, reduceCtorEq, Nat.reduceAdd, Nat.reduceSub, Nat.reduceLeDiff, Nat.reduceLT, Nat.reduceEqDiff, Nat.reduceBEq, Nat.reduceMul, Int.reduceToNat, Int.reduceEq, Int.reduceLT, Int.reduceLE] <;> try simp only [bothG_t, bothG_f, decide_eq_true_eq, decide_eq_false_iff_not, Bool.not_eq_true', Bool.not_eq_false', Int.ofNat_lt, Int.ofNat_le]
  have bad : i < (l.length) → (eqAt l l' SaltT.dflt) i = false → allN (l.length) (eqAt l l' SaltT.dflt) = false := fun hlt hv => allN_false hlt hv
  have fin : ¬ i < (l.length) → allN (l.length) (eqAt l l' SaltT.dflt) = true := fun h => allN_true fun j hj => hall j (by omega)
  try dsimp only at bad fin hall
  refine ⟨fun hlt => ⟨⟨by omega, hlt⟩, ⟨by omega, by omega⟩, fun hn => ?_, fun he => ?_⟩, fun hge => ?_⟩
  · have := bad hlt ((salt_eq _ _).symm.trans hn)
    rw [decide_eq_false (fun e => by have h1 := (key.1 e).2; rw [this] at h1; cases h1)]
  · refine ⟨hlt, next_all hall ((salt_eq _ _).symm.trans he), ⟨[], rfl⟩, ?_⟩
    simp (maxSteps := 3000000) only [hwr, go_sem, ↓bothG_tt, ↓bothG_tf, ↓bothG_ft, ↓bothG_ff, ↓reduceIte, ↓reduceDIte, reduceCtorEq, Nat.reduceAdd, Nat.reduceSub, Nat.reduceLeDiff, Nat.reduceLT, Nat.reduceEqDiff, Nat.reduceBEq, Nat.reduceMul, Int.reduceToNat, Int.reduceEq, Int.reduceLT, Int.reduceLE] <;> try simp only [bothG_t, bothG_f, decide_eq_true_eq, decide_eq_false_iff_not, Bool.not_eq_true', Bool.not_eq_false', Int.ofNat_lt, Int.ofNat_le]
  · rw [decide_eq_true (key.2 ⟨hll, fin hge⟩)]
theorem roffer_c (e : Ent) (ho : EntT.ok e) (ha : 0 ≤ e.2.2.1 ∧ e.2.2.1 ≤ 4294967295) : PC Tryz.prog 22 [.agg (EntT.cells e)] (.tup [.isl SaltT (ofS e).1, rI (ofS e).2]) := by
  generalize hS : ofS e = S at *
  have hval := rvalid_c e ho ha
  refine pc_seal rfl rfl ?_
  refine vc_fi fi22 (run_sound mixed 600 _ ?_)
  simp (maxSteps := 3000000) only [ir22, go_sem, ↓bothG_tt, ↓bothG_tf, ↓bothG_ft, ↓bothG_ff, ↓reduceIte, ↓reduceDIte, reduceCtorEq, Nat.reduceAdd, Nat.reduceSub, Nat.reduceLeDiff, Nat.reduceLT, Nat.reduceEqDiff, Nat.reduceBEq, Nat.reduceMul, Int.reduceToNat, Int.reduceEq, Int.reduceLT, Int.reduceLE] <;> try simp only [bothG_t, bothG_f, decide_eq_true_eq, decide_eq_false_iff_not, Bool.not_eq_true', Bool.not_eq_false', Int.ofNat_lt, Int.ofNat_le]
  refine callI_pure hval ?_
  refine run_sound mixed 600 _ ?_
  simp (maxSteps := 3000000) only [go_sem, ↓bothG_tt, ↓bothG_tf, ↓bothG_ft, ↓bothG_ff, ↓reduceIte, ↓reduceDIte, reduceCtorEq, Nat.reduceAdd, Nat.reduceSub, Nat.reduceLeDiff, Nat.reduceLT, Nat.reduceEqDiff, Nat.reduceBEq, Nat.reduceMul, Int.reduceToNat, Int.reduceEq, Int.reduceLT, Int.reduceLE] <;> try simp only [bothG_t, bothG_f, decide_eq_true_eq, decide_eq_false_iff_not, Bool.not_eq_true', Bool.not_eq_false', Int.ofNat_lt, Int.ofNat_le]
  refine ⟨fun hv => ?_, fun hv => ?_⟩
  · rw [← hS]; unfold ofS; rw [if_pos hv]; exact ⟨rfl, rfl⟩
  by_cases hk : (0 : Int) < (List.length e.2.2.2.2.1 : Int)
  · have hilt : 0 < e.2.2.2.2.1.length := by omega
    have h1 := (vEnt_small hv).2.2.1.2 _ (getD_mem (d := SetT.dflt) hilt)
    have hstr : (List.getD e.2.2.2.2.1 0 SetT.dflt).2.2.1.size ≤ 140737488355328 := (ho.2.2.2.2.1.2 _ (getD_mem (d := SetT.dflt) hilt)).2.2.1
    have hS' : ofS e = (offN (List.getD e.2.2.2.2.1 0 SetT.dflt) (List.getD e.2.2.2.2.1 0 SetT.dflt).2.1.length, 0) := by unfold ofS; rw [if_neg (by simp [hv]), if_neg (by show ¬ List.length e.2.2.2.2.1 = 0; omega)]; rfl
    rw [hS] at hS'
    generalize hs0 : List.getD e.2.2.2.2.1 0 SetT.dflt = s0 at *
    refine si_accN 4 SaltT (offN s0) (fun i => [(5, rI i)]) s0.2.1.length (fun _ => True) rfl (by simp) (by simp [offN]) rfl (fun i => rfl) ?_ fun i hi _ => ?_
    · simp (maxSteps := 3000000) only [go_sem, ↓bothG_tt, ↓bothG_tf, ↓bothG_ft, ↓bothG_ff, ↓reduceIte, ↓reduceDIte, reduceCtorEq, Nat.reduceAdd, Nat.reduceSub, Nat.reduceLeDiff, Nat.reduceLT, Nat.reduceEqDiff, Nat.reduceBEq, Nat.reduceMul, Int.reduceToNat, Int.reduceEq, Int.reduceLT, Int.reduceLE] <;> try simp only [bothG_t, bothG_f, decide_eq_true_eq, decide_eq_false_iff_not, Bool.not_eq_true', Bool.not_eq_false', Int.ofNat_lt, Int.ofNat_le]
    have hwr : IntKind.i64.wrap ((i : Int) + 1) = ((i + 1 : Nat) : Int) := wrap_succ (by omega)
    have hln := offN_len hi
    refine run_sound mixed 600 _ ?_
    simp (maxSteps := 3000000) only [hk, hilt, hs0, go_sem, ↓bothG_tt, ↓bothG_tf, ↓bothG_ft, ↓bothG_ff, ↓reduceIte, ↓reduceDIte, reduceCtorEq, Nat.reduceAdd, Nat.reduceSub, Nat.reduceLeDiff, Nat.reduceLT, Nat.reduceEqDiff, Nat.reduceBEq, Nat.reduceMul, Int.reduceToNat, Int.reduceEq, Int.reduceLT, Int.reduceLE] <;> try simp only [bothG_t, bothG_f, decide_eq_true_eq, decide_eq_false_iff_not, Bool.not_eq_true', Bool.not_eq_false', Int.ofNat_lt, Int.ofNat_le]
    refine ⟨fun hlt => ?_, fun hge => ?_⟩
    · have hst := offN_succ hlt
      refine ⟨⟨by omega, hlt⟩, hstr, ⟨by omega, by omega⟩, acc_next [_, _] [] hlt trivial (by rw [hst]; rfl) ?_⟩
      simp (maxSteps := 3000000) only [hwr, hst, List.length_append, go_sem, ↓bothG_tt, ↓bothG_tf, ↓bothG_ft, ↓bothG_ff, ↓reduceIte, ↓reduceDIte, reduceCtorEq, Nat.reduceAdd, Nat.reduceSub, Nat.reduceLeDiff, Nat.reduceLT, Nat.reduceEqDiff, Nat.reduceBEq, Nat.reduceMul, Int.reduceToNat, Int.reduceEq, Int.reduceLT, Int.reduceLE] <;> try simp only [bothG_t, bothG_f, decide_eq_true_eq, decide_eq_false_iff_not, Bool.not_eq_true', Bool.not_eq_false', Int.ofNat_lt, Int.ofNat_le]
    · obtain rfl : i = List.length s0.2.1 := by omega
      rw [hS']
      refine ⟨⟨Nat.le_refl _, by omega⟩, List.take_of_length_le (Nat.le_refl _), rfl⟩
  · refine si_loopX (ι := Unit) (fun _ => [(4, .raw (.slice none 0 0)), (5, rI 0)]) (fun _ => _) (fun _ => 0) (fun _ => True) () trivial rfl ?_ ?_
    · simp (maxSteps := 3000000) only [go_sem, ↓bothG_tt, ↓bothG_tf, ↓bothG_ft, ↓bothG_ff, ↓reduceIte, ↓reduceDIte, reduceCtorEq, Nat.reduceAdd, Nat.reduceSub, Nat.reduceLeDiff, Nat.reduceLT, Nat.reduceEqDiff, Nat.reduceBEq, Nat.reduceMul, Int.reduceToNat, Int.reduceEq, Int.reduceLT, Int.reduceLE] <;> try simp only [bothG_t, bothG_f, decide_eq_true_eq, decide_eq_false_iff_not, Bool.not_eq_true', Bool.not_eq_false', Int.ofNat_lt, Int.ofNat_le]
    intro _ _
    refine run_sound mixed 600 _ ?_
    simp (maxSteps := 3000000) only [hk, go_sem, ↓bothG_tt, ↓bothG_tf, ↓bothG_ft, ↓bothG_ff, ↓reduceIte, ↓reduceDIte, reduceCtorEq, Nat.reduceAdd, Nat.reduceSub, Nat.reduceLeDiff, Nat.reduceLT, Nat.reduceEqDiff, Nat.reduceBEq, Nat.reduceMul, Int.reduceToNat, Int.reduceEq, Int.reduceLT, Int.reduceLE] <;> try simp only [bothG_t, bothG_f, decide_eq_true_eq, decide_eq_false_iff_not, Bool.not_eq_true', Bool.not_eq_false', Int.ofNat_lt, Int.ofNat_le]
    rw [← hS]; unfold ofS; rw [if_neg (by simp [hv]), if_pos (by show List.length e.2.2.2.2.1 = 0; omega)]; exact ⟨rfl, rfl⟩
theorem vEnt_keys {e : Ent} (h : vEnt e = true) : (List.length e.2.2.2.2.1 : Int) ≤ 16 ∧ ord (t := SetT) sOrd e.2.2.2.2.1 = true := by
  simp only [vEnt, vKeys, Bool.and_eq_true, decide_eq_true_eq] at h
  exact ⟨h.2.2.2.1.1.1, h.2.2.2.1.2⟩
theorem radd_c (e : Ent) (s : KSet) (ho : EntT.ok e) (hs : SetT.ok s) (ha : 0 ≤ e.2.2.1 ∧ e.2.2.1 ≤ 4294967295) : PC Tryz.prog 14 [.agg (EntT.cells e), .agg (SetT.cells s)] (.tup [.agg (EntT.cells (addS e s).1), rI (addS e s).2]) := by
  generalize hS : addS e s = S at *
  have hval := rvalid_c e ho ha
  have hstr : s.2.2.1.size ≤ 140737488355328 := hs.2.2.1
  refine pc_seal rfl rfl ?_
  by_cases hk : (0 : Int) < (List.length e.2.2.2.2.1 : Int)
  · have hilt : 0 < e.2.2.2.2.1.length := by omega
    refine vc_fi fi14 (run_sound mixed 600 _ ?_)
    simp (maxSteps := 3000000) only [ir14, go_sem, ↓bothG_tt, ↓bothG_tf, ↓bothG_ft, ↓bothG_ff, ↓reduceIte, ↓reduceDIte, reduceCtorEq, Nat.reduceAdd, Nat.reduceSub, Nat.reduceLeDiff, Nat.reduceLT, Nat.reduceEqDiff, Nat.reduceBEq, Nat.reduceMul, Int.reduceToNat, Int.reduceEq, Int.reduceLT, Int.reduceLE] <;> try simp only [bothG_t, bothG_f, decide_eq_true_eq, decide_eq_false_iff_not, Bool.not_eq_true', Bool.not_eq_false', Int.ofNat_lt, Int.ofNat_le]
    refine callI_pure hval ?_
    refine run_sound mixed 600 _ ?_
    simp (maxSteps := 3000000) only [hk, hilt, go_sem, ↓bothG_tt, ↓bothG_tf, ↓bothG_ft, ↓bothG_ff, ↓reduceIte, ↓reduceDIte, reduceCtorEq, Nat.reduceAdd, Nat.reduceSub, Nat.reduceLeDiff, Nat.reduceLT, Nat.reduceEqDiff, Nat.reduceBEq, Nat.reduceMul, Int.reduceToNat, Int.reduceEq, Int.reduceLT, Int.reduceLE] <;> try simp only [bothG_t, bothG_f, decide_eq_true_eq, decide_eq_false_iff_not, Bool.not_eq_true', Bool.not_eq_false', Int.ofNat_lt, Int.ofNat_le]
    refine ⟨fun hv => ?_, fun hv => ⟨fun hb => ?_, fun hb => callR_pure (rvset_c s _ hs) ?_⟩⟩
    · have hA : addS e s = (EntT.dflt, 2) := by unfold addS; rw [if_pos hv]
      rw [← hS, hA]; exact ⟨⟨rfl, rfl, rfl, rfl, rfl, rfl, rfl, rfl, rfl, rfl, rfl, rfl, rfl, rfl, rfl, rfl, rfl⟩, rfl⟩
    · have hA : addS e s = (EntT.dflt, 11) := by unfold addS; rw [if_neg (by simp [hv]), if_pos (by unfold busyB; rw [Bool.and_eq_true]; exact ⟨decide_eq_true hk, decide_eq_true hb⟩)]
      rw [← hS, hA]; exact ⟨⟨rfl, rfl, rfl, rfl, rfl, rfl, rfl, rfl, rfl, rfl, rfl, rfl, rfl, rfl, rfl, rfl, rfl⟩, rfl⟩
    · have hbf : ¬ busyB e s = true := by unfold busyB; rw [Bool.and_eq_true]; exact fun h => hb (of_decide_eq_true h.2)
      have h16' := (vEnt_keys hv).1
      refine run_sound mixed 600 _ ?_
      simp (maxSteps := 3000000) only [hk, hilt, go_sem, ↓bothG_tt, ↓bothG_tf, ↓bothG_ft, ↓bothG_ff, ↓reduceIte, ↓reduceDIte, reduceCtorEq, Nat.reduceAdd, Nat.reduceSub, Nat.reduceLeDiff, Nat.reduceLT, Nat.reduceEqDiff, Nat.reduceBEq, Nat.reduceMul, Int.reduceToNat, Int.reduceEq, Int.reduceLT, Int.reduceLE] <;> try simp only [bothG_t, bothG_f, decide_eq_true_eq, decide_eq_false_iff_not, Bool.not_eq_true', Bool.not_eq_false', Int.ofNat_lt, Int.ofNat_le]
      refine ⟨fun hvs => ⟨fun hl => ?_, fun hl => ⟨fun h16 => ?_, fun h16 => ?_⟩⟩, fun hvs => ?_⟩
      · have hA : addS e s = (EntT.dflt, 2) := by unfold addS; rw [if_neg (by simp [hv]), if_neg hbf, if_pos (.inl (by unfold lateB; rw [Bool.and_eq_true]; exact ⟨decide_eq_true hk, decide_eq_true hl⟩))]
        rw [← hS, hA]; exact ⟨⟨rfl, rfl, rfl, rfl, rfl, rfl, rfl, rfl, rfl, rfl, rfl, rfl, rfl, rfl, rfl, rfl, rfl⟩, rfl⟩
      · have hlf : ¬ lateB e s = true := by unfold lateB; rw [Bool.and_eq_true]; exact fun h => hl (of_decide_eq_true h.2)
        have hA : addS e s = (EntT.dflt, 7) := by unfold addS; rw [if_neg (by simp [hv]), if_neg hbf, if_neg (by rintro (h | h); exact hlf h; rw [hvs] at h; cases h), if_pos (by show 16 ≤ (List.length e.2.2.2.2.1 : Int); omega)]
        rw [← hS, hA]; exact ⟨⟨rfl, rfl, rfl, rfl, rfl, rfl, rfl, rfl, rfl, rfl, rfl, rfl, rfl, rfl, rfl, rfl, rfl⟩, rfl⟩
      · have hlf : ¬ lateB e s = true := by unfold lateB; rw [Bool.and_eq_true]; exact fun h => hl (of_decide_eq_true h.2)
        have hA : addS e s = (withKeys e (s :: keysOf e), 0) := by unfold addS; rw [if_neg (by simp [hv]), if_neg hbf, if_neg (by rintro (h | h); exact hlf h; rw [hvs] at h; cases h), if_neg (by show ¬ 16 ≤ (List.length e.2.2.2.2.1 : Int); omega)]
        refine ⟨hstr, ⟨by omega, by omega⟩, ⟨by omega, by omega⟩, ?_⟩
        rw [List.take_of_length_le (by simp; omega), ← hS, hA]; exact ⟨⟨rfl, rfl, rfl, rfl, rfl, rfl, rfl, rfl, rfl, rfl, rfl, rfl, rfl, rfl, rfl, rfl, rfl⟩, rfl⟩
      · have hA : addS e s = (EntT.dflt, 2) := by unfold addS; rw [if_neg (by simp [hv]), if_neg hbf, if_pos (.inr hvs)]
        rw [← hS, hA]; exact ⟨⟨rfl, rfl, rfl, rfl, rfl, rfl, rfl, rfl, rfl, rfl, rfl, rfl, rfl, rfl, rfl, rfl, rfl⟩, rfl⟩
  · refine vc_fi fi14 (run_sound mixed 600 _ ?_)
    simp (maxSteps := 3000000) only [ir14, go_sem, ↓bothG_tt, ↓bothG_tf, ↓bothG_ft, ↓bothG_ff, ↓reduceIte, ↓reduceDIte, reduceCtorEq, Nat.reduceAdd, Nat.reduceSub, Nat.reduceLeDiff, Nat.reduceLT, Nat.reduceEqDiff, Nat.reduceBEq, Nat.reduceMul, Int.reduceToNat, Int.reduceEq, Int.reduceLT, Int.reduceLE] <;> try simp only [bothG_t, bothG_f, decide_eq_true_eq, decide_eq_false_iff_not, Bool.not_eq_true', Bool.not_eq_false', Int.ofNat_lt, Int.ofNat_le]
    refine callI_pure hval ?_
    refine run_sound mixed 600 _ ?_
    simp (maxSteps := 3000000) only [hk, go_sem, ↓bothG_tt, ↓bothG_tf, ↓bothG_ft, ↓bothG_ff, ↓reduceIte, ↓reduceDIte, reduceCtorEq, Nat.reduceAdd, Nat.reduceSub, Nat.reduceLeDiff, Nat.reduceLT, Nat.reduceEqDiff, Nat.reduceBEq, Nat.reduceMul, Int.reduceToNat, Int.reduceEq, Int.reduceLT, Int.reduceLE] <;> try simp only [bothG_t, bothG_f, decide_eq_true_eq, decide_eq_false_iff_not, Bool.not_eq_true', Bool.not_eq_false', Int.ofNat_lt, Int.ofNat_le]
    have hbf : ¬ busyB e s = true := by unfold busyB; rw [Bool.and_eq_true]; exact fun h => hk (of_decide_eq_true h.1)
    have hlf : ¬ lateB e s = true := by unfold lateB; rw [Bool.and_eq_true]; exact fun h => hk (of_decide_eq_true h.1)
    refine ⟨fun hv => ?_, fun hv => callR_pure (rvset_c s _ hs) ?_⟩
    · have hA : addS e s = (EntT.dflt, 2) := by unfold addS; rw [if_pos hv]
      rw [← hS, hA]; exact ⟨⟨rfl, rfl, rfl, rfl, rfl, rfl, rfl, rfl, rfl, rfl, rfl, rfl, rfl, rfl, rfl, rfl, rfl⟩, rfl⟩
    · refine run_sound mixed 600 _ ?_
      simp (maxSteps := 3000000) only [hk, go_sem, ↓bothG_tt, ↓bothG_tf, ↓bothG_ft, ↓bothG_ff, ↓reduceIte, ↓reduceDIte, reduceCtorEq, Nat.reduceAdd, Nat.reduceSub, Nat.reduceLeDiff, Nat.reduceLT, Nat.reduceEqDiff, Nat.reduceBEq, Nat.reduceMul, Int.reduceToNat, Int.reduceEq, Int.reduceLT, Int.reduceLE] <;> try simp only [bothG_t, bothG_f, decide_eq_true_eq, decide_eq_false_iff_not, Bool.not_eq_true', Bool.not_eq_false', Int.ofNat_lt, Int.ofNat_le]
      refine ⟨fun hvs => ⟨fun h16 => absurd h16 (by omega), fun h16 => ?_⟩, fun hvs => ?_⟩
      · have hA : addS e s = (withKeys e (s :: keysOf e), 0) := by unfold addS; rw [if_neg (by simp [hv]), if_neg hbf, if_neg (by rintro (h | h); exact hlf h; rw [hvs] at h; cases h), if_neg (by show ¬ 16 ≤ (List.length e.2.2.2.2.1 : Int); omega)]
        refine ⟨hstr, ⟨by omega, by omega⟩, ⟨by omega, by omega⟩, ?_⟩
        rw [List.take_of_length_le (by simp; omega), ← hS, hA]; exact ⟨⟨rfl, rfl, rfl, rfl, rfl, rfl, rfl, rfl, rfl, rfl, rfl, rfl, rfl, rfl, rfl, rfl, rfl⟩, rfl⟩
      · have hA : addS e s = (EntT.dflt, 2) := by unfold addS; rw [if_neg (by simp [hv]), if_neg hbf, if_pos (.inr hvs)]
        rw [← hS, hA]; exact ⟨⟨rfl, rfl, rfl, rfl, rfl, rfl, rfl, rfl, rfl, rfl, rfl, rfl, rfl, rfl, rfl, rfl, rfl⟩, rfl⟩
end Go.Proofs.YtddmkgibghohkaaGreatDoor
/- Contracts: the reference's Without, Find. -/
namespace Go.Proofs.YtddmkgibghohkaaGreatDoor
open Go Go.Sx Go.Proofs
set_option maxRecDepth 100000
set_option maxHeartbeats 4000000
set_option linter.unusedSimpArgs false

/-! ### Versions are different -/
theorem ver_lt {l : List KSet} (h : ord (t := SetT) sOrd l = true) : ∀ (d j : Nat), j + d + 1 < l.length → (l.getD (j + d + 1) SetT.dflt).1 < (l.getD j SetT.dflt).1
  | 0, j, hj => by
    simp only [ord, allN_iff, sOrd, Bool.and_eq_true, decide_eq_true_eq] at h
    exact (h j (by omega)).1
  | d + 1, j, hj => by
    have h1 := ver_lt h d j (by omega)
    simp only [ord, allN_iff, sOrd, Bool.and_eq_true, decide_eq_true_eq] at h
    have h2 := (h (j + d + 1) (by omega)).1
    have e : j + (d + 1) + 1 = j + d + 1 + 1 := by omega
    rw [e]
    exact Int.lt_trans h2 h1
theorem ver_uniq {l : List KSet} {v : Int} (h : ord (t := SetT) sOrd l = true) {i j : Nat} (hi : i < l.length) (hj : j < l.length) (h1 : verAt l v i = true) (h2 : verAt l v j = true) : i = j := by
  simp only [verAt, decide_eq_true_eq] at h1 h2
  rcases Nat.lt_trichotomy i j with hlt | he | hgt
  · have := ver_lt h (j - i - 1) i (by omega)
    rw [show i + (j - i - 1) + 1 = j from by omega, h1, h2] at this
    exact absurd this (Int.lt_irrefl _)
  · exact he
  · have := ver_lt h (i - j - 1) j (by omega)
    rw [show j + (i - j - 1) + 1 = i from by omega, h1, h2] at this
    exact absurd this (Int.lt_irrefl _)
def filtN (l : List KSet) (v : Int) (i : Nat) : List KSet := (l.take i).filter fun s => !decide (s.1 = v)
theorem filtN_succ {l : List KSet} {v : Int} {i : Nat} (h : i < l.length) : filtN l v (i + 1) = if verAt l v i then filtN l v i else filtN l v i ++ [l.getD i SetT.dflt] := by
  unfold filtN
  rw [take_succ_getD (d := SetT.dflt) h, List.filter_append]
  unfold verAt
  by_cases hv : (l.getD i SetT.dflt).1 = v
  · rw [decide_eq_true hv]; simp [hv]
    rw [List.getD_eq_getElem?_getD] at hv; exact hv
  · rw [decide_eq_false hv]
    simp only [List.filter_cons, hv, decide_false, Bool.not_false, if_true, List.filter_nil]
    rfl
theorem filtN_le (l : List KSet) (v : Int) (i : Nat) : (filtN l v i).length ≤ l.length := by
  unfold filtN
  exact Nat.le_trans (List.length_filter_le _ _) (by simp; omega)
theorem filt_none {l : List KSet} {v : Int} (h : firstN l.length (verAt l v) = none) : filtN l v l.length = l := by
  unfold filtN
  rw [List.take_length, List.filter_eq_self]
  intro x hx
  obtain ⟨j, hj, rfl⟩ := List.getElem_of_mem hx
  cases hb : verAt l v j with
  | false =>
    simp only [verAt, decide_eq_false_iff_not, getD_at hj] at hb
    simp [hb]
  | true =>
    exfalso
    unfold firstN at h
    rw [List.find?_range_eq_none] at h
    have := h j hj
    rw [hb] at this; cases this
theorem filt_some {l : List KSet} {v : Int} {i : Nat} (ho : ord (t := SetT) sOrd l = true) (h : firstN l.length (verAt l v) = some i) : filtN l v l.length = l.take i ++ l.drop (i + 1) := by
  obtain ⟨hi, hv, _⟩ := firstN_spec h
  have hne : ∀ j, j < l.length → j ≠ i → (l.getD j SetT.dflt).1 ≠ v := fun j hj hji he => hji (ver_uniq ho hj hi (decide_eq_true he) hv)
  have hself : ∀ m : List KSet, (∀ x ∈ m, x.1 ≠ v) → (m.filter fun s => !decide (s.1 = v)) = m := fun m hm => by
    rw [List.filter_eq_self]; intro x hx; simp [hm x hx]
  unfold filtN
  rw [List.take_length]
  have hsplit : l = l.take i ++ (l.getD i SetT.dflt :: l.drop (i + 1)) := by
    rw [getD_at hi, List.getElem_cons_drop, List.take_append_drop]
  conv => lhs; rw [hsplit]
  rw [List.filter_append, List.filter_cons, hself, hself]
  · have : (l.getD i SetT.dflt).1 = v := of_decide_eq_true hv
    simp only [this, decide_true, Bool.not_true, Bool.false_eq_true, if_false]
  · intro x hx
    obtain ⟨j, hj, rfl⟩ := List.getElem_of_mem hx
    rw [List.getElem_drop]
    rw [List.length_drop] at hj
    have := hne (i + 1 + j) (by omega) (by omega)
    rwa [getD_at (by omega)] at this
  · intro x hx
    obtain ⟨j, hj, rfl⟩ := List.getElem_of_mem hx
    rw [List.getElem_take]
    rw [List.length_take] at hj
    have := hne j (by omega) (by omega)
    rwa [getD_at (by omega)] at this
theorem rwithout_c (e : Ent) (v : Int) (ho : EntT.ok e) (ha : 0 ≤ e.2.2.1 ∧ e.2.2.1 ≤ 4294967295) : PC Tryz.prog 16 [.agg (EntT.cells e), rI v] (.tup [.agg (EntT.cells (woS e v).1), rI (woS e v).2]) := by
  generalize hS : woS e v = S at *
  have hval := rvalid_c e ho ha
  refine pc_seal rfl rfl ?_
  refine vc_fi fi16 (run_sound mixed 600 _ ?_)
  simp (maxSteps := 3000000) only [ir16, go_sem, ↓bothG_tt, ↓bothG_tf, ↓bothG_ft, ↓bothG_ff, ↓reduceIte, ↓reduceDIte, reduceCtorEq, Nat.reduceAdd, Nat.reduceSub, Nat.reduceLeDiff, Nat.reduceLT, Nat.reduceEqDiff, Nat.reduceBEq, Nat.reduceMul, Int.reduceToNat, Int.reduceEq, Int.reduceLT, Int.reduceLE] <;> try simp only [bothG_t, bothG_f, decide_eq_true_eq, decide_eq_false_iff_not, Bool.not_eq_true', Bool.not_eq_false', Int.ofNat_lt, Int.ofNat_le]
  refine callI_pure hval ?_
  refine run_sound mixed 600 _ ?_
  simp (maxSteps := 3000000) only [go_sem, ↓bothG_tt, ↓bothG_tf, ↓bothG_ft, ↓bothG_ff, ↓reduceIte, ↓reduceDIte, reduceCtorEq, Nat.reduceAdd, Nat.reduceSub, Nat.reduceLeDiff, Nat.reduceLT, Nat.reduceEqDiff, Nat.reduceBEq, Nat.reduceMul, Int.reduceToNat, Int.reduceEq, Int.reduceLT, Int.reduceLE] <;> try simp only [bothG_t, bothG_f, decide_eq_true_eq, decide_eq_false_iff_not, Bool.not_eq_true', Bool.not_eq_false', Int.ofNat_lt, Int.ofNat_le]
  refine ⟨fun hv => ?_, fun hv => ?_⟩
  · have hA : woS e v = (EntT.dflt, 2) := by unfold woS; rw [if_pos hv]
    rw [← hS, hA]; exact ⟨⟨rfl, rfl, rfl, rfl, rfl, rfl, rfl, rfl, rfl, rfl, rfl, rfl, rfl, rfl, rfl, rfl, rfl⟩, rfl⟩
  have hkl := (vEnt_small hv).2.2.1.1
  have hstr : ∀ {i}, i < List.length e.2.2.2.2.1 → (List.getD e.2.2.2.2.1 i SetT.dflt).2.2.1.size ≤ 140737488355328 := fun h => (ho.2.2.2.2.1.2 _ (getD_mem (d := SetT.dflt) h)).2.2.1
  refine si_accN 6 SetT (filtN e.2.2.2.2.1 v) (fun i => [(7, rI i)]) (List.length e.2.2.2.2.1) (fun _ => True) rfl (by simp) (by simp [filtN]) rfl (fun i => rfl) ?_ fun i hi _ => ?_
  · simp (maxSteps := 3000000) only [go_sem, ↓bothG_tt, ↓bothG_tf, ↓bothG_ft, ↓bothG_ff, ↓reduceIte, ↓reduceDIte, reduceCtorEq, Nat.reduceAdd, Nat.reduceSub, Nat.reduceLeDiff, Nat.reduceLT, Nat.reduceEqDiff, Nat.reduceBEq, Nat.reduceMul, Int.reduceToNat, Int.reduceEq, Int.reduceLT, Int.reduceLE] <;> try simp only [bothG_t, bothG_f, decide_eq_true_eq, decide_eq_false_iff_not, Bool.not_eq_true', Bool.not_eq_false', Int.ofNat_lt, Int.ofNat_le]
  have hwr : IntKind.i64.wrap ((i : Int) + 1) = ((i + 1 : Nat) : Int) := wrap_succ (by omega)
  have hln := filtN_le e.2.2.2.2.1 v i
  refine run_sound mixed 600 _ ?_
  simp (maxSteps := 3000000) only [go_sem, ↓bothG_tt, ↓bothG_tf, ↓bothG_ft, ↓bothG_ff, ↓reduceIte, ↓reduceDIte, reduceCtorEq, Nat.reduceAdd, Nat.reduceSub, Nat.reduceLeDiff, Nat.reduceLT, Nat.reduceEqDiff, Nat.reduceBEq, Nat.reduceMul, Int.reduceToNat, Int.reduceEq, Int.reduceLT, Int.reduceLE] <;> try simp only [bothG_t, bothG_f, decide_eq_true_eq, decide_eq_false_iff_not, Bool.not_eq_true', Bool.not_eq_false', Int.ofNat_lt, Int.ofNat_le]
  refine ⟨fun hlt => ⟨⟨by omega, hlt⟩, fun hne => ?_, fun he => ?_⟩, fun hge => ?_⟩
  · have hst := filtN_succ (v := v) hlt
    rw [if_neg (by simp only [verAt, decide_eq_true_eq]; exact hne)] at hst
    refine ⟨⟨by omega, hlt⟩, hstr hlt, ⟨by omega, by omega⟩, acc_next [_, _] [] hlt trivial (by rw [hst]; rfl) ?_⟩
    simp (maxSteps := 3000000) only [hwr, hst, List.length_append, go_sem, ↓bothG_tt, ↓bothG_tf, ↓bothG_ft, ↓bothG_ff, ↓reduceIte, ↓reduceDIte, reduceCtorEq, Nat.reduceAdd, Nat.reduceSub, Nat.reduceLeDiff, Nat.reduceLT, Nat.reduceEqDiff, Nat.reduceBEq, Nat.reduceMul, Int.reduceToNat, Int.reduceEq, Int.reduceLT, Int.reduceLE] <;> try simp only [bothG_t, bothG_f, decide_eq_true_eq, decide_eq_false_iff_not, Bool.not_eq_true', Bool.not_eq_false', Int.ofNat_lt, Int.ofNat_le]
  · have hst := filtN_succ (v := v) hlt
    rw [if_pos (by simp only [verAt, decide_eq_true_eq]; exact he)] at hst
    refine acc_next [] [] hlt trivial (by rw [hst]; rfl) ?_
    simp (maxSteps := 3000000) only [hwr, hst, go_sem, ↓bothG_tt, ↓bothG_tf, ↓bothG_ft, ↓bothG_ff, ↓reduceIte, ↓reduceDIte, reduceCtorEq, Nat.reduceAdd, Nat.reduceSub, Nat.reduceLeDiff, Nat.reduceLT, Nat.reduceEqDiff, Nat.reduceBEq, Nat.reduceMul, Int.reduceToNat, Int.reduceEq, Int.reduceLT, Int.reduceLE] <;> try simp only [bothG_t, bothG_f, decide_eq_true_eq, decide_eq_false_iff_not, Bool.not_eq_true', Bool.not_eq_false', Int.ofNat_lt, Int.ofNat_le]
  · obtain rfl : i = List.length e.2.2.2.2.1 := by omega
    have hord := (vEnt_keys hv).2
    cases hf : firstN (keysOf e).length (verAt (keysOf e) v) with
    | none =>
      have hfn : filtN e.2.2.2.2.1 v (List.length e.2.2.2.2.1) = e.2.2.2.2.1 := filt_none hf
      have hA : woS e v = (EntT.dflt, 9) := by unfold woS; rw [if_neg (by simp [hv]), hf]
      rw [hfn]
      refine ⟨fun _ => ?_, fun h => absurd rfl h⟩
      rw [← hS, hA]; exact ⟨⟨rfl, rfl, rfl, rfl, rfl, rfl, rfl, rfl, rfl, rfl, rfl, rfl, rfl, rfl, rfl, rfl, rfl⟩, rfl⟩
    | some i0 =>
      have hfs : filtN e.2.2.2.2.1 v (List.length e.2.2.2.2.1) = List.take i0 e.2.2.2.2.1 ++ List.drop (i0 + 1) e.2.2.2.2.1 := filt_some hord hf
      have hilt : i0 < List.length e.2.2.2.2.1 := (firstN_spec hf).1
      have hA : woS e v = (withKeys e ((keysOf e).take i0 ++ (keysOf e).drop (i0 + 1)), 0) := by unfold woS; rw [if_neg (by simp [hv]), hf]
      have hlen : (List.take i0 e.2.2.2.2.1 ++ List.drop (i0 + 1) e.2.2.2.2.1).length + 1 = List.length e.2.2.2.2.1 := by simp only [List.length_append, List.length_take, List.length_drop]; omega
      rw [hfs]
      refine ⟨fun h => absurd h (by omega), fun _ => ⟨⟨Nat.le_refl _, by omega⟩, ?_⟩⟩
      rw [List.take_of_length_le (Nat.le_refl _), ← hS, hA]; exact ⟨⟨rfl, rfl, rfl, rfl, rfl, rfl, rfl, rfl, rfl, rfl, rfl, rfl, rfl, rfl, rfl, rfl, rfl⟩, rfl⟩
def selAt (l : List KSet) (v : Int) (j : Nat) : Bool := decide ((l.getD j SetT.dflt).1 = v) || (decide (v = 0) && decide (j = 0))
def noKey (l : List KSet) (v p : Int) (j : Nat) : Bool := !(selAt l v j && (firstN (l.getD j SetT.dflt).2.1.length (proAt (l.getD j SetT.dflt).2.1 p)).isSome)
theorem rfind_c (e : Ent) (v p : Int) (ho : EntT.ok e) (ha : 0 ≤ e.2.2.1 ∧ e.2.2.1 ≤ 4294967295) : PC Tryz.prog 20 [.agg (EntT.cells e), rI v, rI p] (.tup [.agg (KeyT.cells (findS e v p).1), rI (findS e v p).2]) := by
  generalize hS : findS e v p = S at *
  have hval := rvalid_c e ho ha
  refine pc_seal rfl rfl ?_
  refine vc_fi fi20 (run_sound mixed 600 _ ?_)
  simp (maxSteps := 3000000) only [ir20, go_sem, ↓bothG_tt, ↓bothG_tf, ↓bothG_ft, ↓bothG_ff, ↓reduceIte, ↓reduceDIte, reduceCtorEq, Nat.reduceAdd, Nat.reduceSub, Nat.reduceLeDiff, Nat.reduceLT, Nat.reduceEqDiff, Nat.reduceBEq, Nat.reduceMul, Int.reduceToNat, Int.reduceEq, Int.reduceLT, Int.reduceLE] <;> try simp only [bothG_t, bothG_f, decide_eq_true_eq, decide_eq_false_iff_not, Bool.not_eq_true', Bool.not_eq_false', Int.ofNat_lt, Int.ofNat_le]
  refine callI_pure hval ?_
  refine run_sound mixed 600 _ ?_
  simp (maxSteps := 3000000) only [go_sem, ↓bothG_tt, ↓bothG_tf, ↓bothG_ft, ↓bothG_ff, ↓reduceIte, ↓reduceDIte, reduceCtorEq, Nat.reduceAdd, Nat.reduceSub, Nat.reduceLeDiff, Nat.reduceLT, Nat.reduceEqDiff, Nat.reduceBEq, Nat.reduceMul, Int.reduceToNat, Int.reduceEq, Int.reduceLT, Int.reduceLE] <;> try simp only [bothG_t, bothG_f, decide_eq_true_eq, decide_eq_false_iff_not, Bool.not_eq_true', Bool.not_eq_false', Int.ofNat_lt, Int.ofNat_le]
  refine ⟨fun hv => ⟨fun hv0 => ⟨fun hp0 => ?_, fun hp0 => ?_⟩, fun hv0 => ?_⟩, fun hv => ?_⟩
  · rw [← hS]; unfold findS; rw [if_pos (.inr (.inr hp0))]; exact ⟨⟨rfl, rfl, rfl⟩, rfl⟩
  rotate_left
  · rw [← hS]; unfold findS; rw [if_pos (.inr (.inl hv0))]; exact ⟨⟨rfl, rfl, rfl⟩, rfl⟩
  · rw [← hS]; unfold findS; rw [if_pos (.inl hv)]; exact ⟨⟨rfl, rfl, rfl⟩, rfl⟩
  have hkl := (vEnt_small hv).2.2.1
  have hord := (vEnt_keys hv).2
  have hF : findS e v p = match idxS (keysOf e) v with
    | none => (KeyT.dflt, 9)
    | some i => findK (setAt (keysOf e) i).2.1 p := by
    unfold findS
    rw [if_neg (by rintro (h | h | h) <;> simp_all)]
    cases idxS (keysOf e) v <;> rfl
  refine si_cntD (fun i => [(8, .raw (.int .i64 ((i : Nat) : Int)))]) (List.length e.2.2.2.2.1) (fun j => (noKey e.2.2.2.2.1 v p) j = true) (by first | decide | simp) (fun i => rfl) ?_ fun i hi hall => ?_
  · simp (maxSteps := 3000000) only [go_sem, ↓bothG_tt, ↓bothG_tf, ↓bothG_ft, ↓bothG_ff, ↓reduceIte, ↓reduceDIte, reduceCtorEq, Nat.reduceAdd, Nat.reduceSub, Nat.reduceLeDiff, Nat.reduceLT, Nat.reduceEqDiff, Nat.reduceBEq, Nat.reduceMul, Int.reduceToNat, Int.reduceEq, Int.reduceLT, Int.reduceLE] <;> try simp only [bothG_t, bothG_f, decide_eq_true_eq, decide_eq_false_iff_not, Bool.not_eq_true', Bool.not_eq_false', Int.ofNat_lt, Int.ofNat_le]
    all_goals (try rfl)
  have hwr : IntKind.i64.wrap ((i : Int) + 1) = ((i + 1 : Nat) : Int) := wrap_succ (by omega)
  refine run_sound mixed 600 _ ?_
  simp (maxSteps := 3000000) only [go_sem, ↓bothG_tt, ↓bothG_tf, ↓bothG_ft, ↓bothG_ff, ↓reduceIte, ↓reduceDIte, reduceCtorEq, Nat.reduceAdd, Nat.reduceSub, Nat.reduceLeDiff, Nat.reduceLT, Nat.reduceEqDiff, Nat.reduceBEq, Nat.reduceMul, Int.reduceToNat, Int.reduceEq, Int.reduceLT, Int.reduceLE] <;> try simp only [bothG_t, bothG_f, decide_eq_true_eq, decide_eq_false_iff_not, Bool.not_eq_true', Bool.not_eq_false', Int.ofNat_lt, Int.ofNat_le]
  have bad : i < (List.length e.2.2.2.2.1) → (noKey e.2.2.2.2.1 v p) i = false → allN (List.length e.2.2.2.2.1) (noKey e.2.2.2.2.1 v p) = false := fun hlt hv => allN_false hlt hv
  have fin : ¬ i < (List.length e.2.2.2.2.1) → allN (List.length e.2.2.2.2.1) (noKey e.2.2.2.2.1 v p) = true := fun h => allN_true fun j hj => hall j (by omega)
  try dsimp only at bad fin hall
  have hpos1 : ∀ {j}, j < List.length e.2.2.2.2.1 → 1 ≤ (List.getD e.2.2.2.2.1 j SetT.dflt).1 := fun hj => by
    have h := hv
    simp only [vEnt, vKeys, Bool.and_eq_true, List.all_eq_true] at h
    have := h.2.2.2.1.1.2 _ (getD_mem (d := SetT.dflt) hj)
    simp only [vSet, Bool.and_eq_true, decide_eq_true_eq] at this
    exact this.1.1
  have hidx : ∀ {j}, j < List.length e.2.2.2.2.1 → selAt e.2.2.2.2.1 v j = true → idxS (keysOf e) v = some j := fun {j} hj hs => by
    simp only [selAt, Bool.or_eq_true, Bool.and_eq_true, decide_eq_true_eq] at hs
    unfold idxS
    by_cases hvz : v = 0
    · have hj0 : j = 0 := by
        rcases hs with h | h
        · have := hpos1 hj
          rw [h, hvz] at this
          exact absurd this (by decide)
        · exact h.2
      rw [if_pos hvz, if_neg (by show ¬ List.length e.2.2.2.2.1 = 0; omega), hj0]
    · rw [if_neg hvz]
      have hva : verAt e.2.2.2.2.1 v j = true := by
        rcases hs with h | h
        · exact decide_eq_true h
        · exact absurd h.1 hvz
      refine firstN_some hj hva fun k hk => ?_
      cases hb : verAt (keysOf e) v k with
      | false => rfl
      | true => exact absurd (ver_uniq hord (show k < List.length e.2.2.2.2.1 by omega) hj hb hva) (by omega)
  refine ⟨fun hlt => ⟨⟨by omega, hlt⟩, fun hne => ⟨fun hvz => ⟨fun hi0 => ?_, fun hi0 => ?_⟩, fun hvz => ?_⟩, fun he => ?_⟩, fun hge => ?_⟩
  · have hns : selAt e.2.2.2.2.1 v i = false := by
      simp only [selAt, Bool.or_eq_false_iff, Bool.and_eq_false_iff, decide_eq_false_iff_not]
      exact ⟨hne, .inr (by omega)⟩
    refine ⟨hlt, next_all hall (by unfold noKey; rw [hns]; rfl), ⟨[], rfl⟩, ?_⟩
    simp (maxSteps := 3000000) only [hwr, go_sem, ↓bothG_tt, ↓bothG_tf, ↓bothG_ft, ↓bothG_ff, ↓reduceIte, ↓reduceDIte, reduceCtorEq, Nat.reduceAdd, Nat.reduceSub, Nat.reduceLeDiff, Nat.reduceLT, Nat.reduceEqDiff, Nat.reduceBEq, Nat.reduceMul, Int.reduceToNat, Int.reduceEq, Int.reduceLT, Int.reduceLE] <;> try simp only [bothG_t, bothG_f, decide_eq_true_eq, decide_eq_false_iff_not, Bool.not_eq_true', Bool.not_eq_false', Int.ofNat_lt, Int.ofNat_le]
  · have hsel : selAt e.2.2.2.2.1 v i = true := by
      simp only [selAt, Bool.or_eq_true, Bool.and_eq_true, decide_eq_true_eq]
      exact .inr ⟨hvz, by omega⟩
    have hfound : ∀ k, k < (List.getD e.2.2.2.2.1 i SetT.dflt).2.1.length → proAt (List.getD e.2.2.2.2.1 i SetT.dflt).2.1 p k = true → (∀ j, j < k → proAt (List.getD e.2.2.2.2.1 i SetT.dflt).2.1 p j = false) → S = (List.getD (List.getD e.2.2.2.2.1 i SetT.dflt).2.1 k KeyT.dflt, 0) := fun k hk h1 h2 => by
      rw [← hS, hF, hidx hlt hsel]
      show findK (List.getD e.2.2.2.2.1 i SetT.dflt).2.1 p = _
      unfold findK; rw [firstN_some hk h1 h2]
    have hLl := (hkl.2 _ (getD_mem (d := SetT.dflt) hlt)).1
    refine si_cntD (fun k => [(8, .raw (.int .i64 ((i : Nat) : Int))), (9, .raw (.int .i64 ((k : Nat) : Int)))]) ((List.getD e.2.2.2.2.1 i SetT.dflt).2.1.length) (fun j => (fun j => !proAt (List.getD e.2.2.2.2.1 i SetT.dflt).2.1 p j) j = true) (by first | decide | simp) (fun i => rfl) ?_ fun k hik hallk => ?_
    · simp (maxSteps := 3000000) only [go_sem, ↓bothG_tt, ↓bothG_tf, ↓bothG_ft, ↓bothG_ff, ↓reduceIte, ↓reduceDIte, reduceCtorEq, Nat.reduceAdd, Nat.reduceSub, Nat.reduceLeDiff, Nat.reduceLT, Nat.reduceEqDiff, Nat.reduceBEq, Nat.reduceMul, Int.reduceToNat, Int.reduceEq, Int.reduceLT, Int.reduceLE] <;> try simp only [bothG_t, bothG_f, decide_eq_true_eq, decide_eq_false_iff_not, Bool.not_eq_true', Bool.not_eq_false', Int.ofNat_lt, Int.ofNat_le]
      all_goals (try rfl)
    have hwrk : IntKind.i64.wrap ((k : Int) + 1) = ((k + 1 : Nat) : Int) := wrap_succ (by omega)
    refine run_sound mixed 600 _ ?_
    simp (maxSteps := 3000000) only [go_sem, ↓bothG_tt, ↓bothG_tf, ↓bothG_ft, ↓bothG_ff, ↓reduceIte, ↓reduceDIte, reduceCtorEq, Nat.reduceAdd, Nat.reduceSub, Nat.reduceLeDiff, Nat.reduceLT, Nat.reduceEqDiff, Nat.reduceBEq, Nat.reduceMul, Int.reduceToNat, Int.reduceEq, Int.reduceLT, Int.reduceLE] <;> try simp only [bothG_t, bothG_f, decide_eq_true_eq, decide_eq_false_iff_not, Bool.not_eq_true', Bool.not_eq_false', Int.ofNat_lt, Int.ofNat_le]
    have badk : k < ((List.getD e.2.2.2.2.1 i SetT.dflt).2.1.length) → (fun j => !proAt (List.getD e.2.2.2.2.1 i SetT.dflt).2.1 p j) k = false → allN ((List.getD e.2.2.2.2.1 i SetT.dflt).2.1.length) (fun j => !proAt (List.getD e.2.2.2.2.1 i SetT.dflt).2.1 p j) = false := fun hlt hv => allN_false hlt hv
    have fink : ¬ k < ((List.getD e.2.2.2.2.1 i SetT.dflt).2.1.length) → allN ((List.getD e.2.2.2.2.1 i SetT.dflt).2.1.length) (fun j => !proAt (List.getD e.2.2.2.2.1 i SetT.dflt).2.1 p j) = true := fun h => allN_true fun j hj => hallk j (by omega)
    try dsimp only at badk fink hallk
    have hallk' : ∀ j, j < k → proAt (List.getD e.2.2.2.2.1 i SetT.dflt).2.1 p j = false := fun j hj => by simpa using hallk j hj
    refine ⟨⟨by omega, hlt⟩, fun hk => ⟨⟨by omega, hlt⟩, ⟨by omega, hk⟩, fun hne' => ⟨fun hpz => ?_, fun hpz => ?_⟩, fun heq => ?_⟩, fun hge => ?_⟩
    · rw [hfound k hk (by simp only [proAt, Bool.or_eq_true, decide_eq_true_eq]; exact .inl hpz) hallk']
      exact ⟨⟨by omega, hlt⟩, ⟨by omega, hk⟩, ⟨rfl, rfl, rfl⟩, rfl⟩
    · refine ⟨hk, next_all hallk' (by simp only [proAt, Bool.or_eq_false_iff, decide_eq_false_iff_not]; exact ⟨hpz, hne'⟩), ⟨[], rfl⟩, ?_⟩
      simp (maxSteps := 3000000) only [hwrk, go_sem, ↓bothG_tt, ↓bothG_tf, ↓bothG_ft, ↓bothG_ff, ↓reduceIte, ↓reduceDIte, reduceCtorEq, Nat.reduceAdd, Nat.reduceSub, Nat.reduceLeDiff, Nat.reduceLT, Nat.reduceEqDiff, Nat.reduceBEq, Nat.reduceMul, Int.reduceToNat, Int.reduceEq, Int.reduceLT, Int.reduceLE] <;> try simp only [bothG_t, bothG_f, decide_eq_true_eq, decide_eq_false_iff_not, Bool.not_eq_true', Bool.not_eq_false', Int.ofNat_lt, Int.ofNat_le]
    · rw [hfound k hk (by simp only [proAt, Bool.or_eq_true, decide_eq_true_eq]; exact .inr heq) hallk']
      exact ⟨⟨by omega, hlt⟩, ⟨by omega, hk⟩, ⟨rfl, rfl, rfl⟩, rfl⟩
    · refine ⟨hlt, next_all hall ?_, ⟨[], rfl⟩, ?_⟩
      · unfold noKey; rw [hsel, firstN_none (fun j hj => hallk' j (by omega))]; rfl
      · simp (maxSteps := 3000000) only [hwr, go_sem, ↓bothG_tt, ↓bothG_tf, ↓bothG_ft, ↓bothG_ff, ↓reduceIte, ↓reduceDIte, reduceCtorEq, Nat.reduceAdd, Nat.reduceSub, Nat.reduceLeDiff, Nat.reduceLT, Nat.reduceEqDiff, Nat.reduceBEq, Nat.reduceMul, Int.reduceToNat, Int.reduceEq, Int.reduceLT, Int.reduceLE] <;> try simp only [bothG_t, bothG_f, decide_eq_true_eq, decide_eq_false_iff_not, Bool.not_eq_true', Bool.not_eq_false', Int.ofNat_lt, Int.ofNat_le]
  · have hns : selAt e.2.2.2.2.1 v i = false := by
      simp only [selAt, Bool.or_eq_false_iff, Bool.and_eq_false_iff, decide_eq_false_iff_not]
      exact ⟨hne, .inl hvz⟩
    refine ⟨hlt, next_all hall (by unfold noKey; rw [hns]; rfl), ⟨[], rfl⟩, ?_⟩
    simp (maxSteps := 3000000) only [hwr, go_sem, ↓bothG_tt, ↓bothG_tf, ↓bothG_ft, ↓bothG_ff, ↓reduceIte, ↓reduceDIte, reduceCtorEq, Nat.reduceAdd, Nat.reduceSub, Nat.reduceLeDiff, Nat.reduceLT, Nat.reduceEqDiff, Nat.reduceBEq, Nat.reduceMul, Int.reduceToNat, Int.reduceEq, Int.reduceLT, Int.reduceLE] <;> try simp only [bothG_t, bothG_f, decide_eq_true_eq, decide_eq_false_iff_not, Bool.not_eq_true', Bool.not_eq_false', Int.ofNat_lt, Int.ofNat_le]
  · have hsel : selAt e.2.2.2.2.1 v i = true := by
      simp only [selAt, Bool.or_eq_true, Bool.and_eq_true, decide_eq_true_eq]
      exact .inl he
    have hfound : ∀ k, k < (List.getD e.2.2.2.2.1 i SetT.dflt).2.1.length → proAt (List.getD e.2.2.2.2.1 i SetT.dflt).2.1 p k = true → (∀ j, j < k → proAt (List.getD e.2.2.2.2.1 i SetT.dflt).2.1 p j = false) → S = (List.getD (List.getD e.2.2.2.2.1 i SetT.dflt).2.1 k KeyT.dflt, 0) := fun k hk h1 h2 => by
      rw [← hS, hF, hidx hlt hsel]
      show findK (List.getD e.2.2.2.2.1 i SetT.dflt).2.1 p = _
      unfold findK; rw [firstN_some hk h1 h2]
    have hLl := (hkl.2 _ (getD_mem (d := SetT.dflt) hlt)).1
    refine si_cntD (fun k => [(8, .raw (.int .i64 ((i : Nat) : Int))), (9, .raw (.int .i64 ((k : Nat) : Int)))]) ((List.getD e.2.2.2.2.1 i SetT.dflt).2.1.length) (fun j => (fun j => !proAt (List.getD e.2.2.2.2.1 i SetT.dflt).2.1 p j) j = true) (by first | decide | simp) (fun i => rfl) ?_ fun k hik hallk => ?_
    · simp (maxSteps := 3000000) only [go_sem, ↓bothG_tt, ↓bothG_tf, ↓bothG_ft, ↓bothG_ff, ↓reduceIte, ↓reduceDIte, reduceCtorEq, Nat.reduceAdd, Nat.reduceSub, Nat.reduceLeDiff, Nat.reduceLT, Nat.reduceEqDiff, Nat.reduceBEq, Nat.reduceMul, Int.reduceToNat, Int.reduceEq, Int.reduceLT, Int.reduceLE] <;> try simp only [bothG_t, bothG_f, decide_eq_true_eq, decide_eq_false_iff_not, Bool.not_eq_true', Bool.not_eq_false', Int.ofNat_lt, Int.ofNat_le]
      all_goals (try rfl)
    have hwrk : IntKind.i64.wrap ((k : Int) + 1) = ((k + 1 : Nat) : Int) := wrap_succ (by omega)
    refine run_sound mixed 600 _ ?_
    simp (maxSteps := 3000000) only [go_sem, ↓bothG_tt, ↓bothG_tf, ↓bothG_ft, ↓bothG_ff, ↓reduceIte, ↓reduceDIte, reduceCtorEq, Nat.reduceAdd, Nat.reduceSub, Nat.reduceLeDiff, Nat.reduceLT, Nat.reduceEqDiff, Nat.reduceBEq, Nat.reduceMul, Int.reduceToNat, Int.reduceEq, Int.reduceLT, Int.reduceLE] <;> try simp only [bothG_t, bothG_f, decide_eq_true_eq, decide_eq_false_iff_not, Bool.not_eq_true', Bool.not_eq_false', Int.ofNat_lt, Int.ofNat_le]
    have badk : k < ((List.getD e.2.2.2.2.1 i SetT.dflt).2.1.length) → (fun j => !proAt (List.getD e.2.2.2.2.1 i SetT.dflt).2.1 p j) k = false → allN ((List.getD e.2.2.2.2.1 i SetT.dflt).2.1.length) (fun j => !proAt (List.getD e.2.2.2.2.1 i SetT.dflt).2.1 p j) = false := fun hlt hv => allN_false hlt hv
    have fink : ¬ k < ((List.getD e.2.2.2.2.1 i SetT.dflt).2.1.length) → allN ((List.getD e.2.2.2.2.1 i SetT.dflt).2.1.length) (fun j => !proAt (List.getD e.2.2.2.2.1 i SetT.dflt).2.1 p j) = true := fun h => allN_true fun j hj => hallk j (by omega)
    try dsimp only at badk fink hallk
    have hallk' : ∀ j, j < k → proAt (List.getD e.2.2.2.2.1 i SetT.dflt).2.1 p j = false := fun j hj => by simpa using hallk j hj
    refine ⟨⟨by omega, hlt⟩, fun hk => ⟨⟨by omega, hlt⟩, ⟨by omega, hk⟩, fun hne' => ⟨fun hpz => ?_, fun hpz => ?_⟩, fun heq => ?_⟩, fun hge => ?_⟩
    · rw [hfound k hk (by simp only [proAt, Bool.or_eq_true, decide_eq_true_eq]; exact .inl hpz) hallk']
      exact ⟨⟨by omega, hlt⟩, ⟨by omega, hk⟩, ⟨rfl, rfl, rfl⟩, rfl⟩
    · refine ⟨hk, next_all hallk' (by simp only [proAt, Bool.or_eq_false_iff, decide_eq_false_iff_not]; exact ⟨hpz, hne'⟩), ⟨[], rfl⟩, ?_⟩
      simp (maxSteps := 3000000) only [hwrk, go_sem, ↓bothG_tt, ↓bothG_tf, ↓bothG_ft, ↓bothG_ff, ↓reduceIte, ↓reduceDIte, reduceCtorEq, Nat.reduceAdd, Nat.reduceSub, Nat.reduceLeDiff, Nat.reduceLT, Nat.reduceEqDiff, Nat.reduceBEq, Nat.reduceMul, Int.reduceToNat, Int.reduceEq, Int.reduceLT, Int.reduceLE] <;> try simp only [bothG_t, bothG_f, decide_eq_true_eq, decide_eq_false_iff_not, Bool.not_eq_true', Bool.not_eq_false', Int.ofNat_lt, Int.ofNat_le]
    · rw [hfound k hk (by simp only [proAt, Bool.or_eq_true, decide_eq_true_eq]; exact .inr heq) hallk']
      exact ⟨⟨by omega, hlt⟩, ⟨by omega, hk⟩, ⟨rfl, rfl, rfl⟩, rfl⟩
    · refine ⟨hlt, next_all hall ?_, ⟨[], rfl⟩, ?_⟩
      · unfold noKey; rw [hsel, firstN_none (fun j hj => hallk' j (by omega))]; rfl
      · simp (maxSteps := 3000000) only [hwr, go_sem, ↓bothG_tt, ↓bothG_tf, ↓bothG_ft, ↓bothG_ff, ↓reduceIte, ↓reduceDIte, reduceCtorEq, Nat.reduceAdd, Nat.reduceSub, Nat.reduceLeDiff, Nat.reduceLT, Nat.reduceEqDiff, Nat.reduceBEq, Nat.reduceMul, Int.reduceToNat, Int.reduceEq, Int.reduceLT, Int.reduceLE] <;> try simp only [bothG_t, bothG_f, decide_eq_true_eq, decide_eq_false_iff_not, Bool.not_eq_true', Bool.not_eq_false', Int.ofNat_lt, Int.ofNat_le]
  · have hA : findS e v p = (KeyT.dflt, 9) := by
      rw [hF]
      cases hix : idxS (keysOf e) v with
      | none => rfl
      | some j =>
        have hjs : j < List.length e.2.2.2.2.1 ∧ selAt e.2.2.2.2.1 v j = true := by
          unfold idxS at hix
          split at hix
          · rename_i hvz
            split at hix
            · cases hix
            · rename_i hl0
              cases hix
              refine ⟨?_, ?_⟩
              · have : ¬ List.length e.2.2.2.2.1 = 0 := hl0
                omega
              · simp only [selAt, Bool.or_eq_true, Bool.and_eq_true, decide_eq_true_eq]
                exact .inr ⟨hvz, trivial⟩
          · obtain ⟨h1, h2, _⟩ := firstN_spec hix
            refine ⟨h1, ?_⟩
            simp only [selAt, Bool.or_eq_true, decide_eq_true_eq]
            exact .inl (of_decide_eq_true h2)
        have hnk := allN_iff.1 (fin hge) j hjs.1
        unfold noKey at hnk
        rw [hjs.2, Bool.true_and] at hnk
        show findK (List.getD e.2.2.2.2.1 j SetT.dflt).2.1 p = _
        unfold findK
        cases hfk : firstN (List.getD e.2.2.2.2.1 j SetT.dflt).2.1.length (proAt (List.getD e.2.2.2.2.1 j SetT.dflt).2.1 p) with
        | none => rfl
        | some k => rw [hfk] at hnk; cases hnk
    rw [← hS, hA]; exact ⟨⟨rfl, rfl, rfl⟩, rfl⟩
end Go.Proofs.YtddmkgibghohkaaGreatDoor
