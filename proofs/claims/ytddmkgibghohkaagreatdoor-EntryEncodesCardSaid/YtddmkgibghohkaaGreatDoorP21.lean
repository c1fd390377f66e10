/- The plain law: the program and the reference tell the same of entries. -/
import Derived.Test.YtddmkgibghohkaaGreatDoorPRv
set_option linter.unusedSimpArgs false
set_option linter.unusedVariables false
namespace Go.Proofs.YtddmkgibghohkaaGreatDoor
open Go Go.Sx Go.Proofs
set_option maxRecDepth 100000
set_option maxHeartbeats 1000000
set_option linter.unusedSimpArgs false

theorem getD_at {α : Type} {l : List α} {d : α} {j : Nat} (h : j < l.length) : l.getD j d = l[j] := by
 rw [List.getD_eq_getElem?_getD, List.getElem?_eq_getElem h]; rfl
theorem allN_all {α : Type} {l : List α} {d : α} {q : α → Bool} : allN l.length (fun j => q (l.getD j d)) = l.all q := by
 rw [Bool.eq_iff_iff, allN_iff, List.all_eq_true]
 constructor
 · intro h x hx
   obtain ⟨j, hj, rfl⟩ := List.getElem_of_mem hx
   have := h j hj
   rwa [getD_at hj] at this
 · intro h j hj
   exact h _ (getD_mem hj)
theorem nodup_iff {l : List Prin} : l.Nodup ↔ ∀ i, i < l.length → ∀ k, k < i → prinAt l k ≠ prinAt l i := by
 unfold List.Nodup
 rw [List.pairwise_iff_getElem]
 constructor
 · intro h i hi k hk
   unfold prinAt
   rw [getD_at hi, getD_at (show k < l.length by omega)]
   exact h k i (by omega) hi hk
 · intro h i j hi hj hij
   have := h j hj i hij
   unfold prinAt at this
   rwa [getD_at hi, getD_at hj] at this
theorem diff_eq (l : List Prin) : rDiff l = vPrins l := by
 rw [Bool.eq_iff_iff]
 unfold rDiff vPrins disB
 simp only [Bool.and_eq_true, decide_eq_true_eq, allN_iff, difAt, neAt, Bool.not_eq_true', decide_eq_false_iff_not]
 rw [← allN_all (d := PrinT.dflt), allN_iff]
 constructor
 · rintro ⟨h1, h2⟩
   exact ⟨⟨h2, fun j hj => (h1 j hj).1⟩, nodup_iff.2 fun i hi k hk => (h1 i hi).2 k hk⟩
 · rintro ⟨⟨h2, h3⟩, h4⟩
   exact ⟨fun j hj => ⟨h3 j hj, fun k hk => nodup_iff.1 h4 j hj k hk⟩, h2⟩
theorem names_eq (e : Ent) : vNames e = (vPrin e.1 && (rDiff e.2.1 && allN e.2.1.length (aliAt e.2.1 e.1))) := by
 rw [diff_eq, Bool.eq_iff_iff]
 unfold vNames vPrins disB aliAt
 simp only [Bool.and_eq_true, decide_eq_true_eq, List.nodup_cons, List.all_eq_true, vAlias, allN_iff, Bool.not_eq_true', decide_eq_false_iff_not]
 constructor
 · rintro ⟨h1, ⟨h2, h3⟩, h4, h5⟩
   refine ⟨h1, ⟨⟨h2, fun x hx => (h3 x hx).1⟩, h5⟩, fun j hj => ⟨(h3 _ (getD_mem hj)).2, fun he => h4 (he ▸ getD_mem hj)⟩⟩
 · rintro ⟨h1, ⟨⟨h2, h3⟩, h5⟩, h6⟩
   refine ⟨h1, ⟨h2, fun x hx => ⟨h3 x hx, ?_⟩⟩, fun hm => ?_, h5⟩
   · obtain ⟨j, hj, rfl⟩ := List.getElem_of_mem hx
     have := (h6 j hj).1
     rwa [getD_at hj] at this
   · obtain ⟨j, hj, he⟩ := List.getElem_of_mem hm
     refine (h6 j hj).2 ?_
     rw [getD_at hj, he]
theorem keys_eq (l : List KSet) (m : Int) : ((decide ((l.length : Int) ≤ 16) && l.all (vSet · m)) && ord (t := SetT) sOrd l) = (allN l.length (setOk l m) && decide ((l.length : Int) ≤ 16)) := by
 rw [Bool.eq_iff_iff]
 unfold ord setOk sOrd
 simp only [Bool.and_eq_true, Bool.or_eq_true, decide_eq_true_eq, List.all_eq_true, allN_iff]
 constructor
 · rintro ⟨⟨h1, h2⟩, h3⟩
   refine ⟨fun j hj => ⟨h2 _ (getD_mem hj), ?_⟩, h1⟩
   by_cases h0 : j = 0
   · exact .inl h0
   · have := h3 (j - 1) (by omega)
     rw [Nat.sub_add_cancel (by omega)] at this
     exact .inr this
 · rintro ⟨h1, h2⟩
   refine ⟨⟨h2, fun x hx => ?_⟩, fun j hj => ?_⟩
   · obtain ⟨j, hj, rfl⟩ := List.getElem_of_mem hx
     have := (h1 j hj).1
     rwa [getD_at hj] at this
   · have := (h1 (j + 1) (by omega)).2
     rcases this with h | h
     · omega
     · simpa using h
theorem his_eq (l : List (List UInt8)) : allN l.length (hisOk l) = l.all lenB := by
 rw [← allN_all (d := (Ty.slice .u8).dflt)]; rfl
theorem u32wrap {n : Nat} (h : n < 4294967296) : IntKind.u32.wrap (n : Int) = n := by
 simp [IntKind.wrap, IntKind.bits, IntKind.signed]; omega
theorem and_zero {n : Nat} (hn : n < 4294967296) : (BitVec.ofNat 32 n &&& ~~~(1023#32)) = 0#32 ↔ n < 1024 := by
 have hbit : ∀ i, (BitVec.ofNat 32 n &&& ~~~(1023#32)).getLsbD i = (n.testBit i && (decide (i < 32) && !decide (i < 10))) := fun i => by
  simp only [BitVec.getLsbD_and, BitVec.getLsbD_not, BitVec.getLsbD_ofNat]
  rw [show (1023 : Nat) = 2 ^ 10 - 1 from rfl, Nat.testBit_two_pow_sub_one]
  by_cases h : i < 32 <;> simp [h]
 constructor
 · intro hz
   have h0 : n / 2 ^ 10 = 0 := by
    apply Nat.eq_of_testBit_eq
    intro i
    rw [Nat.testBit_div_two_pow, Nat.zero_testBit]
    by_cases hi : i + 10 < 32
    · have hb := hbit (i + 10)
      rw [hz, BitVec.getLsbD_zero] at hb
      simp only [hi, decide_true, Bool.true_and, show ¬ (i + 10 < 10) from by omega, decide_false, Bool.not_false, Bool.and_true] at hb
      exact hb.symm
    · exact Nat.testBit_lt_two_pow (Nat.lt_of_lt_of_le hn (Nat.pow_le_pow_right (n := 2) (by decide) (show 32 ≤ i + 10 by omega)))
   omega
 · intro h
   apply BitVec.eq_of_getLsbD_eq
   intro i _
   rw [hbit, BitVec.getLsbD_zero]
   by_cases hi : i < 10
   · simp [hi]
   · have : n.testBit i = false := Nat.testBit_lt_two_pow (Nat.lt_of_lt_of_le h (Nat.pow_le_pow_right (n := 2) (by decide) (show 10 ≤ i by omega)))
     simp [this]
theorem or_all {n : Nat} : n ||| 1023 = 1023 ↔ n < 1024 := by
 constructor
 · intro h
   have := Nat.left_le_or (n := n) (m := 1023)
   omega
 · intro h
   have h1 : n ||| 1023 < 2 ^ 10 := Nat.or_lt_two_pow h (by decide)
   have h2 := Nat.right_le_or (n := n) (m := 1023)
   omega
theorem attr_eq {a : Int} (h : 0 ≤ a ∧ a ≤ 4294967295) : attrB a = attrR a := by
 obtain ⟨n, rfl⟩ : ∃ n : Nat, a = n := ⟨a.toNat, by omega⟩
 have hn : n < 4294967296 := by omega
 unfold attrB attrR
 rw [wrapi (n := (n : Int)) (by omega), decide_eq_decide]
 rw [u32wrap (BitVec.isLt _)]
 have e2 : (BitVec.ofInt 64 (n : Int) ||| BitVec.ofInt 64 1023).toNat = n ||| 1023 := by
  rw [BitVec.ofInt_natCast, BitVec.toNat_or, BitVec.toNat_ofNat, Nat.mod_eq_of_lt (by omega)]
  rfl
 have e3 : n ||| 1023 < 2 ^ 32 := Nat.or_lt_two_pow (by omega) (by decide)
 rw [e2, wrapi (by omega), BitVec.ofInt_natCast]
 have e4 : BitVec.ofInt 32 1023 = 1023#32 := by decide
 rw [e4]
 have h1 := and_zero hn
 have h2 := or_all (n := n)
 rw [← BitVec.toNat_inj, BitVec.toNat_zero] at h1
 omega
theorem rEnt_eq (e : Ent) (ha : 0 ≤ e.2.2.1 ∧ e.2.2.1 ≤ 4294967295) : rEnt e = vEnt e := by
 unfold rEnt vEnt
 rw [names_eq, attr_eq ha, vKeys, keys_eq, his_eq, diff_eq, diff_eq, diff_eq]
 unfold vText inR
 simp only [List.all_cons, List.all_nil, inB, Bool.and_true]
 rw [Bool.eq_iff_iff]
 simp only [Bool.and_eq_true]
 constructor
 · rintro ⟨h1, h2, h3, h4, h5, h6, h7, h8, h9, h10, h11, h12, h13, h14, h15, h16, h17, h18, h19, h20⟩
   exact ⟨⟨h1, h2, h5⟩, h8, h9, ⟨h6, h10⟩, ⟨h12, h11⟩, ⟨h14, h15, h19, h20⟩, ⟨h16, h17⟩, h18, h3, h4, h13, h7⟩
 · rintro ⟨⟨h1, h2, h5⟩, h8, h9, ⟨h6, h10⟩, ⟨h12, h11⟩, ⟨h14, h15, h19, h20⟩, ⟨h16, h17⟩, h18, h3, h4, h13, h7⟩
   exact ⟨h1, h2, h3, h4, h5, h6, h7, h8, h9, h10, h11, h12, h13, h14, h15, h16, h17, h18, h19, h20⟩
theorem rvalid_c (e : Ent) (ho : EntT.ok e) (ha : 0 ≤ e.2.2.1 ∧ e.2.2.1 ≤ 4294967295) : PC Tryz.prog 24 [.agg (EntT.cells e)] (rB (vEnt e)) := by
 have := rvalid_r e ho
 rwa [rEnt_eq e ha] at this
end Go.Proofs.YtddmkgibghohkaaGreatDoor
/- Contracts: the reference's Offer, SameOffer, Add. -/
namespace Go.Proofs.YtddmkgibghohkaaGreatDoor
open Go Go.Sx Go.Proofs
set_option maxRecDepth 100000
set_option maxHeartbeats 4000000
set_option linter.unusedSimpArgs false

theorem salt_eq (a b : Salt) : (decide (a.1 = b.1) && (decide (a.2.1 = b.2.1) && decide (a.2.2 = b.2.2))) = decide (a = b) := by
 obtain ⟨a1, a2, a3⟩ := a
 obtain ⟨b1, b2, b3⟩ := b
 rw [Bool.eq_iff_iff]
 simp
theorem rsameOffer_c (l l' : List Salt) (hl : l.length ≤ 1125899906842624) : PC Tryz.prog 25 [.isl SaltT l, .isl SaltT l'] (rB (decide (l = l'))) := by
 have key := sameN l l' SaltT.dflt
 refine pc_of rfl rfl ?_
 refine runE mixed fi25 ?_
 refine ⟨fun h => ?_, fun h => ?_⟩
 · rw [decide_eq_false (fun e => h (by rw [e]))]
 have hll : l.length = l'.length := by omega
 refine si_cntD (fun i => [(5, .raw (.int .i64 ((i : Nat) : Int)))]) (l.length) (fun j => (eqAt l l' SaltT.dflt) j = true) (by first | decide | simp) (fun i => rfl) ?_ fun i hi hall => ?_
 · (with_reducible refine sxE ?_ <;> try exact True.intro)
   all_goals (try rfl)
 have hwr : IntKind.i64.wrap ((i : Int) + 1) = ((i + 1 : Nat) : Int) := wrap_succ (by omega)
 refine goE mixed ?_
 have bad : i < (l.length) → (eqAt l l' SaltT.dflt) i = false → allN (l.length) (eqAt l l' SaltT.dflt) = false := fun hlt hv => allN_false hlt hv
 have fin : ¬ i < (l.length) → allN (l.length) (eqAt l l' SaltT.dflt) = true := fun h => allN_true fun j hj => hall j (by omega)
 try dsimp only at bad fin hall
 refine ⟨fun hlt => ⟨⟨by omega, hlt⟩, ⟨by omega, by omega⟩, fun hn => ?_, fun he => ?_⟩, fun hge => ?_⟩
 · have := bad hlt ((salt_eq _ _).symm.trans hn)
   rw [decide_eq_false (fun e => by have h1 := (key.1 e).2; rw [this] at h1; cases h1)]
 · refine ⟨hlt, next_all hall ((salt_eq _ _).symm.trans he), ⟨[], rfl⟩, ?_⟩
   with_reducible refine sx1 hwr ?_; trivial
 · rw [decide_eq_true (key.2 ⟨hll, fin hge⟩)]
end Go.Proofs.YtddmkgibghohkaaGreatDoor
/- Contracts: the reference's Without, Find. -/
namespace Go.Proofs.YtddmkgibghohkaaGreatDoor
open Go Go.Sx Go.Proofs
set_option maxRecDepth 100000
set_option maxHeartbeats 4000000
set_option linter.unusedSimpArgs false

end Go.Proofs.YtddmkgibghohkaaGreatDoor
/- Contracts: the law's own functions. -/
namespace Go.Proofs.YtddmkgibghohkaaGreatDoor
open Go Go.Sx Go.Proofs
set_option maxRecDepth 100000
set_option maxHeartbeats 4000000
set_option linter.unusedSimpArgs false

theorem lnum_c (n : Int) : PC Tryz.prog 18 [rI n] (rI n) := by
 refine pc_of rfl rfl ?_
 refine runE mixed fi18 ?_; trivial
theorem repeat_c (c : UInt8) (m : Int) (hm : m = c.toNat) (n : Nat) (hn : n ≤ 1048576) : PC Tryz.prog 111 [.raw (.int .u8 m), rI n] (.isl .u8 (List.replicate n c)) := by
 subst hm
 refine pc_seal rfl rfl ?_
 refine runE mixed fi111 ?_
 refine si_accN 5 .u8 (fun i => List.replicate i c) (fun i => [(6, rI i)]) n (fun _ => True) rfl (by simp) (by simp) rfl (fun i => rfl) ?_ fun i hi _ => ?_
 · with_reducible refine sxE ?_; trivial
 have hwr : IntKind.i64.wrap ((i : Int) + 1) = ((i + 1 : Nat) : Int) := wrap_succ (by omega)
 have hst : List.replicate (i + 1) c = List.replicate i c ++ [c] := List.replicate_succ'
 refine run_sound mixed 600 _ ?_
 simp (maxSteps := 3000000) only [List.length_replicate, go_sem, ↓zA, ↓reduceIte, ↓reduceDIte, reduceCtorEq, Nat.reduceAdd, Nat.reduceSub, Nat.reduceLeDiff, Nat.reduceLT, Nat.reduceEqDiff, Nat.reduceBEq, Nat.reduceMul, Int.reduceToNat, Int.reduceEq, Int.reduceLT, Int.reduceLE] <;> try simp only [zB]
 refine ⟨fun hlt => ?_, fun hge => ?_⟩
 · refine ⟨tag_ob c, ⟨by omega, by omega⟩, acc_next [.dead, .row .u8 [c]] [] hlt trivial (by rw [hst]; simp) ?_⟩
   simp (maxSteps := 3000000) only [hwr, hst, List.length_append, List.length_replicate, go_sem, ↓zA, ↓reduceIte, ↓reduceDIte, reduceCtorEq, Nat.reduceAdd, Nat.reduceSub, Nat.reduceLeDiff, Nat.reduceLT, Nat.reduceEqDiff, Nat.reduceBEq, Nat.reduceMul, Int.reduceToNat, Int.reduceEq, Int.reduceLT, Int.reduceLE] <;> try simp only [zB]
 · obtain rfl : i = n := by omega
   refine ⟨⟨Nat.le_refl _, by omega⟩, List.take_of_length_le (by simp)⟩
def set1 : KSet := (1, [(1, 1, List.replicate 16 1)], ⟨#[82, 97]⟩, 4, 10)
def set2 : KSet := (2, [(2, 2, List.replicate 32 2)], ⟨#[]⟩, 0, 20)
theorem first_c : PC Tryz.prog 43 [] (.agg (SetT.cells set1)) := by
 refine pc_seal rfl rfl ?_
 refine runE mixed fi43 ?_
 refine callI_pure (repeat_c 1 1 rfl 16 (by decide)) ?_
 refine run_sound mixed 600 _ ?_
 simp (maxSteps := 3000000) only [set1, go_sem, ↓zA, ↓reduceIte, ↓reduceDIte, reduceCtorEq, Nat.reduceAdd, Nat.reduceSub, Nat.reduceLeDiff, Nat.reduceLT, Nat.reduceEqDiff, Nat.reduceBEq, Nat.reduceMul, Int.reduceToNat, Int.reduceEq, Int.reduceLT, Int.reduceLE] <;> try simp only [zB]
theorem second_c : PC Tryz.prog 44 [] (.agg (SetT.cells set2)) := by
 refine pc_seal rfl rfl ?_
 refine runE mixed fi44 ?_
 refine callI_pure (repeat_c 2 2 rfl 32 (by decide)) ?_
 refine run_sound mixed 600 _ ?_
 simp (maxSteps := 3000000) only [set2, go_sem, ↓zA, ↓reduceIte, ↓reduceDIte, reduceCtorEq, Nat.reduceAdd, Nat.reduceSub, Nat.reduceLeDiff, Nat.reduceLT, Nat.reduceEqDiff, Nat.reduceBEq, Nat.reduceMul, Int.reduceToNat, Int.reduceEq, Int.reduceLT, Int.reduceLE] <;> try simp only [zB]
theorem finds_c (e : Ent) (v p w n : Int) (ho : EntT.ok e) : PC Tryz.prog 45 [.agg (EntT.cells e), rI v, rI p, rI w, rI n] (rB (decide (((findS e v p).1.2.2.length : Int) = w) && decide ((findS e v p).2 = n))) := by
 refine pc_of rfl rfl ?_
 refine runE mixed fi45 ?_
 refine callI_pure (efind_c e v p ho) ?_
 refine goE mixed ?_
 refine ⟨fun h => callI_pure (lnum_c _) ?_, fun h => ?_⟩
 · refine goE mixed ?_
   rw [decide_eq_true h]; rfl
 · rw [decide_eq_false h]; rfl
def ent1 : Ent := (([⟨#[97]⟩], ⟨#[82]⟩), [], 0, 0, [set1], ⟨#[]⟩, 0, 0, 0, 0, 0, 0, 0, [], [], [])
def ent2 : Ent := (([⟨#[97]⟩], ⟨#[82]⟩), [], 0, 0, [set2, set1], ⟨#[]⟩, 0, 0, 0, 0, 0, 0, 0, [], [], [])
theorem okstr (s : ByteArray) (h : s.size ≤ 140737488355328) : Ty.str.ok s := h
theorem okset1 : SetT.ok set1 := by
 refine ⟨trivial, ⟨by decide, fun x hx => ?_⟩, okstr _ (by decide), trivial, trivial⟩
 simp [set1] at hx; subst hx; exact ⟨trivial, trivial, by simp, fun _ _ => trivial⟩
theorem okset2 : SetT.ok set2 := by
 refine ⟨trivial, ⟨by decide, fun x hx => ?_⟩, okstr _ (by decide), trivial, trivial⟩
 simp [set2] at hx; subst hx; exact ⟨trivial, trivial, by simp, fun _ _ => trivial⟩
theorem okprin1 : PrinT.ok ([⟨#[97]⟩], ⟨#[82]⟩) := by
 refine ⟨⟨by decide, fun x hx => ?_⟩, okstr _ (by decide)⟩
 simp at hx; subst hx; exact okstr _ (by decide)
theorem okent1 : EntT.ok ent1 :=
 ⟨okprin1, ⟨by decide, fun x hx => by cases hx⟩, trivial, trivial, ⟨by decide, fun x hx => by simp [ent1] at hx; subst hx; exact okset1⟩, okstr _ (by decide), trivial, trivial, trivial, trivial, trivial, trivial, trivial, ⟨by decide, fun x hx => by cases hx⟩, ⟨by decide, fun x hx => by cases hx⟩, ⟨by decide, fun x hx => by cases hx⟩⟩
theorem okent2 : EntT.ok ent2 :=
 ⟨okprin1, ⟨by decide, fun x hx => by cases hx⟩, trivial, trivial, ⟨by decide, fun x hx => by simp [ent2] at hx; rcases hx with rfl | rfl; exact okset2; exact okset1⟩, okstr _ (by decide), trivial, trivial, trivial, trivial, trivial, trivial, trivial, ⟨by decide, fun x hx => by cases hx⟩, ⟨by decide, fun x hx => by cases hx⟩, ⟨by decide, fun x hx => by cases hx⟩⟩
theorem vent1 : vEnt ent1 = true := by decide +kernel
theorem vent2 : vEnt ent2 = true := by decide +kernel
theorem add12 : addS ent1 set2 = (ent2, 0) := by
 unfold addS
 rw [if_neg (by rw [vent1]; decide), if_neg (by decide +kernel), if_neg (by decide +kernel), if_neg (by decide +kernel)]
 rfl
theorem add21 : addS ent2 set1 = (EntT.dflt, 11) := by
 unfold addS
 rw [if_neg (by rw [vent2]; decide), if_pos (by decide +kernel)]
theorem wo2 : woS ent2 2 = (ent1, 0) := by
 unfold woS
 rw [if_neg (by rw [vent2]; decide), show firstN (keysOf ent2).length (verAt (keysOf ent2) 2) = some 0 by decide +kernel]
 rfl
theorem of1 : ofS ent1 = ([(1, ⟨#[82, 97]⟩, 4)], 0) := by
 unfold ofS
 rw [if_neg (by rw [vent1]; decide), if_neg (by decide +kernel)]
 rfl
theorem enc1 : (if vEnt ent1 then entS ent1 else []).length = 95 := by rw [if_pos vent1]; decide +kernel
theorem voff1 : vOffer [(1, ⟨#[82, 97]⟩, 4)] = true := by decide +kernel
theorem off1 : offerS [(1, ⟨#[82, 97]⟩, 4)] = [48, 18, 48, 16, 160, 3, 2, 1, 1, 161, 4, 27, 2, 82, 97, 162, 3, 2, 1, 4] := by decide +kernel
theorem fnd1 : findS ent2 0 0 = ((2, 2, List.replicate 32 2), 0) := by
 unfold findS
 rw [if_neg (by rw [vent2]; decide)]
 rfl
theorem fnd2 : findS ent2 1 0 = ((1, 1, List.replicate 16 1), 0) := by
 unfold findS
 rw [if_neg (by rw [vent2]; decide), show idxS (keysOf ent2) 1 = some 1 by decide +kernel]
 rfl
theorem fnd3 : findS ent2 1 2 = (KeyT.dflt, 9) := by
 unfold findS
 rw [if_neg (by rw [vent2]; decide), show idxS (keysOf ent2) 1 = some 1 by decide +kernel]
 show findK _ _ = _
 unfold findK
 rw [show firstN (setAt (keysOf ent2) 1).2.1.length (proAt (setAt (keysOf ent2) 1).2.1 2) = none by decide +kernel]
theorem fnd4 : findS ent2 3 0 = (KeyT.dflt, 9) := by
 unfold findS
 rw [if_neg (by rw [vent2]; decide), show idxS (keysOf ent2) 3 = none by decide +kernel]
end Go.Proofs.YtddmkgibghohkaaGreatDoor
