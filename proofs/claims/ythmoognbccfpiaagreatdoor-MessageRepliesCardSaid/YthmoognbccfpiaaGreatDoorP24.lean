/- The plain law of reading: pre-authentication data, error messages. -/
import Derived.Test.YthmoognbccfpiaaGreatDoorP23
import Derived.Test.YthmoognbccfpiaaGreatDoorP20
import Derived.Test.YthmoognbccfpiaaGreatDoorP19
import Derived.Test.YthmoognbccfpiaaGreatDoorP21
set_option linter.unusedSimpArgs false
set_option linter.unusedVariables false
set_option linter.unusedSectionVars false
namespace Go.Proofs.YthmoognbccfpiaaGreatDoor
open Go Go.Sx Go.Proofs
set_option maxRecDepth 100000
set_option maxHeartbeats 4000000
set_option linter.unusedSimpArgs false

theorem datS_tlv (a : Int) (c : List UInt8) (ha : 0 ≤ a ∧ a ≤ 4611686018427387904) (hc : c.length ≤ 65536) : datS (a, c) = tlv 48 (sufS [intS a, elemS 4 [c]] 0 2) ∧ (sufS [intS a, elemS 4 [c]] 0 2).length ≤ c.length + 40 := by
 have i1 := intS_len a
 obtain ⟨c1, e1, _⟩ := intS_i (v := a) (by omega)
 have e3 : elemS 4 [c] = tlv 4 c := elemS_ok (by omega)
 have w3 := elemS_len 4 [c]
 simp only [List.flatten_cons, List.flatten_nil, List.append_nil] at w3
 have w0 := wrapS_len 160 0 (intS a)
 have w2 := wrapS_len 160 1 (elemS 4 [c])
 have n0 : wrapS 160 0 (intS a) ≠ [] := by rw [show (0 : Int) = ((0 : Nat) : Int) from rfl, wrapS_tlv (by omega) (by omega) (by rw [e1]; exact tlv_ne)]; exact tlv_ne
 have n2 : wrapS 160 1 (elemS 4 [c]) ≠ [] := by rw [show (1 : Int) = ((1 : Nat) : Int) from rfl, wrapS_tlv (by omega) (by omega) (by rw [e3]; exact tlv_ne)]; exact tlv_ne
 have hf : (tagN [intS a, elemS 4 [c]] 2).flatten = sufS [intS a, elemS 4 [c]] 0 2 := sufS_all [intS a, elemS 4 [c]]
 have ht : tagN [intS a, elemS 4 [c]] 2 = [wrapS 160 0 (intS a), wrapS 160 1 (elemS 4 [c])] := by simp [tagN, List.range_succ]
 have hl : (sufS [intS a, elemS 4 [c]] 0 2).length ≤ c.length + 40 := by
  rw [← hf, ht]
  simp only [List.flatten_cons, List.flatten_nil, List.append_nil, List.length_append]
  omega
 refine ⟨?_, hl⟩
 have hfull : allN 2 (fullAt [wrapS 160 0 (intS a), wrapS 160 1 (elemS 4 [c])]) = true := by
  refine allN_true fun j hj => ?_
  match j, hj with
  | 0, _ => exact decide_eq_true n0
  | 1, _ => exact decide_eq_true n2
 show wholeS (tagN [intS a, elemS 4 [c]] 2) = _
 rw [ht]
 unfold wholeS
 rw [show ([wrapS 160 0 (intS a), wrapS 160 1 (elemS 4 [c])] : List (List UInt8)).length = 2 from rfl, if_pos hfull, ← ht, elemS_flat (by rw [hf]; omega), hf]
theorem datP_at (a : Int) (c : List UInt8) (ha : 0 ≤ a ∧ a ≤ 4611686018427387904) (hc : c.length ≤ 65536) (r : List UInt8) : datP (datS (a, c) ++ r) = .ok ((a, c), (datS (a, c)).length) := by
 have i1 := intS_len a
 obtain ⟨c1, e1, _⟩ := intS_i (v := a) (by omega)
 have e3 : elemS 4 [c] = tlv 4 c := elemS_ok (by omega)
 have w3 := elemS_len 4 [c]
 simp only [List.flatten_cons, List.flatten_nil, List.append_nil] at w3
 have hL : ∀ j, (([intS a, elemS 4 [c]] : List (List UInt8)).getD j []).length ≤ 16777215 := fun j => by
  match j with
  | 0 => show (intS a).length ≤ _; omega
  | 1 => show (elemS 4 [c]).length ≤ _; omega
  | j + 2 => exact Nat.zero_le _
 obtain ⟨hS, hin⟩ := datS_tlv a c ha hc
 rw [hS]
 refine inP_tlv (by omega) ?_ r
 have q0 : intP (([intS a, elemS 4 [c]] : List (List UInt8)).getD 0 []) = .ok (a, (([intS a, elemS 4 [c]] : List (List UInt8)).getD 0 []).length) := full (e := intS a) (intP_ok (by omega))
 have q1 : octP (([intS a, elemS 4 [c]] : List (List UInt8)).getD 1 []) = .ok (c, (([intS a, elemS 4 [c]] : List (List UInt8)).getD 1 []).length) := full (e := elemS 4 [c]) (octP_ok (by omega))
 have n0 : ([intS a, elemS 4 [c]] : List (List UInt8)).getD 0 [] ≠ [] := by show intS a ≠ []; rw [e1]; exact tlv_ne
 have n1 : ([intS a, elemS 4 [c]] : List (List UInt8)).getD 1 [] ≠ [] := by show elemS 4 _ ≠ []; rw [e3]; exact tlv_ne
 unfold datIn
 refine bind_suf (n := 0) (k := 1) (need_suf hL (by omega) n0 q0) ?_
 refine bind_suf (n := 1) (k := 0) (need_suf hL (by omega) n1 q1) ?_
 rfl
theorem vPre1_f {p : Pre} (h : vPre1 p = true) : ((0 : Int) ≤ p.1 ∧ p.1 ≤ (2147483647 : Int)) ∧ p.2.length ≤ 16384 := by
 simp only [vPre1, mIn, Bool.and_eq_true, decide_eq_true_eq] at h
 exact ⟨h.1, by omega⟩
theorem vPre_f {l : List Pre} (h : vPre l = true) : l.length ≤ 16 ∧ ∀ p ∈ l, ((0 : Int) ≤ p.1 ∧ p.1 ≤ (2147483647 : Int)) ∧ p.2.length ≤ 16384 := by
 simp only [vPre, Bool.and_eq_true, decide_eq_true_eq] at h
 refine ⟨by omega, fun p hp => ?_⟩
 obtain ⟨j, hj, rfl⟩ := List.getElem_of_mem hp
 have := allN_iff.1 h.2 j hj
 unfold preAt at this
 rw [List.getD_eq_getElem?_getD, List.getElem?_eq_getElem hj] at this
 exact vPre1_f this
theorem dat_ok {p : Pre} (h : ((0 : Int) ≤ p.1 ∧ p.1 ≤ (2147483647 : Int)) ∧ p.2.length ≤ 16384) : datS p ≠ [] ∧ (∀ r, datP (datS p ++ r) = .ok (p, (datS p).length)) ∧ (datS p).length ≤ 16434 := by
 obtain ⟨a, c⟩ := p
 obtain ⟨h1, h2⟩ := h
 have ha : (0 : Int) ≤ a ∧ a ≤ 4611686018427387904 := ⟨h1.1, Int.le_trans h1.2 (by decide)⟩
 dsimp only at h2
 obtain ⟨e, hl⟩ := datS_tlv a c ha (by omega)
 refine ⟨by rw [e]; exact tlv_ne, datP_at a c ha (by omega), ?_⟩
 rw [e, tlv_length]
 have := lenS_len (sufS [intS a, elemS 4 [c]] 0 2).length
 omega
theorem dataS_tlv {l : List Pre} (h : vPre l = true) : dataS l = tlv 48 (l.map datS).flatten ∧ (l.map datS).flatten.length ≤ 16434 * l.length := by
 obtain ⟨h16, hv⟩ := vPre_f h
 have hb : (l.map datS).flatten.length ≤ 16434 * l.length := flat_len datS 16434 l fun x hx => (dat_ok (hv x hx)).2.2
 have hm : mapN (t := PreT) datS l l.length = l.map datS := by unfold mapN; rw [List.take_length]
 refine ⟨?_, hb⟩
 unfold dataS wholeS
 rw [if_pos h16, hm, List.length_map, if_pos, elemS_flat (by omega)]
 refine allN_true fun j hj => decide_eq_true ?_
 rw [List.getD_eq_getElem?_getD, List.getElem?_eq_getElem (by rw [List.length_map]; exact hj), List.getElem_map]
 exact (dat_ok (hv _ (List.getElem_mem hj))).1
theorem dataP_ok {l : List Pre} (h : vPre l = true) (r : List UInt8) : dataP (dataS l ++ r) = .ok (l, (dataS l).length) := by
 obtain ⟨h16, hv⟩ := vPre_f h
 obtain ⟨e, hl⟩ := dataS_tlv h
 rw [e]
 exact inP_tlv (by omega) (listP_ok l 16 h16 fun s hs => ⟨(dat_ok (hv s hs)).1, (dat_ok (hv s hs)).2.1⟩) r
def preO (l : List Pre) : List UInt8 := if l.length = 0 then [] else dataS l
theorem preS_eq (n : Int) (l : List Pre) : preS n l = wrapS 160 n (preO l) := by
 unfold preS optS preO
 by_cases h : l.length = 0
 · rw [if_pos h, decide_eq_false (by omega)]; simp [wrapS]
 · rw [if_neg h, decide_eq_true (by omega)]; rfl
theorem pre_q {l : List Pre} (h : vPre l = true) : (if preO l = [] then l = [] else dataP (preO l) = .ok (l, (preO l).length)) ∧ (preO l).length ≤ 262960 := by
 obtain ⟨h16, hv⟩ := vPre_f h
 obtain ⟨e, hl⟩ := dataS_tlv h
 unfold preO
 by_cases h0 : l.length = 0
 · simp [h0, List.length_eq_zero_iff.1 h0]
 · rw [if_neg h0, if_neg (by rw [e]; exact tlv_ne)]
   refine ⟨full (dataP_ok h), ?_⟩
   rw [e, tlv_length]
   have := lenS_len (l.map datS).flatten.length
   omega
theorem cst_ok {v : Int} (h : 0 ≤ v ∧ v ≤ 4611686018427387904) : cstP v (intS v) = .ok ((), (intS v).length) := by
 unfold cstP
 rw [full (intP_ok h)]
 simp
theorem intS_ne {v : Int} (h : 0 ≤ v ∧ v ≤ 4611686018427387904) : intS v ≠ [] := by
 obtain ⟨c1, e1, _⟩ := intS_i h
 rw [e1]; exact tlv_ne
end Go.Proofs.YthmoognbccfpiaaGreatDoor

/- Contracts: the reference's error messages: what is valid, and their encoding. -/
namespace Go.Proofs.YthmoognbccfpiaaGreatDoor
open Go Go.Sx Go.Proofs
set_option maxRecDepth 100000
set_option maxHeartbeats 4000000
set_option linter.unusedSimpArgs false

theorem rIn_c (v lo hi : Int) : PC Tryz.prog 67 [rI v, rI lo, rI hi] (rB (mIn lo hi v)) := rin_c v lo hi
theorem rvpre_c (l : List Pre) (hl : l.length ≤ 1125899906842624) : PC Tryz.prog 27 [.isl PreT l] (rB (vPre l)) := by
 have hd : vPre l = (decide ((l.length : Int) ≤ 16) && allN l.length (preAt l)) := rfl
 refine pc_of rfl rfl ?_
 refine runE mixed fi27 ?_
 refine si_cntD (fun i => [(3, .raw (.int .i64 ((i : Nat) : Int)))]) (l.length) (fun j => (preAt l) j = true) (by first | decide | simp) (fun i => rfl) ?_ fun i hi hall => ?_
 · (with_reducible refine sxE ?_ <;> try exact True.intro)
   all_goals (try rfl)
 have hwr : IntKind.i64.wrap ((i : Int) + 1) = ((i + 1 : Nat) : Int) := wrap_succ (by omega)
 refine goE mixed ?_
 have bad : i < (l.length) → (preAt l) i = false → allN (l.length) (preAt l) = false := fun hlt hv => allN_false hlt hv
 have fin : ¬ i < (l.length) → allN (l.length) (preAt l) = true := fun h => allN_true fun j hj => hall j (by omega)
 try dsimp only at bad fin hall
 repeat' (first
  | (refine callI_pure (rIn_c _ _ _) ?_; refine run_sound mixed 600 _ ?_; simp (maxSteps := 3000000) only [go_sem, ↓zA, ↓reduceIte, ↓reduceDIte, reduceCtorEq, Nat.reduceAdd, Nat.reduceSub, Nat.reduceLeDiff, Nat.reduceLT, Nat.reduceEqDiff, Nat.reduceBEq, Nat.reduceMul, Int.reduceToNat, Int.reduceEq, Int.reduceLT, Int.reduceLE] <;> try simp only [zB])
  | (refine callR_pure (rIn_c _ _ _) ?_; refine run_sound mixed 600 _ ?_; simp (maxSteps := 3000000) only [go_sem, ↓zA, ↓reduceIte, ↓reduceDIte, reduceCtorEq, Nat.reduceAdd, Nat.reduceSub, Nat.reduceLeDiff, Nat.reduceLT, Nat.reduceEqDiff, Nat.reduceBEq, Nat.reduceMul, Int.reduceToNat, Int.reduceEq, Int.reduceLT, Int.reduceLE] <;> try simp only [zB])
  | (refine callF_pure (rIn_c _ _ _) ?_; refine run_sound mixed 600 _ ?_; simp (maxSteps := 3000000) only [go_sem, ↓zA, ↓reduceIte, ↓reduceDIte, reduceCtorEq, Nat.reduceAdd, Nat.reduceSub, Nat.reduceLeDiff, Nat.reduceLT, Nat.reduceEqDiff, Nat.reduceBEq, Nat.reduceMul, Int.reduceToNat, Int.reduceEq, Int.reduceLT, Int.reduceLE] <;> try simp only [zB])
  | (with_reducible refine And.intro ?_ ?_)
  | (with_reducible intro _))
 all_goals (first | (with_reducible (refine (id ?_ : SoundI _ _ _))) | ((try simp only [Ty.dflt] at *); first | omega | (refine ⟨by omega, next_all hall (by grind [preAt, vPre1]), ⟨_, by first | rfl | exact List.append_assoc _ _ _ | (simp only [List.append_assoc, List.cons_append, List.nil_append]; rfl)⟩, ?_⟩; simp only [hwr, go_sem, ↓zA, ↓reduceIte, ↓reduceDIte, reduceCtorEq, Nat.reduceAdd, Nat.reduceSub, Nat.reduceLeDiff, Nat.reduceLT, Nat.reduceEqDiff, Nat.reduceBEq, Nat.reduceMul, Int.reduceToNat, Int.reduceEq, Int.reduceLT, Int.reduceLE] <;> (first | rfl | (grind [preAt, vPre1]))) | (refine ⟨_, rfl⟩) | (refine ⟨_, List.append_assoc _ _ _⟩) | (grind [preAt, vPre1])))
def preR2 (l : List Pre) : List UInt8 := if l.length = 0 then [] else dataR l
theorem rpre_c (l : List Pre) (h : shD l) : PC Tryz.prog 49 [.isl PreT l] (.isl .u8 (preR2 l)) := by
 have hl := h.1
 have hd : preR2 l = if decide ((l.length : Int) = 0) = true then [] else dataR l := by unfold preR2; simp
 rw [hd]
 refine pc_seal rfl rfl ?_
 refine runE mixed fi49 ?_
 refine si_accN 3 PreT (fun i => l.take i) (fun i => [(4, rI i)]) l.length (fun _ => True) rfl (by simp) (by simp) rfl (fun i => rfl) ?_ fun i hi _ => ?_
 · with_reducible refine sxE ?_; trivial
 have hwr : IntKind.i64.wrap ((i : Int) + 1) = ((i + 1 : Nat) : Int) := wrap_succ (by omega)
 have hln : (l.take i).length = i := List.length_take_of_le hi
 by_cases hlt : i < l.length
 · have hst := take_succ_getD (d := PreT.dflt) hlt
   refine goE mixed ?_
   refine ⟨fun _ => ⟨⟨by omega, hlt⟩, ⟨by omega, hlt⟩, ⟨by omega, by omega⟩, acc_next [_, _] [] hlt trivial (by rw [hst]; rfl) ?_⟩, fun h => absurd hlt h⟩
   with_reducible refine sx3 hwr hst ?_; trivial
 · obtain rfl : i = l.length := by omega
   have hall : l.take l.length = l := List.take_length
   rw [hall]
   rw [hall] at hln
   refine si_freeze 0 rfl rfl (by omega) ?_ ?_ ?_
   · with_reducible refine sxE ?_; trivial
   · with_reducible refine sxE ?_
     exact Nat.le_refl _
   with_reducible refine sxE ?_
   rw [List.take_of_length_le (Nat.le_refl _)]
   refine goE mixed ?_
   refine ⟨fun h => absurd h hlt, fun _ => callI_pure (rdata_a l h) ?_⟩
   refine goE mixed ?_
   refine callI_pure (runless_c _ _) ?_
   refine goE mixed ?_; trivial
theorem preR2_len {l : List Pre} (h : shD l) : (preR2 l).length ≤ 525740 := by
 have := dataR_len h
 unfold preR2; split <;> first | (simp; done) | omega
end Go.Proofs.YthmoognbccfpiaaGreatDoor

/- Contracts: the reference's reading of elements. -/
namespace Go.Proofs.YthmoognbccfpiaaGreatDoor
open Go Go.Sx Go.Proofs
set_option maxRecDepth 100000
set_option maxHeartbeats 4000000
set_option linter.unusedSimpArgs false

def chkR (b : List UInt8) (a n : Nat) : Option (Nat × Nat) := if b.length - a < n then none else some (a, a + n)
def fstR (b : List UInt8) : Option (Nat × Nat) :=
 if b.length < 2 then none else
 if (b.getD 1 0).toNat < 128 then chkR b 2 (b.getD 1 0).toNat else
 if (b.getD 1 0).toNat - 128 < 1 ∨ 3 < (b.getD 1 0).toNat - 128 ∨ b.length < 2 + ((b.getD 1 0).toNat - 128) then none else
 chkR b (2 + ((b.getD 1 0).toNat - 128)) (beN ((b.drop 2).take ((b.getD 1 0).toNat - 128)))
def fstV (b : List UInt8) : SV := match fstR b with
 | none => .tup [rI 0, .isl .u8 [], rI 0]
 | some (a, e) => .tup [rI (b.getD 0 0).toNat, .isl .u8 ((b.take e).drop a), rI e]
theorem beN_lt4 (l : List UInt8) (h : l.length ≤ 3) : beN l < 16777216 := by
 have h1 := beN_lt l
 have h2 : 256 ^ l.length ≤ 256 ^ 3 := Nat.pow_le_pow_right (by decide) h
 omega
theorem rfirst_c (b : List UInt8) (hb : b.length ≤ 1099511627776) : PC Tryz.prog 100 [.isl .u8 b] (fstV b) := by
 have hx : (b.getD 1 Ty.u8.dflt).toNat < 256 := UInt8.toNat_lt _
 have hd : b.getD 1 0 = b.getD 1 Ty.u8.dflt := rfl
 have e0 : IntKind.i64.wrap ((b.getD 1 Ty.u8.dflt).toNat : Int) = (((b.getD 1 Ty.u8.dflt).toNat : Nat) : Int) := wrapi (by omega)
 have e1 : IntKind.i64.wrap (((b.getD 1 Ty.u8.dflt).toNat : Int) - 128) = ((b.getD 1 Ty.u8.dflt).toNat : Int) - 128 := wrapi (by omega)
 have e2 : IntKind.i64.wrap (2 + (((b.getD 1 Ty.u8.dflt).toNat : Int) - 128)) = 2 + (((b.getD 1 Ty.u8.dflt).toNat : Int) - 128) := wrapi (by omega)
 have e3 : IntKind.i64.wrap ((b.length : Int) - 2) = (b.length : Int) - 2 := wrapi (by omega)
 have e4 : IntKind.i64.wrap (2 + ((b.getD 1 Ty.u8.dflt).toNat : Int)) = 2 + ((b.getD 1 Ty.u8.dflt).toNat : Int) := wrapi (by omega)
 have e5 : IntKind.i64.wrap ((b.getD 0 Ty.u8.dflt).toNat : Int) = (((b.getD 0 Ty.u8.dflt).toNat : Nat) : Int) := wrapi (by have := (b.getD 0 Ty.u8.dflt).toNat_lt; omega)
 have hno : fstR b = none → fstV b = .tup [rI 0, .isl .u8 [], rI 0] := fun h => by unfold fstV; rw [h]
 have hyes : ∀ a e, fstR b = some (a, e) → fstV b = .tup [rI (b.getD 0 0).toNat, .isl .u8 ((b.take e).drop a), rI e] := fun a e h => by unfold fstV; rw [h]
 have hsc : (fstV b).clean = true := by
  cases h : fstR b with
  | none => rw [hno h]; rfl
  | some y => obtain ⟨a, e⟩ := y; rw [hyes a e h]; rfl
 generalize fstV b = W at *
 refine pc_seal rfl hsc ?_
 refine vc_fi fi100 (run_sound mixed 600 _ ?_)
 simp (maxSteps := 3000000) only [ir100, e0, e1, e2, e3, e4, e5, go_sem, ↓zA, ↓reduceIte, ↓reduceDIte, reduceCtorEq, Nat.reduceAdd, Nat.reduceSub, Nat.reduceLeDiff, Nat.reduceLT, Nat.reduceEqDiff, Nat.reduceBEq, Nat.reduceMul, Int.reduceToNat, Int.reduceEq, Int.reduceLT, Int.reduceLE] <;> try simp only [zB]
 generalize hxx : b.getD 1 Ty.u8.dflt = x at *
 have hF : ∀ r, fstR b = r → fstR b = r := fun _ h => h
 have hno' : fstR b = none → (SV.tup [SV.raw (Value.int IntKind.i64 0), SV.raw (Value.slice none 0 0), SV.raw (Value.int IntKind.i64 0)]).leV W := fun h => by
  rw [hno h]
  with_reducible refine sxE ?_; trivial
 refine ⟨fun h => ?_, fun h => ⟨by omega, fun h2 => ⟨fun h3 => ⟨fun h4 => ⟨fun h5 => ?_, fun h5 => ?_⟩, fun h4 => ?_⟩, fun h3 => ?_⟩, fun h2 => ⟨fun h3 => ?_, fun h3 => ?_⟩⟩⟩
 · refine hno' ?_
   unfold fstR; rw [if_pos (by omega)]
 · refine hno' ?_
   unfold fstR; rw [hd, if_neg (by omega), if_neg (by omega), if_pos (by omega)]
 · obtain ⟨m, hxm⟩ : ∃ m : Nat, (x.toNat : Int) - 128 = (m : Int) := ⟨x.toNat - 128, by omega⟩
   have hm3 : 1 ≤ m ∧ m ≤ 3 := by omega
   have hmn : x.toNat - 128 = m := by omega
   rw [hxm]
   have hl2 : (b.drop 2).length = b.length - 2 := List.length_drop
   generalize hL : b.drop 2 = L at *
   have hgd : ∀ i, L.getD i Ty.u8.dflt = b.getD (2 + i) Ty.u8.dflt := fun i => by
    rw [← hL, List.getD_eq_getElem?_getD, List.getElem?_drop, List.getD_eq_getElem?_getD]
   have hfst : ∀ v, beN (L.take m) = v → fstR b = chkR b (2 + m) v := fun v hv => by
    unfold fstR
    rw [hd, hL, hmn, if_neg (by omega), if_neg (by omega), if_neg (by omega), hv]
   refine si_cntD (fun i => [(5, rI (beN (L.take i))), (8, .raw (.int .i64 ((i : Nat) : Int)))]) (m) (fun j => (fun _ => true) j = true) (by first | decide | simp) (fun i => rfl) ?_ fun i hi hall => ?_
   · (with_reducible refine sxE ?_ <;> try exact True.intro)
     all_goals (try rfl)
   have hwr : IntKind.i64.wrap ((i : Int) + 1) = ((i + 1 : Nat) : Int) := wrap_succ (by omega)
   refine goE mixed ?_
   have bad : i < (m) → (fun _ => true) i = false → allN (m) (fun _ => true) = false := fun hlt hv => allN_false hlt hv
   have fin : ¬ i < (m) → allN (m) (fun _ => true) = true := fun h => allN_true fun j hj => hall j (by omega)
   try dsimp only at bad fin hall
   refine ⟨fun hlt => ?_, fun hge => ?_⟩
   · have hi2 : IntKind.i64.wrap (2 + (i : Int)) = ((2 + i : Nat) : Int) := by rw [wrapi (by omega)]; omega
     have hv := beN_lt4 (L.take i) (by simp; omega)
     have hc : (b.getD (2 + i) Ty.u8.dflt).toNat < 256 := UInt8.toNat_lt _
     have w1 : IntKind.i64.wrap (256 * (beN (L.take i) : Int)) = 256 * (beN (L.take i) : Int) := wrapi (by omega)
     have w2 : IntKind.i64.wrap ((b.getD (2 + i) Ty.u8.dflt).toNat : Int) = (((b.getD (2 + i) Ty.u8.dflt).toNat : Nat) : Int) := wrapi (by omega)
     have e6 := beN_succ L i (by omega)
     have e7 : L.getD i 0 = b.getD (2 + i) Ty.u8.dflt := hgd i
     rw [e7] at e6
     rw [hi2, Int.toNat_natCast, w1, w2]
     have w3 : IntKind.i64.wrap (256 * (beN (L.take i) : Int) + ((b.getD (2 + i) Ty.u8.dflt).toNat : Int)) = (beN (L.take (i + 1)) : Int) := by rw [wrapi (by omega), e6]; omega
     rw [w3]
     refine ⟨⟨by omega, by omega⟩, hlt, trivial, ⟨[], rfl⟩, ?_⟩
     with_reducible refine sx1 hwr ?_; trivial
   · obtain rfl : i = m := by omega
     have hv := beN_lt4 (L.take i) (by simp; omega)
     generalize hV : beN (L.take i) = V at *
     have hf := hfst V rfl
     have w1 : IntKind.i64.wrap (2 + (i : Int)) = ((2 + i : Nat) : Int) := by rw [wrapi (by omega)]; omega
     have w2 : IntKind.i64.wrap (((2 + i : Nat) : Int) + (V : Int)) = ((2 + i + V : Nat) : Int) := by rw [wrapi (by omega)]; omega
     have w3 : IntKind.i64.wrap ((b.length : Int) - ((2 + i : Nat) : Int)) = (b.length : Int) - ((2 + i : Nat) : Int) := wrapi (by omega)
     rw [w1, w3, w2, e5]
     refine ⟨fun q => hno' (by rw [hf]; unfold chkR; rw [if_pos (by omega)]), fun q => ⟨by omega, ⟨by omega, by omega, by omega⟩, ?_⟩⟩
     rw [hyes (2 + i) (2 + i + V) (by rw [hf]; unfold chkR; rw [if_neg (by omega)])]
     with_reducible refine sxE ?_
     rfl
 · refine hno' ?_
   unfold fstR; rw [hd, if_neg (by omega), if_neg (by omega), if_pos (by omega)]
 · refine hno' ?_
   unfold fstR; rw [hd, if_neg (by omega), if_neg (by omega), if_pos (by omega)]
 · refine hno' ?_
   unfold fstR chkR; rw [hd, if_neg (by omega), if_pos (by omega), if_pos (by omega)]
 · have hf : fstR b = some (2, 2 + x.toNat) := by unfold fstR chkR; rw [hd, if_neg (by omega), if_pos (by omega), if_neg (by omega)]
   rw [hyes _ _ hf]
   have ht : ((2 : Int) + (x.toNat : Int)).toNat = 2 + x.toNat := by omega
   rw [ht]
   refine ⟨by omega, ⟨by omega, by omega⟩, ?_⟩
   with_reducible refine sxE ?_
   exact ⟨rfl, congrArg (Value.int .i64) (by omega)⟩
def conR (b : List UInt8) : List UInt8 := match fstR b with
 | none => []
 | some (a, e) => (b.take e).drop a
theorem fstR_le {b : List UInt8} {a e : Nat} (h : fstR b = some (a, e)) : 2 ≤ a ∧ a ≤ e ∧ e ≤ b.length := by
 have key : ∀ a' n, chkR b a' n = some (a, e) → 2 ≤ a' → a' ≤ b.length → 2 ≤ a ∧ a ≤ e ∧ e ≤ b.length := by
  intro a' n h1 h2 h3
  unfold chkR at h1
  split at h1
  · cases h1
  · cases h1; omega
 unfold fstR at h
 split at h
 · cases h
 · split at h
   · exact key _ _ h (by omega) (by omega)
   · split at h
     · cases h
     · exact key _ _ h (by omega) (by omega)
theorem conR_len (b : List UInt8) : (conR b).length ≤ b.length := by
 unfold conR
 split
 · simp
 · rw [List.length_drop, List.length_take]; omega
theorem contents_c (b : List UInt8) (hb : b.length ≤ 1099511627776) : PC Tryz.prog 38 [.isl .u8 b] (.isl .u8 (conR b)) := by
 have h := rfirst_c b hb
 unfold fstV at h
 unfold conR
 refine pc_seal rfl rfl ?_
 refine runE mixed fi38 ?_
 refine callI_pure h ?_
 cases hf : fstR b with
 | none =>
  refine goE mixed ?_; trivial
 | some y =>
  obtain ⟨a, e⟩ := y
  refine goE mixed ?_; trivial
def elsR : Nat → List UInt8 → List (List UInt8)
 | 0, _ => []
 | f + 1, b => match fstR b with
  | none => []
  | some (_, e) => b.take e :: elsR f (b.drop e)
theorem elsR_fuel : ∀ (f : Nat) (b : List UInt8), b.length ≤ f → elsR f b = elsR b.length b
 | 0, b, h => by
  have : b = [] := List.length_eq_zero_iff.1 (by omega)
  subst this; rfl
 | f + 1, b, h => by
  cases hb : b.length with
  | zero =>
   have : b = [] := List.length_eq_zero_iff.1 hb
   subst this
   simp [elsR, fstR]
  | succ n =>
   simp only [elsR]
   cases hf : fstR b with
   | none => rfl
   | some y =>
    obtain ⟨a, e⟩ := y
    have hle := fstR_le hf
    simp only
    rw [elsR_fuel f (b.drop e) (by rw [List.length_drop]; omega), elsR_fuel n (b.drop e) (by rw [List.length_drop]; omega)]
theorem elsR_none {b : List UInt8} (h : fstR b = none) : elsR b.length b = [] := by
 cases hb : b.length with
 | zero => rfl
 | succ n => simp only [elsR, h]
theorem elsR_some {b : List UInt8} {a e : Nat} (h : fstR b = some (a, e)) : elsR b.length b = b.take e :: elsR (b.drop e).length (b.drop e) := by
 have hle := fstR_le h
 cases hb : b.length with
 | zero => omega
 | succ n =>
  simp only [elsR, h]
  rw [elsR_fuel n (b.drop e) (by rw [List.length_drop]; omega)]
theorem elements_c (b : List UInt8) (hb : b.length ≤ 1048576) : PC Tryz.prog 101 [.isl .u8 b] (.isl (.slice .u8) (elsR b.length b)) := by
 refine pc_seal rfl rfl ?_
 refine runE mixed fi101 ?_
 refine si_nilrow 3 (.slice .u8) rfl rfl ?_
 with_reducible refine sxE ?_
 refine si_loopX (ι := List UInt8 × List (List UInt8) × List SObj) (fun s => [(0, .isl .u8 s.1), (3, .bld s.2.2.length (.slice .u8) s.2.1.length)]) (fun s => s.2.2 ++ [.row (.slice .u8) s.2.1]) (fun s => s.1.length) (fun s => s.1.length ≤ b.length ∧ s.2.1.length + s.1.length ≤ b.length ∧ elsR b.length b = s.2.1 ++ elsR s.1.length s.1) (b, [], []) ⟨Nat.le_refl _, by simp, rfl⟩ rfl ?_ ?_
 · with_reducible refine sxE ?_; trivial
 rintro ⟨r, acc, G⟩ ⟨h1, h2, h3⟩
 dsimp only at h1 h2 h3
 have hf := rfirst_c r (by omega)
 refine goaE mixed ?_
 refine callI_pure hf ?_
 unfold fstV
 cases hx : fstR r with
 | none =>
  rw [elsR_none hx, List.append_nil] at h3
  rw [h3]
  refine goaE mixed ?_
  exact ⟨⟨Nat.le_refl _, by omega⟩, List.take_length⟩
 | some y =>
  obtain ⟨a, e⟩ := y
  have hle := fstR_le hx
  rw [elsR_some hx] at h3
  refine goaE mixed ?_
  refine ⟨fun q => by exfalso; omega, fun _ => ⟨⟨by omega, by omega⟩, ⟨by omega, by omega⟩, ⟨by omega, by omega, Nat.le_refl _⟩, ?_⟩⟩
  rw [List.take_length]
  have hl : (r.drop e).length = r.length - e := List.length_drop
  refine ⟨(r.drop e, acc ++ [r.take e], G ++ [.dead, .row (.slice .u8) [r.take e]]), ⟨?_, ?_, ?_⟩, ?_, ?_, ?_⟩
  · dsimp only; omega
  · dsimp only; rw [List.length_append, hl]; simp; omega
  · dsimp only; rw [h3, List.append_assoc]; rfl
  · dsimp only; omega
  · simp
  · with_reducible refine sxaE ?_; trivial
theorem elsR_mem : ∀ (f : Nat) (b : List UInt8), ∀ x ∈ elsR f b, 2 ≤ x.length ∧ x.length ≤ b.length
 | 0, b, x, h => by simp [elsR] at h
 | f + 1, b, x, h => by
  simp only [elsR] at h
  cases hf : fstR b with
  | none => rw [hf] at h; simp at h
  | some y =>
   obtain ⟨a, e⟩ := y
   have hle := fstR_le hf
   rw [hf] at h
   simp only [List.mem_cons] at h
   rcases h with rfl | h
   · rw [List.length_take]; omega
   · have := elsR_mem f (b.drop e) x h
     rw [List.length_drop] at this; omega
theorem elsR_len : ∀ (f : Nat) (b : List UInt8), (elsR f b).length ≤ b.length
 | 0, b => by simp [elsR]
 | f + 1, b => by
  simp only [elsR]
  cases hf : fstR b with
  | none => simp
  | some y =>
   obtain ⟨a, e⟩ := y
   have hle := fstR_le hf
   have := elsR_len f (b.drop e)
   rw [List.length_drop] at this
   simp only [List.length_cons]; omega
def isTag (n : Nat) (x : List UInt8) : Bool := decide (((x.getD 0 0).toNat : Int) = 160 + (n : Int))
def fndR (n : Nat) (l : List (List UInt8)) : List UInt8 := match l.find? (isTag n) with
 | none => []
 | some x => conR x
def itmR (b : List UInt8) (n : Nat) : List UInt8 := fndR n (elsR (conR b).length (conR b))
theorem find_at {n : Nat} {l : List (List UInt8)} {i : Nat} (h : i < l.length) (hq : isTag n (l.getD i []) = true) (hn : ∀ j, j < i → isTag n (l.getD j []) = false) : fndR n l = conR (l.getD i []) := by
 have : l.find? (isTag n) = some (l.getD i []) := by
  rw [List.find?_eq_some_iff_getElem]
  refine ⟨hq, i, h, by rw [List.getD_eq_getElem?_getD, List.getElem?_eq_getElem h]; rfl, fun j hj => ?_⟩
  have := hn j hj
  rw [List.getD_eq_getElem?_getD, List.getElem?_eq_getElem (by omega)] at this
  simpa using this
 unfold fndR; rw [this]
theorem find_no {n : Nat} {l : List (List UInt8)} (hn : ∀ j, j < l.length → isTag n (l.getD j []) = false) : fndR n l = [] := by
 have : l.find? (isTag n) = none := by
  rw [List.find?_eq_none]
  intro x hx
  obtain ⟨j, hj, rfl⟩ := List.getElem_of_mem hx
  have := hn j hj
  rw [List.getD_eq_getElem?_getD, List.getElem?_eq_getElem hj] at this
  simpa using this
 unfold fndR; rw [this]
theorem itmR_len (b : List UInt8) (n : Nat) : (itmR b n).length ≤ b.length := by
 unfold itmR fndR
 split
 · simp
 · rename_i x hx
   have h1 := elsR_mem _ _ x (List.mem_of_find?_eq_some hx)
   have h2 := conR_len x
   have h3 := conR_len b
   omega
theorem item_c (b : List UInt8) (n : Nat) (hn : n ≤ 30) (hb : b.length ≤ 1048576) : PC Tryz.prog 40 [.isl .u8 b, rI n] (.isl .u8 (itmR b n)) := by
 have hl := conR_len b
 have hc := contents_c b (by omega)
 have he := elements_c (conR b) (by omega)
 have hm := elsR_mem (conR b).length (conR b)
 have hle := elsR_len (conR b).length (conR b)
 have hd : itmR b n = fndR n (elsR (conR b).length (conR b)) := rfl
 rw [hd]
 generalize elsR (conR b).length (conR b) = l at *
 refine pc_seal rfl rfl ?_
 refine runE mixed fi40 ?_
 refine callI_pure hc ?_
 refine goE mixed ?_
 refine callI_pure he ?_
 refine goE mixed ?_
 refine si_cntD (fun i => [(6, .raw (.int .i64 ((i : Nat) : Int)))]) (l.length) (fun j => (fun j => !isTag n (l.getD j [])) j = true) (by first | decide | simp) (fun i => rfl) ?_ fun i hi hall => ?_
 · (with_reducible refine sxE ?_ <;> try exact True.intro)
   all_goals (try rfl)
 have hwr : IntKind.i64.wrap ((i : Int) + 1) = ((i + 1 : Nat) : Int) := wrap_succ (by omega)
 refine goE mixed ?_
 have bad : i < (l.length) → (fun j => !isTag n (l.getD j [])) i = false → allN (l.length) (fun j => !isTag n (l.getD j [])) = false := fun hlt hv => allN_false hlt hv
 have fin : ¬ i < (l.length) → allN (l.length) (fun j => !isTag n (l.getD j [])) = true := fun h => allN_true fun j hj => hall j (by omega)
 try dsimp only at bad fin hall
 refine ⟨fun hlt => ?_, fun hge => ?_⟩
 · have hmm := hm _ (getD_mem (d := (Ty.slice .u8).dflt) hlt)
   have hx := (List.getD (l.getD i (Ty.slice .u8).dflt) 0 Ty.u8.dflt).toNat_lt
   have w1 : IntKind.i64.wrap ((List.getD (l.getD i (Ty.slice .u8).dflt) 0 Ty.u8.dflt).toNat : Int) = (((List.getD (l.getD i (Ty.slice .u8).dflt) 0 Ty.u8.dflt).toNat : Nat) : Int) := wrapi (by omega)
   have w2 : IntKind.i64.wrap (160 + (n : Int)) = 160 + (n : Int) := wrapi (by omega)
   rw [w1, w2]
   refine ⟨⟨by omega, hlt⟩, by omega, fun q => ⟨⟨by omega, hlt⟩, callI_pure (contents_c _ (by omega)) ?_⟩, fun q => ?_⟩
   · have hq : isTag n (l.getD i []) = true := decide_eq_true q
     rw [find_at hlt hq (fun j hj => by have := hall j hj; simpa using this)]
     refine goE mixed ?_
     rfl
   · have hq : isTag n (l.getD i []) = false := decide_eq_false q
     refine ⟨hlt, next_all (fun j hj => by have := hall j hj; simpa using this) hq, ⟨[], rfl⟩, ?_⟩
     with_reducible refine sx1 hwr ?_; trivial
 · rw [find_no (fun j hj => by have := hall j (by omega); simpa using this)]
def gIntR (b : List UInt8) : Nat := beN ((conR b).take 7)
theorem getInt_c (b : List UInt8) (hb : b.length ≤ 1099511627776) : PC Tryz.prog 39 [.isl .u8 b] (rI (gIntR b)) := by
 have hc := contents_c b hb
 unfold gIntR
 generalize conR b = c at *
 refine pc_seal rfl rfl ?_
 refine runE mixed fi39 ?_
 refine callI_pure hc ?_
 refine goE mixed ?_
 refine si_cntD (fun i => [(4, rI (beN (c.take i))), (5, .raw (.int .i64 ((i : Nat) : Int)))]) (min c.length 7) (fun j => (fun _ => true) j = true) (by first | decide | simp) (fun i => rfl) ?_ fun i hi hall => ?_
 · (with_reducible refine sxE ?_ <;> try exact True.intro)
   all_goals (try rfl)
 have hwr : IntKind.i64.wrap ((i : Int) + 1) = ((i + 1 : Nat) : Int) := wrap_succ (by omega)
 refine goE mixed ?_
 have bad : i < (min c.length 7) → (fun _ => true) i = false → allN (min c.length 7) (fun _ => true) = false := fun hlt hv => allN_false hlt hv
 have fin : ¬ i < (min c.length 7) → allN (min c.length 7) (fun _ => true) = true := fun h => allN_true fun j hj => hall j (by omega)
 try dsimp only at bad fin hall
 refine ⟨fun h1 => ⟨fun h2 => ⟨⟨by omega, h1⟩, ?_⟩, fun h2 => ?_⟩, fun h1 => ?_⟩
 · have hv := beN_lt (c.take i)
   have hv2 : 256 ^ (c.take i).length ≤ 256 ^ 6 := Nat.pow_le_pow_right (by decide) (by simp; omega)
   have hcc : (c.getD i Ty.u8.dflt).toNat < 256 := UInt8.toNat_lt _
   have w1 : IntKind.i64.wrap (256 * (beN (c.take i) : Int)) = 256 * (beN (c.take i) : Int) := wrapi (by omega)
   have w2 : IntKind.i64.wrap ((c.getD i Ty.u8.dflt).toNat : Int) = (((c.getD i Ty.u8.dflt).toNat : Nat) : Int) := wrapi (by omega)
   have e6 : beN (c.take (i + 1)) = beN (c.take i) * 256 + (c.getD i Ty.u8.dflt).toNat := beN_succ c i h1
   have w3 : IntKind.i64.wrap (256 * (beN (c.take i) : Int) + ((c.getD i Ty.u8.dflt).toNat : Int)) = (beN (c.take (i + 1)) : Int) := by rw [wrapi (by omega), e6]; omega
   rw [w1, w2, w3]
   refine ⟨by omega, trivial, ⟨[], rfl⟩, ?_⟩
   with_reducible refine sx1 hwr ?_; trivial
 · obtain rfl : i = 7 := by omega
   rfl
 · obtain rfl : i = c.length := by omega
   rw [List.take_length, List.take_of_length_le (by omega)]
theorem getBytes_c (b : List UInt8) (hb : b.length ≤ 1048576) : PC Tryz.prog 169 [.isl .u8 b] (.isl .u8 (conR b)) := by
 have hc := contents_c b (by omega)
 have hl := conR_len b
 generalize conR b = c at *
 refine pc_seal rfl rfl ?_
 refine runE mixed fi169 ?_
 refine callI_pure hc ?_
 refine goE mixed ?_
 exact ⟨⟨by omega, by omega⟩, ⟨by omega, by omega⟩, List.take_of_length_le (by omega)⟩
end Go.Proofs.YthmoognbccfpiaaGreatDoor

/- The plain law of the reference's reading. -/
namespace Go.Proofs.YthmoognbccfpiaaGreatDoor
open Go Go.Sx Go.Proofs
set_option maxRecDepth 100000
set_option maxHeartbeats 4000000
set_option linter.unusedSimpArgs false

theorem fstR_meas {b : List UInt8} (h : (meas b).2.2 = 0) : fstR b = some ((meas b).1, (meas b).2.1) := by
 have key : ∀ a n, (measE b a n).2.2 = 0 → chkR b a n = some ((measE b a n).1, (measE b a n).2.1) := by
  intro a n h1
  unfold measE at h1 ⊢
  unfold chkR
  split at h1
  · cases h1
  · rename_i hh; rw [if_neg hh, if_neg hh]
 unfold meas at h ⊢
 unfold fstR
 split at h
 · cases h
 · rename_i g1
   rw [if_neg g1, if_neg g1]
   split at h
   · rename_i g2
     rw [if_pos g2, if_pos g2]
     exact key _ _ h
   · rename_i g2
     rw [if_neg g2, if_neg g2]
     split at h
     · cases h
     · rename_i g3
       split at h
       · cases h
       · rename_i g4
         split at h
         · cases h
         · rename_i g5
           rw [if_neg (by omega), if_neg g3, if_neg g4, if_neg g5]
           exact key _ _ h
theorem fstR_tlv (t : UInt8) (c r : List UInt8) (h : c.length ≤ 16777215) : fstR (tlv t c ++ r) = some (1 + (lenS c.length).length, (tlv t c).length) := by
 have hm := meas_tlv t c r h
 rw [fstR_meas (by rw [hm]), hm, tlv_length]
theorem conR_tlv (t : UInt8) (c r : List UInt8) (h : c.length ≤ 16777215) : conR (tlv t c ++ r) = c := by
 have := takeC_tlv t c r h
 unfold takeC at this
 rw [meas_tlv t c r h] at this
 unfold conR
 rw [fstR_tlv t c r h]
 simp only at this ⊢
 rw [tlv_length]; exact this
theorem conR_tlv' (t : UInt8) (c : List UInt8) (h : c.length ≤ 16777215) : conR (tlv t c) = c := by
 have := conR_tlv t c [] h
 rwa [List.append_nil] at this
def isEl (x : List UInt8) : Prop := ∃ t c, x = tlv t c ∧ c.length ≤ 16777215
theorem elsR_flat : ∀ (L : List (List UInt8)), (∀ x ∈ L, isEl x) → elsR L.flatten.length L.flatten = L
 | [], _ => rfl
 | x :: L, h => by
  obtain ⟨t, c, rfl, hc⟩ := h x (by simp)
  have hf := fstR_tlv t c L.flatten hc
  rw [List.flatten_cons, elsR_some hf, List.take_left, List.drop_left, elsR_flat L fun y hy => h y (by simp [hy])]
theorem flatten_ne {l : List (List UInt8)} : (l.filter fun x => !x.isEmpty).flatten = l.flatten := by
 induction l with
 | nil => rfl
 | cons x l ih =>
  cases x with
  | nil => simp [ih]
  | cons a x => simp [ih]
def wrapsL (l : List (List UInt8)) (n k : Nat) : List (List UInt8) := ((List.range' n k).map fun j => wrapS 160 (j : Nat) (l.getD j [])).filter fun x => !x.isEmpty
theorem wrapsL_succ (l : List (List UInt8)) (n k : Nat) : wrapsL l n (k + 1) = if wrapS 160 (n : Nat) (l.getD n []) = [] then wrapsL l (n + 1) k else wrapS 160 (n : Nat) (l.getD n []) :: wrapsL l (n + 1) k := by
 unfold wrapsL
 rw [List.range'_succ, List.map_cons, List.filter_cons]
 cases wrapS 160 (n : Nat) (l.getD n []) <;> simp
theorem elsR_suf {l : List (List UInt8)} {n k : Nat} (hl : ∀ j, (l.getD j []).length ≤ 16777215) (hn : n + k ≤ 31) : elsR (sufS l n k).length (sufS l n k) = wrapsL l n k := by
 have : sufS l n k = (wrapsL l n k).flatten := by unfold wrapsL sufS; rw [flatten_ne]
 rw [this]
 refine elsR_flat _ fun x hx => ?_
 unfold wrapsL at hx
 simp only [List.mem_filter, List.mem_map, List.mem_range'_1] at hx
 obtain ⟨⟨j, hj, rfl⟩, hne⟩ := hx
 rw [wrapS_ok (by omega) (hl j)] at hne ⊢
 split
 · rename_i h0; rw [if_pos h0] at hne; simp at hne
 · exact ⟨_, _, rfl, hl j⟩
theorem isTag_tlv {m n : Nat} {c : List UInt8} (hn : n ≤ 30) : isTag m (tlv (tagB n) c) = decide (n = m) := by
 unfold isTag tlv
 rw [List.getD_cons_zero, tagB_nat n hn]
 exact decide_eq_decide.2 (by omega)
theorem fnd_cons {m : Nat} {x : List UInt8} {L : List (List UInt8)} : fndR m (x :: L) = if isTag m x then conR x else fndR m L := by
 unfold fndR
 rw [List.find?_cons]
 cases isTag m x <;> simp
theorem fnd_lo {l : List (List UInt8)} {m : Nat} (hl : ∀ j, (l.getD j []).length ≤ 16777215) : ∀ (k n : Nat), m < n → n + k ≤ 31 → fndR m (wrapsL l n k) = []
 | 0, n, _, _ => rfl
 | k + 1, n, h, hn => by
  rw [wrapsL_succ, wrapS_ok (n := n) (by omega) (hl n)]
  have ih := fnd_lo (m := m) hl k (n + 1) (by omega) (by omega)
  by_cases h0 : l.getD n [] = []
  · rw [if_pos h0, if_pos rfl]; exact ih
  · rw [if_neg h0, if_neg (by simp [tlv]), fnd_cons, isTag_tlv (n := n) (by omega), decide_eq_false (show ¬ n = m by omega)]
    exact ih
theorem fnd_at {l : List (List UInt8)} {m : Nat} (hl : ∀ j, (l.getD j []).length ≤ 16777215) : ∀ (k n : Nat), n ≤ m → m < n + k → n + k ≤ 31 → fndR m (wrapsL l n k) = l.getD m []
 | 0, n, _, _, _ => by omega
 | k + 1, n, h, h2, hn => by
  rw [wrapsL_succ, wrapS_ok (n := n) (by omega) (hl n)]
  by_cases e : n = m
  · subst e
    by_cases h0 : l.getD n [] = []
    · rw [if_pos h0, if_pos rfl, fnd_lo hl k (n + 1) (by omega) (by omega), h0]
    · rw [if_neg h0, if_neg (by simp [tlv]), fnd_cons, isTag_tlv (n := n) (by omega), decide_eq_true (show n = n from rfl), if_pos rfl, conR_tlv' _ _ (hl n)]
  · have ih := fnd_at (m := m) hl k (n + 1) (by omega) (by omega) (by omega)
    by_cases h0 : l.getD n [] = []
    · rw [if_pos h0, if_pos rfl]; exact ih
    · rw [if_neg h0, if_neg (by simp [tlv]), fnd_cons, isTag_tlv (n := n) (by omega), decide_eq_false e]
      exact ih
theorem itm_seq {l : List (List UInt8)} {m k : Nat} (hl : ∀ j, (l.getD j []).length ≤ 16777215) (hk : k ≤ 31) (hm : m < k) (hs : (sufS l 0 k).length ≤ 16777215) : itmR (tlv 48 (sufS l 0 k)) m = l.getD m [] := by
 unfold itmR
 rw [conR_tlv' _ _ hs, elsR_suf hl (by omega)]
 exact fnd_at hl k 0 (Nat.zero_le _) (by omega) (by omega)
theorem gInt_ok {v : Int} (h : 0 ≤ v ∧ v < 36028797018963968) : (gIntR (intS v) : Int) = v := by
 obtain ⟨c, h1, h2, _, _, h5, h6⟩ := intS_i (v := v) (by omega)
 unfold gIntR
 rw [h1, conR_tlv' _ _ (by omega)]
 have h7 : c.length ≤ 7 := by
  rcases Nat.lt_or_ge c.length 8 with q | q
  · omega
  · have := h6 (by omega); omega
 rw [List.take_of_length_le h7]
 exact h5
end Go.Proofs.YthmoognbccfpiaaGreatDoor

/- The plain law of the reference's reading: entries. -/
namespace Go.Proofs.YthmoognbccfpiaaGreatDoor
open Go Go.Sx Go.Proofs
set_option maxRecDepth 100000
set_option maxHeartbeats 4000000
set_option linter.unusedSimpArgs false

def eltR (x : List UInt8) : List (List UInt8) := elsR (conR x).length (conR x)
def sR (x : List UInt8) : ByteArray := ⟨(conR x).toArray⟩
def prnR (x : List UInt8) : Prin := ((eltR (itmR x 0)).map sR, sR (itmR x 1))
def keyR (x : List UInt8) : Key := ((gIntR (itmR x 0) : Int), (gIntR (itmR x 1) : Int), conR (itmR x 2))
theorem eltR_nil : eltR [] = [] := by decide
theorem map_back {α β : Type} {f : β → α} {w : α → β} {l : List α} (h : ∀ x ∈ l, f (w x) = x) : (l.map w).map f = l := by
 rw [List.map_map]
 conv => rhs; rw [← List.map_id l]
 exact List.map_congr_left fun x hx => h x hx
theorem str_back {s : ByteArray} (h : s.size ≤ 16777215) : sR (elemS 27 [s.data.toList]) = s ∧ isEl (elemS 27 [s.data.toList]) := by
 have hl : s.data.toList.length = s.size := by simp
 rw [elemS_ok (by omega)]
 refine ⟨?_, _, _, rfl, by omega⟩
 unfold sR
 rw [conR_tlv' _ _ (by omega)]
theorem prn_back {p : Prin} (h : vPrin p = true) : prnR (prinE p) = p ∧ isEl (prinE p) := by
 obtain ⟨h1, h2, h3⟩ := vPrin_sz h
 have he : prinE p = prinS p := by unfold prinE; rw [if_pos h]
 rw [he]
 obtain ⟨xs, t⟩ := p
 have h1' : xs.length ≤ 4 := h1
 have h2' : ∀ x ∈ xs, x.size ≤ 32 := h2
 have h3' : t.size ≤ 32 := h3
 obtain ⟨g1, g2⟩ := nameIn_at xs t (by omega) (fun x hx => by have := h2' x hx; omega) (by omega)
 have hS : prinS (xs, t) = tlv 48 (sufS [elemS 48 (strsN xs xs.length), strE t] 0 2) := by
  show elemS 48 [wrapS 160 0 (elemS 48 (strsN xs xs.length)), wrapS 160 1 (strE t)] = _
  have e : ([wrapS 160 0 (elemS 48 (strsN xs xs.length)), wrapS 160 1 (strE t)] : List (List UInt8)).flatten = sufS [elemS 48 (strsN xs xs.length), strE t] 0 2 := by
   rw [sufS_succ, sufS_succ]
   simp [sufS]
  rw [elemS_flat (by rw [e]; omega), e]
 have e0 : strsN xs xs.length = xs.map strE := by unfold strsN strE; rw [List.take_length]
 have hb : (xs.map strE).flatten.length ≤ 148 := by have := strsN_flat (k := xs.length) h1' h2'; rwa [e0] at this
 have e1 : elemS 48 (strsN xs xs.length) = tlv 48 (xs.map strE).flatten := by rw [e0, elemS_flat (by omega)]
 have l1 := strE_len t
 have hL : ∀ j, (([elemS 48 (strsN xs xs.length), strE t] : List (List UInt8)).getD j []).length ≤ 16777215 := fun j => by
  match j with
  | 0 =>
   show (elemS 48 (strsN xs xs.length)).length ≤ _
   rw [e1, tlv_length]
   have := lenS_len (xs.map strE).flatten.length
   omega
  | 1 => show (strE t).length ≤ _; omega
  | j + 2 => exact Nat.zero_le _
 rw [hS]
 refine ⟨?_, _, _, rfl, by omega⟩
 unfold prnR
 rw [itm_seq (m := 0) hL (by omega) (by omega) (by omega), itm_seq (m := 1) hL (by omega) (by omega) (by omega)]
 have e2 : ([elemS 48 (strsN xs xs.length), strE t] : List (List UInt8)).getD 0 [] = tlv 48 (xs.map strE).flatten := e1
 have e3 : ([elemS 48 (strsN xs xs.length), strE t] : List (List UInt8)).getD 1 [] = strE t := rfl
 rw [e2, e3]
 have hel : ∀ x ∈ xs, sR (strE x) = x ∧ isEl (strE x) := fun x hx => str_back (by have := h2' x hx; omega)
 unfold eltR
 rw [conR_tlv' _ _ (by omega), elsR_flat _ (fun x hx => by obtain ⟨s, hs, rfl⟩ := List.mem_map.1 hx; exact (hel s hs).2), map_back (f := sR) (w := strE) (fun x hx => (hel x hx).1)]
 exact congrArg (Prod.mk xs) (str_back (by omega)).1
theorem key_back {k : Key} (h : keyOk k) : keyR (keyS k) = k ∧ isEl (keyS k) := by
 obtain ⟨a, v, c⟩ := k
 obtain ⟨ha, hv, hc⟩ := h
 have i1 := intS_len a
 have i2 := intS_len v
 have e3 : elemS 4 [c] = tlv 4 c := elemS_ok (by omega)
 have w3 := elemS_len 4 [c]
 simp only [List.flatten_cons, List.flatten_nil, List.append_nil] at w3
 have hL : ∀ j, (([intS a, intS v, elemS 4 [c]] : List (List UInt8)).getD j []).length ≤ 16777215 := fun j => by
  match j with
  | 0 => show (intS a).length ≤ _; omega
  | 1 => show (intS v).length ≤ _; omega
  | 2 => show (elemS 4 [c]).length ≤ _; omega
  | j + 3 => exact Nat.zero_le _
 obtain ⟨hS, hin⟩ := keyS_tlv a v c ha hv hc
 rw [hS]
 refine ⟨?_, _, _, rfl, hin⟩
 unfold keyR
 rw [itm_seq (m := 0) hL (by omega) (by omega) hin, itm_seq (m := 1) hL (by omega) (by omega) hin, itm_seq (m := 2) hL (by omega) (by omega) hin]
 have t0 : ([intS a, intS v, elemS 4 [c]] : List (List UInt8)).getD 0 [] = intS a := rfl
 have t1 : ([intS a, intS v, elemS 4 [c]] : List (List UInt8)).getD 1 [] = intS v := rfl
 have t2 : ([intS a, intS v, elemS 4 [c]] : List (List UInt8)).getD 2 [] = tlv 4 c := e3
 rw [t0, t1, t2, gInt_ok (by omega), gInt_ok (by omega), conR_tlv' _ _ (by omega)]
end Go.Proofs.YthmoognbccfpiaaGreatDoor

/- The plain law of the reference's reading: error messages. -/
namespace Go.Proofs.YthmoognbccfpiaaGreatDoor
open Go Go.Sx Go.Proofs
set_option maxRecDepth 100000
set_option maxHeartbeats 4000000
set_option linter.unusedSimpArgs false

theorem datR_ok {p : Pre} (h : ((0 : Int) ≤ p.1 ∧ p.1 ≤ (2147483647 : Int)) ∧ p.2.length ≤ 16384) : datR p = datS p := by
 obtain ⟨a, c⟩ := p
 obtain ⟨h1, h2⟩ := h
 dsimp only at h2
 have ha : (0 : Int) ≤ a ∧ a ≤ 4611686018427387904 := ⟨h1.1, Int.le_trans h1.2 (by decide)⟩
 obtain ⟨e, hl⟩ := datS_tlv a c ha (by omega)
 have hf : (tagN [intS a, elemS 4 [c]] 2).flatten = sufS [intS a, elemS 4 [c]] 0 2 := sufS_all [intS a, elemS 4 [c]]
 have ht : tagN [intS a, elemS 4 [c]] 2 = [wrapS 160 0 (intS a), wrapS 160 1 (elemS 4 [c])] := by simp [tagN, List.range_succ]
 have hi : intR a = intS a := intR_ok ha
 show elemS 48 [wrapS 160 0 (intR a), wrapS 160 1 (elemS 4 [c])] = _
 rw [e, hi, ← ht, elemS_flat (by rw [hf]; omega), hf]
theorem dataR_ok {l : List Pre} (h : vPre l = true) : dataR l = dataS l := by
 obtain ⟨h16, hv⟩ := vPre_f h
 obtain ⟨e, hl⟩ := dataS_tlv h
 have hm : mapN (t := PreT) datR l l.length = l.map datS := by
  unfold mapN; rw [List.take_length]
  exact List.map_congr_left fun p hp => datR_ok (hv p hp)
 unfold dataR
 rw [hm, e, elemS_flat (by omega)]
theorem preR2_ok {l : List Pre} (h : vPre l = true) : preR2 l = preO l := by unfold preR2 preO; rw [dataR_ok h]
theorem prinS_ok {p : Prin} (h : vPrin p = true) : prinS p = prinE p := by unfold prinE; rw [if_pos h]
theorem shP_ok {p : Prin} (h : vPrin p = true) : shP p := by
 obtain ⟨h1, h2, h3⟩ := vPrin_sz h
 exact ⟨by omega, fun x hx => by have := h2 x hx; omega, by omega⟩
theorem shD_ok {l : List Pre} (h : vPre l = true) : shD l := by
 obtain ⟨h16, hv⟩ := vPre_f h
 refine ⟨by omega, fun p hp => ?_⟩
 obtain ⟨h1, h2⟩ := hv p hp
 exact ⟨⟨Int.le_trans (by decide) h1.1, Int.le_trans h1.2 (by decide)⟩, by omega⟩
def datG (x : List UInt8) : Pre := ((gIntR (itmR x 0) : Int), conR (itmR x 1))
def preG (x : List UInt8) : List Pre := (eltR x).map datG
theorem dat_back {p : Pre} (h : ((0 : Int) ≤ p.1 ∧ p.1 ≤ (2147483647 : Int)) ∧ p.2.length ≤ 16384) : datG (datS p) = p ∧ isEl (datS p) := by
 obtain ⟨a, c⟩ := p
 obtain ⟨h1, h2⟩ := h
 dsimp only at h2
 change Int at a
 have h1' : 0 ≤ a ∧ a ≤ 2147483647 := h1
 obtain ⟨e, hl⟩ := datS_tlv a c (by omega) (by omega)
 have i1 := intS_len a
 have e3 : elemS 4 [c] = tlv 4 c := elemS_ok (by omega)
 have w3 := elemS_len 4 [c]
 simp only [List.flatten_cons, List.flatten_nil, List.append_nil] at w3
 have hL : ∀ j, (([intS a, elemS 4 [c]] : List (List UInt8)).getD j []).length ≤ 16777215 := fun j => by
  match j with
  | 0 => show (intS a).length ≤ _; omega
  | 1 => show (elemS 4 [c]).length ≤ _; omega
  | j + 2 => exact Nat.zero_le _
 have hs : (sufS [intS a, elemS 4 [c]] 0 2).length ≤ 16777215 := by omega
 refine ⟨?_, by rw [e]; exact ⟨_, _, rfl, hs⟩⟩
 unfold datG
 rw [e, itm_seq (m := 0) (k := 2) hL (by omega) (by omega) hs, itm_seq (m := 1) (k := 2) hL (by omega) (by omega) hs]
 show (((gIntR (intS a) : Nat) : Int), conR (elemS 4 [c])) = (a, c)
 rw [gInt_ok (by omega), e3, conR_tlv' _ _ (by omega)]
theorem pre_back {l : List Pre} (h : vPre l = true) : preG (preO l) = l := by
 obtain ⟨h16, hv⟩ := vPre_f h
 obtain ⟨e, hl⟩ := dataS_tlv h
 unfold preG preO
 by_cases h0 : l.length = 0
 · rw [if_pos h0, List.length_eq_zero_iff.1 h0, eltR_nil]; rfl
 · rw [if_neg h0, e]
   unfold eltR
   rw [conR_tlv' _ _ (by omega), elsR_flat _ (fun x hx => by obtain ⟨s, hs, rfl⟩ := List.mem_map.1 hx; exact (dat_back (hv s hs)).2)]
   exact map_back fun p hp => (dat_back (hv p hp)).1
end Go.Proofs.YthmoognbccfpiaaGreatDoor

