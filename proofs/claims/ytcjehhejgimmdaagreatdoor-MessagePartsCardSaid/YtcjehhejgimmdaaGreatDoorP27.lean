/- Contracts: the encoding of a request, as a row of its own. -/
import Derived.Test.YtcjehhejgimmdaaGreatDoorP17
import Derived.Test.YtcjehhejgimmdaaGreatDoorP22
import Derived.Test.YtcjehhejgimmdaaGreatDoorP23
import Derived.Test.YtcjehhejgimmdaaGreatDoorP26
import Derived.Test.YtcjehhejgimmdaaGreatDoorP25
set_option linter.all false
namespace Go.Proofs.YtcjehhejgimmdaaGreatDoor
open Go Go.Sx Go.Proofs
set_option maxRecDepth 100000
set_option maxHeartbeats 4000000
theorem z4p (tag : UInt8) (parts : List (List UInt8)) (hp : parts.length ≤ 1125899906842624) : VC Tryz.prog 153 [.raw (.int .u8 tag.toNat), .isl (.slice .u8) parts] [] (RowK .u8 (elemS tag parts)) := by
 refine q4h ?_
 refine rQ fi153 ?_
 refine q0W (fun i => [(5, rI ((flatN parts i).length)), (13, .raw (.int .i64 ((i : Nat) : Int)))]) (parts.length) (fun j => (fitAt parts) j = true) (by first | decide | simp) (fun i => rfl) ?_ fun i hi hall => ?_
 · (with_reducible refine sxE ?_ <;> try exact True.intro)
   all_goals (try rfl)
 have hwr := wsx i (by omega)
 refine gQ ?_
 have bad : i < (parts.length) → (fitAt parts) i = false → allN (parts.length) (fitAt parts) = false := fun hlt hv => q0k hlt hv
 have fin : ¬ i < (parts.length) → allN (parts.length) (fitAt parts) = true := fun h => q0p fun j hj => hall j (by omega)
 try dsimp only at bad fin hall
 have hn : (flatN parts i).length ≤ 16777215 := by
  cases i with
  | zero => simp [flatN]
  | succ j => have := hall j (by omega); simpa [fitAt] using this
 rw [wrapi (n := 16777215 - ((flatN parts i).length : Int)) (by omega), wrapi (n := ((flatN parts i).length : Int) + 5) (by omega)]
 refine ⟨fun hlt => ⟨⟨by omega, hlt⟩, fun hbig => ?_, fun hfit => ?_⟩, fun hge => ?_⟩
 · have h1 := q2J parts (i + 1)
   rw [q2d hlt, List.length_append] at h1
   refine q2O ?_
   unfold elemS
   rw [if_neg (by omega)]
 · have h2 : ((flatN parts i).length : Int) + ((parts.getD i (Ty.slice .u8).dflt).length : Int) = ((flatN parts (i + 1)).length : Int) := by rw [q2d hlt, List.length_append]; rfl
   have h3 : (flatN parts (i + 1)).length ≤ 16777215 := by omega
   refine ⟨hlt, q1c hall (by simpa [fitAt] using h3), ⟨_, rfl⟩, ?_⟩
   rw [h2, wrapi (n := ((flatN parts (i + 1)).length : Int)) (by omega)]
   with_reducible refine sx1 hwr ?_; trivial
 obtain rfl : i = parts.length := by omega
 rw [q3x] at *
 have he : elemS tag parts = tag :: (lenS parts.flatten.length ++ flatN parts parts.length) := by unfold elemS tlv; rw [if_pos hn, q3x]
 refine ⟨⟨by omega, by omega, by omega⟩, z8A tag, fun h1 => ⟨q0Q _, ?_⟩, fun h1 => ⟨fun h2 => ⟨?_, ?_⟩, fun h2 => ⟨fun h3 => ⟨?_, ?_⟩, fun h3 => ⟨?_, ?_⟩⟩⟩⟩
 any_goals (repeat' (first | exact q0Q _ | exact rfl | with_reducible refine And.intro ?_ ?_))
 have hL : lenS parts.flatten.length = [byteOf parts.flatten.length] := by unfold lenS; rw [if_pos (by omega)]
 rotate_left
 have hL : lenS parts.flatten.length = [129, byteOf parts.flatten.length] := by unfold lenS; rw [if_neg (by omega), if_pos (by omega)]
 rotate_left
 have hL : lenS parts.flatten.length = [130, byteOf ((parts.flatten.length : Int).fdiv 256), byteOf parts.flatten.length] := by unfold lenS; rw [if_neg (by omega), if_neg (by omega), if_pos (by omega)]
 rotate_left
 have hL : lenS parts.flatten.length = [131, byteOf ((parts.flatten.length : Int).fdiv 65536), byteOf ((parts.flatten.length : Int).fdiv 256), byteOf parts.flatten.length] := by unfold lenS; rw [if_neg (by omega), if_neg (by omega), if_neg (by omega)]
 rotate_left
 all_goals
  refine q7S (H := [_, _, _, _]) 8 .u8 (fun i => tag :: (lenS parts.flatten.length ++ flatN parts i)) (fun i => [(44, .any), (52, .any), (60, .any), (71, .any), (74, rI i)]) parts.length (fun _ => True) (by rw [hL]; simp [flatN, byteOf]) (by simp) rfl (fun i => rfl) ?_ fun i hi _ => ?_
  · with_reducible refine sx1 hL ?_
    simp [flatN]
  have hwr := wsx i (by omega)
  have hfl := q2J parts i
  have hll : (lenS parts.flatten.length).length ≤ 4 := by rw [hL]; simp
  refine gQ ?_
  have e1 : (lenS parts.flatten.length ++ flatN parts i).length = (lenS parts.flatten.length).length + (flatN parts i).length := List.length_append
  refine ⟨fun hlt => ?_, fun hge => ?_⟩
  · have h4 := q2J parts (i + 1)
    have h5 := q2d hlt
    rw [h5, List.length_append] at h4
    refine ⟨⟨by omega, hlt⟩, ⟨by omega, by omega⟩, q1b [.dead] [] hlt trivial (by rw [h5, ← List.append_assoc]; rfl) ?_⟩
    with_reducible refine sx3 hwr h5 ?_
    exact congrArg (SV.bld 5 .u8) (by omega)
  obtain rfl : i = parts.length := by omega
  rw [he]
  exact q3Y (h := 4) rfl rfl
theorem z2I (tag : UInt8) (n : Int) (hn : n = tag.toNat) (parts : List (List UInt8)) (hp : parts.length ≤ 1125899906842624) : VC Tryz.prog 153 [.raw (.int .u8 n), .isl (.slice .u8) parts] [] (RowK .u8 (elemS tag parts)) := by
 subst hn; exact z4p tag parts hp
theorem z3M (tag n : Int) (b : List UInt8) (ht : 0 ≤ tag ∧ tag ≤ 1000) : VC Tryz.prog 151 [rI tag, rI n, .isl .u8 b] [] (RowK .u8 (wrapS tag n b)) := by
 refine q4h ?_
 refine rQ fi151 ?_
 refine ⟨fun h1 => ⟨fun h2 => ⟨fun h3 => ?_, fun h3 => ?_⟩, fun h2 => ?_⟩, fun h1 => ?_⟩
 · refine q2O ?_
   unfold wrapS; rw [if_neg (fun h => h.2.2 (List.length_eq_zero_iff.1 (by omega)))]
 · refine q0v 0 ?_
   with_reducible refine sxE ?_
   have hw : wrapS tag n b = elemS (byteOf (tag + n)) [b] := by
    unfold wrapS
    rw [if_pos ⟨by omega, by omega, fun e => h3 (by rw [e]; rfl)⟩]
   rw [hw]
   refine q2V (z2I (byteOf (tag + n)) _ ?_ _ (by simp)) rfl rfl (fun h0 => ?_) ?_
   · rw [wrapi (by omega)]; exact (q0Q _).symm
   · refine gQ ?_
     exact q2O h0
   refine gQ ?_
   exact q3Y (h := 1) rfl rfl
 · refine q2O ?_
   unfold wrapS; rw [if_neg (by omega)]
 refine q2O ?_
 unfold wrapS; rw [if_neg (by omega)]
theorem j2v (n : Int) (b : List UInt8) : VC Tryz.prog 150 [rI n, .isl .u8 b] [] (RowK .u8 (wrapS 96 n b)) := by
 refine q4h ?_
 refine rQ fi150 ?_
 refine q2V (z3M 96 n b (by omega)) rfl rfl (fun h0 => ?_) ?_
 · refine gQ ?_
   exact q2O h0
 refine gQ ?_
 exact q3Y (h := 0) rfl rfl
theorem j2t (n : Int) (l : List (List UInt8)) (hl : l.length ≤ 1125899906842624) : VC Tryz.prog 80 [rI n, .isl (.slice .u8) l] [] (RowK .u8 (wrapS 96 n (elemS 48 l))) := by
 refine q4h ?_
 refine rQ fi80 ?_
 refine q0a (q1Z l hl) ?_
 refine gQ ?_
 refine q2V (j2v n _) rfl rfl (fun h0 => ?_) ?_
 · refine gQ ?_
   exact q2O h0
 refine gQ ?_
 exact q3Y (h := 0) rfl rfl
theorem j2d {r : Req} {va vt : Bool} {wa wt : List UInt8} (h : ReqC r va vt wa wt) (hs : sReq r va vt = true) : VC Tryz.prog 67 [.agg (ReqT.cells r)] [] (RowK .u8 (reqS r wa wt)) := by
 obtain ⟨hl, hp⟩ := q8o hs
 have hb := z0F r wa wt h.ok h.opt hp h.wa h.wt
 have ho := h.ok
 have hr : reqS r wa wt = wrapS 96 r.1 (elemS 48 [wrapS 160 1 (intS 5), wrapS 160 2 (intS r.1), preS 3 r.2.1, wrapS 160 4 (bodyS r wa wt)]) := rfl
 rw [hr]
 clear hr hs h hp
 generalize bodyS r wa wt = bd at *
 obtain ⟨k, pre, opt, cl, sv, fr, ti, re, no, pf, ad, tk⟩ := r
 obtain ⟨_, o2, _⟩ := ho
 dsimp only at hl
 refine q4h ?_
 refine rQ fi67 ?_
 refine q0b (q1a 5) ?_
 refine gQ ?_
 refine q0b (q0D _ _) ?_
 refine gQ ?_
 refine q0b (q1a k) ?_
 refine gQ ?_
 refine q0b (q0D _ _) ?_
 refine gQ ?_
 refine q0b (q6j 3 pre o2 hl) ?_
 refine gQ ?_
 refine q0b (hb) ?_
 refine gQ ?_
 refine q0b (q0D _ _) ?_
 refine gQ ?_
 refine q0R 1 (by decide) ?_
 with_reducible refine sxE ?_
 refine z3s (j2t k _ (by simp)) rfl rfl ?_ (fun h0 => ?_) ?_
 · simp (maxSteps := 3000000) only [q0Z, q1l, go_sem, ↓zA, ↓reduceIte, ↓reduceDIte] <;> try simp only [zB]
 · refine gQ ?_
   exact q2O h0
 refine gQ ?_
 exact q3Y (h := 2) rfl rfl
theorem z6T {r : Req} {va vt : Bool} {wa wt : List UInt8} (hc : ReqC r va vt wa wt) (hv : vReq r va vt wa wt = true) (hne : reqS r wa wt ≠ []) : VC Tryz.prog 20 [.agg (ReqT.cells r)] [] (RowT .u8 (reqS r wa wt) (.int .i64 0)) := by
 have h1 := z8V r va vt hc.ok hc.va hc.vt
 have hs : sReq r va vt = true := by simp only [vReq, Bool.and_eq_true] at hv; exact hv.1
 have hle : (reqS r wa wt).length ≤ 65536 := by simp only [vReq, Bool.and_eq_true, decide_eq_true_eq] at hv; exact hv.2
 have h2 := j2d hc hs
 rw [hs] at h1
 clear hc hv hs
 generalize reqS r wa wt = w at *
 obtain ⟨k, pre, opt, cl, sv, fr, ti, re, no, pf, ad, tk⟩ := r
 refine q4h ?_
 refine rQ fi20 ?_
 refine q0a h1 ?_
 refine gQ ?_
 refine q2V h2 rfl rfl (fun h0 => ?_) ?_
 · exact absurd h0 hne
 refine gQ ?_
 refine z0a fi66 ?_
 refine uQ 600 _ ?_
 simp (maxSteps := 3000000) only [opK, go_sem, ↓zA, ↓reduceIte, ↓reduceDIte] <;> try simp only [zB]
 refine ⟨fun h => absurd h (by omega), fun _ => ?_⟩
 refine gQ ?_
 exact z7F (h := 1) rfl rfl
theorem z4q (l : List UInt8) (hl : l.length ≤ 140737488355328) : VC Tryz.prog 70 [.isl .u8 l] [] (RowK .u8 l) := by
 refine q4h ?_
 refine rQ fi70 ?_
 refine ⟨⟨by omega, by omega⟩, ?_⟩
 exact q3Y (h := 0) rfl (by omega)
def kdAt (l : List Pre) (k : Int) (j : Nat) : Bool := decide ((l.getD j PreT.dflt).1 = k)
def preV (l : List Pre) (k : Int) : List UInt8 := match firstN l.length (kdAt l k) with
 | some j => (l.getD j PreT.dflt).2
 | none => []
def preB (l : List Pre) (k : Int) : Bool := (firstN l.length (kdAt l k)).isSome
theorem z4U (l : List Pre) (k : Int) (hl : l.length ≤ 1125899906842624) (hb : ∀ j, j < l.length → (l.getD j PreT.dflt).2.length ≤ 140737488355328) : PC Tryz.prog 23 [.isl PreT l, rI k] (.tup [.isl .u8 (preV l k), rB (preB l k)]) := by
 refine q0e rfl rfl ?_
 refine rQ fi23 ?_
 refine q0W (fun i => [(10, .raw (.int .i64 ((i : Nat) : Int)))]) (l.length) (fun j => (fun j => !kdAt l k j) j = true) (by first | decide | simp) (fun i => rfl) ?_ fun i hi hall => ?_
 · (with_reducible refine sxE ?_ <;> try exact True.intro)
   all_goals (try rfl)
 have hwr := wsx i (by omega)
 refine gQ ?_
 have bad : i < (l.length) → (fun j => !kdAt l k j) i = false → allN (l.length) (fun j => !kdAt l k j) = false := fun hlt hv => q0k hlt hv
 have fin : ¬ i < (l.length) → allN (l.length) (fun j => !kdAt l k j) = true := fun h => q0p fun j hj => hall j (by omega)
 try dsimp only at bad fin hall
 refine ⟨fun hlt => ⟨⟨by omega, hlt⟩, fun h1 => ?_, fun h1 => ?_⟩, fun hge => ?_⟩
 · have hf : firstN l.length (kdAt l k) = some i := q3h hlt (decide_eq_true h1) (fun j hj => by simpa using hall j hj)
   have hv : preV l k = (l.getD i PreT.dflt).2 := by unfold preV; rw [hf]
   have hB : preB l k = true := by unfold preB; rw [hf]; rfl
   have hbl := hb i hlt
   rw [hv, hB]
   refine q2V (z4q _ hbl) rfl rfl (fun h0 => ?_) ?_
   · refine gQ ?_
     rw [h0]
   refine gQ ?_
   exact ⟨⟨Nat.le_refl _, by omega⟩, List.take_of_length_le (Nat.le_refl _)⟩
 · refine ⟨hlt, q1c (fun j hj => by simpa using hall j hj) (by simpa [kdAt] using h1), ⟨[_], rfl⟩, ?_⟩
   with_reducible refine sx1 hwr ?_; trivial
 have hf : firstN l.length (kdAt l k) = none := z0h (fun j hj => by simpa using hall j (by omega))
 have hv : preV l k = [] := by unfold preV; rw [hf]
 have hB : preB l k = false := by unfold preB; rw [hf]; rfl
 rw [hv, hB]
 exact ⟨rfl, rfl⟩
theorem q3t (n : Int) : PC Tryz.prog 15 [rI n] (rI n) := by
 refine q0B rfl rfl ?_
 refine rQ fi15 ?_; trivial
def tgsP : Prin := ([⟨#[107, 114, 98, 116, 103, 116]⟩, ⟨#[82]⟩], ⟨#[82]⟩)
theorem z1N : PC Tryz.prog 18 [] (.agg (PrinT.cells tgsP)) := by
 refine q0e rfl rfl ?_
 refine rQ fi18 ?_
 exact ⟨⟨by decide, by decide⟩, rfl, rfl⟩
theorem z7R : PC Tryz.prog 50 [.isl PreT []] (rB true) := by
 refine q0B rfl rfl ?_
 refine rQ fi50 ?_
 refine q0W (fun i => [(10, .raw (.int .i64 ((i : Nat) : Int)))]) (0) (fun j => (fun _ => true) j = true) (by first | decide | simp) (fun i => rfl) ?_ fun i hi hall => ?_
 · (with_reducible refine sxE ?_ <;> try exact True.intro)
   all_goals (try rfl)
 have hwr := wsx i (by omega)
 refine gQ ?_
 have bad : i < (0) → (fun _ => true) i = false → allN (0) (fun _ => true) = false := fun hlt hv => q0k hlt hv
 have fin : ¬ i < (0) → allN (0) (fun _ => true) = true := fun h => q0p fun j hj => hall j (by omega)
 try dsimp only at bad fin hall
 exact ⟨fun h => absurd h (by omega), fun _ => trivial⟩
theorem z6C : PC Tryz.prog 136 [.isl TickT []] (rB true) := by
 refine q0B rfl rfl ?_
 refine rQ fi136 ?_
 refine q0W (fun i => [(10, .raw (.int .i64 ((i : Nat) : Int)))]) (0) (fun j => (fun _ => true) j = true) (by first | decide | simp) (fun i => rfl) ?_ fun i hi hall => ?_
 · (with_reducible refine sxE ?_ <;> try exact True.intro)
   all_goals (try rfl)
 have hwr := wsx i (by omega)
 refine gQ ?_
 have bad : i < (0) → (fun _ => true) i = false → allN (0) (fun _ => true) = false := fun hlt hv => q0k hlt hv
 have fin : ¬ i < (0) → allN (0) (fun _ => true) = true := fun h => q0p fun j hj => hall j (by omega)
 try dsimp only at bad fin hall
 exact ⟨fun h => absurd h (by omega), fun _ => trivial⟩
def cliA : Prin := ([⟨#[97]⟩], ⟨#[82]⟩)
def rq1 : Req := (10, [], 0, cliA, tgsP, 0, 100, 0, 7, [1, 2], [], [])
def rq2 : Req := (10, [], 0, cliA, tgsP, 0, 100, 0, 7, [1, 1], [], [])
def rq3 : Req := (12, [], 0, cliA, tgsP, 0, 100, 0, 7, [1, 2], [], [])
def fl1 : Fail := (25, 10, 0, ([], ⟨#[]⟩), tgsP, ⟨#[]⟩, [])
theorem okstr (s : ByteArray) (h : s.size ≤ 140737488355328) : Ty.str.ok s := h
theorem okcli : PrinT.ok cliA := by
 refine ⟨⟨by decide, fun x hx => ?_⟩, okstr _ (by decide)⟩
 simp [cliA] at hx; subst hx; exact okstr _ (by decide)
theorem oktgs : PrinT.ok tgsP := by
 refine ⟨⟨by decide, fun x hx => ?_⟩, okstr _ (by decide)⟩
 simp [tgsP] at hx; rcases hx with rfl | rfl <;> exact okstr _ (by decide)
theorem rqC (k : Int) (pf : List Int) (hp : pf.length ≤ 10) : ReqC (k, [], 0, cliA, tgsP, 0, 100, 0, 7, pf, [], []) true true [] [] where
 ok := ⟨trivial, ⟨Nat.zero_le _, fun x hx => by cases hx⟩, trivial, okcli, oktgs, trivial, trivial, trivial, trivial, ⟨by show pf.length ≤ _; omega, fun _ _ => trivial⟩, ⟨Nat.zero_le _, fun x hx => by cases hx⟩, ⟨Nat.zero_le _, fun x hx => by cases hx⟩⟩
 opt := ⟨Int.le_refl _, by show (0 : Int) ≤ 4294967295; decide⟩
 va := z7R
 vt := z6C
 wa := fun h => absurd rfl h
 wt := fun h => absurd rfl h
theorem okfl : FailT.ok fl1 := ⟨trivial, trivial, trivial, ⟨⟨by decide, fun x hx => by cases hx⟩, okstr _ (by decide)⟩, oktgs, okstr _ (by decide), ⟨by decide, fun x hx => by cases hx⟩⟩
theorem vrq1 : vReq rq1 true true [] [] = true := by decide +kernel
theorem vrq2 : vReq rq2 true true [] [] = false := by decide +kernel
theorem vrq3 : vReq rq3 true true [] [] = false := by decide +kernel
theorem lbod : (bodyS rq1 [] []).length = 76 := by decide +kernel
def rqB : List UInt8 := reqS rq1 [] []
theorem lrqB : rqB.length = 92 := by decide +kernel
theorem hrqB : (rqB.getD 0 Ty.u8.dflt) = 106 := by decide +kernel
theorem vfl1 : vFail fl1 = true := by decide +kernel
theorem lfl1 : (failS fl1).length = 58 := by decide +kernel
theorem hfl1 : (failS fl1).getD 0 Ty.u8.dflt = 126 := by decide +kernel
theorem rd1 : reqP 10 (rqB ++ [0]) = .ok (rq1, 92) := by kernel_rfl
theorem bad1 : badR 10 (rqB ++ [0]) := .inr ⟨rq1, 92, rd1, by rw [List.length_append, lrqB]; decide⟩
def noAT (b : List UInt8) : Prop := ∀ x ∈ b, x ≠ tagB 8 ∧ x ≠ tagB 9
theorem q6P {b : List UInt8} {i q : Nat} (h : ∀ x ∈ b, x ≠ tagB i) : nextB i (b.drop q) = false := by
 cases hn : nextB i (b.drop q) with
 | false => rfl
 | true =>
  simp only [nextB, Bool.and_eq_true, decide_eq_true_eq, ne_eq] at hn
  obtain ⟨h1, h2⟩ := hn
  exact absurd h2 (h _ (List.mem_of_mem_drop (q1g (by omega))))
theorem noATB : BodB noAT where
 tk := fun r h x hx => h x (List.mem_of_mem_take (List.mem_of_mem_drop hx))
 dr := fun r n h x hx => h x (List.mem_of_mem_drop hx)
 h := fun k pre c h => ⟨fun q _ hn => (by rw [q6P (fun x hx => (h x hx).1)] at hn; cases hn), fun _ _ _ _ _ _ _ _ _ q _ hn => (by rw [q6P (fun x hx => (h x hx).2)] at hn; cases hn), fun _ _ _ _ _ _ _ _ q _ hn => (by rw [q6P (fun x hx => (h x hx).2)] at hn; cases hn)⟩
theorem rqAT : noAT (rqB ++ [0]) := by
 have h : (rqB ++ [0]).all (fun x => decide (x ≠ tagB 8) && decide (x ≠ tagB 9)) = true := by decide +kernel
 intro x hx
 have := List.all_eq_true.1 h x hx
 simpa using this
theorem krq : kindB (rqB ++ [0]) 0 = true ∧ kindV (rqB ++ [0]) 0 = ((10 : Nat) : Int) := ⟨by decide +kernel, by decide +kernel⟩
theorem j2b : PC Tryz.prog 24 [.isl .u8 (rqB ++ [0])] (.tup [.agg (ReqT.cells ReqT.dflt), rI 6]) :=
 z3v noATB 10 (by decide) (rqB ++ [0]) (by rw [List.length_append, lrqB]; decide) rqAT krq.1 krq.2 bad1
theorem q3V : PC Tryz.prog 5 [] (rB true) := by
 have hc1 := rqC 10 [1, 2] (by decide)
 have hc2 := rqC 10 [1, 1] (by decide)
 have hc3 := rqC 12 [1, 2] (by decide)
 have cb := j2r hc1
 have ce := z6T hc1 vrq1 (fun h => by have := lrqB; unfold rqB at this; change reqS rq1 [] [] = [] at h; rw [h] at this; cases this)
 have cf := z6j fl1 okfl
 have v2 := q5s hc2
 have v3 := q5s hc3
 have cd := j2b
 change PC _ _ [.agg (ReqT.cells rq1)] (.tup [.isl .u8 (if vReq rq1 true true [] [] then bodyS rq1 [] [] else []), rI (if vReq rq1 true true [] [] then 0 else 2)]) at cb
 change VC _ _ [.agg (ReqT.cells rq1)] [] (RowT .u8 rqB _) at ce
 change PC _ _ [.agg (ReqT.cells rq2)] (rB (vReq rq2 true true [] [])) at v2
 change PC _ _ [.agg (ReqT.cells rq3)] (rB (vReq rq3 true true [] [])) at v3
 rw [vrq1, if_pos rfl, if_pos rfl] at cb
 rw [vfl1, if_pos rfl, if_pos rfl] at cf
 rw [vrq2] at v2
 rw [vrq3] at v3
 have l1 := lbod
 have l2 := lrqB
 have l3 := lfl1
 have g2 := hrqB
 have g3 := hfl1
 have ct := z5M (failS fl1)
 have ht : typB (failS fl1) = true ∧ typN (failS fl1) = 30 := by unfold typB typN; rw [show (failS fl1).getD 0 0 = 126 from g3]; refine ⟨?_, by decide⟩; rw [decide_eq_true (fun e => by rw [e] at l3; cases l3)]; decide
 rw [ht.1, if_pos rfl, if_pos rfl, ht.2] at ct
 clear ht hc1 hc2 hc3
 generalize bodyS rq1 [] [] = bd at *
 generalize rqB = rb at *
 generalize failS fl1 = fb at *
 refine q0B rfl rfl ?_
 refine rQ fi5 ?_
 refine ⟨by decide, q0a z1N ?_⟩
 refine uQ 5 _ ?_
 with_reducible refine sxE ?_
 refine q1t 0 rfl rfl (by simp) ?_ ?_ ?_
 · with_reducible refine sxE ?_; trivial
 · with_reducible refine sxE ?_; trivial
 with_reducible refine sxE ?_
 refine q1t 1 rfl rfl (by simp) ?_ ?_ ?_
 · with_reducible refine sxE ?_; trivial
 · with_reducible refine sxE ?_; trivial
 with_reducible refine sxE ?_
 refine gQ ?_
 refine q0a z1N ?_
 refine gQ ?_
 refine q0a (cb.arg ?_) ?_
 · simp (maxSteps := 3000000) only [rq1, cliA, tgsP, go_sem, ↓zA, ↓reduceIte, ↓reduceDIte] <;> try simp only [zB]
 refine gQ ?_
 refine z3t (VC.arg ce ?_) rfl rfl (fun h0 => by rw [h0] at l2; cases l2) ?_
 · simp (maxSteps := 3000000) only [rq1, cliA, tgsP, go_sem, ↓zA, ↓reduceIte, ↓reduceDIte] <;> try simp only [zB]
 refine gQ ?_
 refine q0a (cf.arg ?_) ?_
 · simp (maxSteps := 3000000) only [fl1, tgsP, go_sem, ↓zA, ↓reduceIte, ↓reduceDIte] <;> try simp only [zB]
 refine gQ ?_
 refine q0a (q3t _) ?_
 refine gQ ?_
 refine q0a (q3t _) ?_
 refine gQ ?_
 refine q0a (q3t _) ?_
 have hw00 : IntKind.i64.wrap (0 + 0) = 0 := by decide
 refine uQ 600 _ ?_
 simp (maxSteps := 3000000) only [hw00, g2, g3, go_sem, ↓zA, ↓reduceIte, ↓reduceDIte] <;> try simp only [zB]
 refine ⟨fun _ => ⟨fun _ => ⟨by omega, by omega, fun _ => ⟨fun _ => ⟨by omega, fun h => absurd rfl h, fun _ => ?_⟩, fun h => absurd (by omega) h⟩, fun h => absurd rfl h⟩, fun h => absurd (by omega) h⟩, fun h => absurd (by omega) h⟩
 refine z0a fi22 ?_
 refine uQ 600 _ ?_
 simp (maxSteps := 3000000) only [opK, g2, go_sem, ↓zA, ↓reduceIte, ↓reduceDIte] <;> try simp only [zB]
 refine ⟨fun h => absurd h (by omega), fun _ => ⟨by omega, by omega, q0a (q3r _ _ _) ?_⟩⟩
 refine uQ 600 _ ?_
 simp (maxSteps := 3000000) only [opK, go_sem, ↓zA, ↓reduceIte, ↓reduceDIte] <;> try simp only [zB]
 have hty : IntKind.i64.wrap (IntKind.i64.wrap ((UInt8.toNat 106 : Nat) : Int) - 96) = 10 := by decide
 refine ⟨fun h => absurd h (by decide), fun _ => ?_⟩
 rw [hty]
 refine gQ ?_
 refine q0a ct ?_
 refine gQ ?_
 have ct0 : PC Tryz.prog 22 [.isl .u8 [UInt8.ofNat 48, UInt8.ofNat 0]] (.tup [rI 0, rI 6]) := z5M [48, 0]
 refine ⟨⟨by decide, by decide⟩, q0v 5 ?_⟩
 with_reducible refine sxE ?_
 refine q0a ct0 ?_
 refine uQ 10 _ ?_
 with_reducible refine sxE ?_
 refine ⟨by decide, ?_⟩
 refine q1t 6 rfl rfl (by simp) ?_ ?_ ?_
 · with_reducible refine sxE ?_; trivial
 · with_reducible refine sxE ?_; trivial
 with_reducible refine sxE ?_
 refine gQ ?_
 have cp := z4U [(2, []), (2, [UInt8.ofNat 1])] 2 (by simp) (fun j hj => by
  match j, hj with
  | 0, _ => decide
  | 1, _ => decide)
 have cp1 : preV [(2, []), (2, [UInt8.ofNat 1])] 2 = [] := by decide
 have cp2 : preB [(2, []), (2, [UInt8.ofNat 1])] 2 = true := by decide
 rw [cp1, cp2] at cp
 refine q0v 7 ?_
 with_reducible refine sxE ?_
 refine q0a (cp.arg ?_) ?_
 · with_reducible refine sxE ?_; trivial
 refine gQ ?_
 have l4 : (rb ++ [UInt8.ofNat 0]).length = rb.length + 1 := List.length_append
 refine ⟨by decide, ⟨by omega, by omega⟩, q0v 9 ?_⟩
 with_reducible refine sxE ?_
 rw [List.take_of_length_le (by omega)]
 refine ⟨by omega, by omega, q0a cd ?_⟩
 refine gQ ?_
 refine q0a (q3t _) ?_
 refine gQ ?_
 refine q0a (q3t _) ?_
 refine uQ 600 _ ?_
 with_reducible refine sx1 hw00 ?_
 refine q0a (q3t _) ?_
 refine gQ ?_
 refine q0a (q3t _) ?_
 refine uQ 14 _ ?_
 with_reducible refine sxE ?_
 refine q1t 12 rfl rfl (by simp) ?_ ?_ ?_
 · with_reducible refine sxE ?_; trivial
 · with_reducible refine sxE ?_; trivial
 with_reducible refine sxE ?_
 refine gQ ?_
 refine q0a (v2.arg ?_) ?_
 · simp (maxSteps := 3000000) only [rq2, cliA, tgsP, go_sem, ↓zA, ↓reduceIte, ↓reduceDIte] <;> try simp only [zB]
 refine gQ ?_
 refine q0a (v3.arg ?_) ?_
 · simp (maxSteps := 3000000) only [rq3, cliA, tgsP, go_sem, ↓zA, ↓reduceIte, ↓reduceDIte] <;> try simp only [zB]
 refine gQ ?_; trivial
def s300 (l : List Pre) (j : Nat) : Bool := decide (((l.getD j PreT.dflt).2.length : Int) ≤ 300)
def fewB (l : List Pre) : Bool := allN l.length (s300 l) && decide ((l.length : Int) ≤ 20)
def s40 (l : List ByteArray) (j : Nat) : Bool := decide (((l.getD j (Ty.dflt .str)).size : Int) ≤ 40)
def shortB (p : Prin) : Bool := (decide ((p.1.length : Int) ≤ 6) && decide ((p.2.size : Int) ≤ 40)) && allN p.1.length (s40 p.1)
theorem q8C (p : Prin) (hp : PrinT.ok p) : PC Tryz.prog 16 [.agg (PrinT.cells p)] (rB (shortB p)) := by
 obtain ⟨l, r⟩ := p
 have hl : l.length ≤ 1125899906842624 := hp.1.1
 have hd : shortB (l, r) = ((decide ((l.length : Int) ≤ 6) && decide ((r.size : Int) ≤ 40)) && allN l.length (s40 l)) := rfl
 refine q0B rfl rfl ?_
 refine rQ fi16 ?_
 refine q0W (fun i => [(3, .raw (.int .i64 ((i : Nat) : Int)))]) (l.length) (fun j => (s40 l) j = true) (by first | decide | simp) (fun i => rfl) ?_ fun i hi hall => ?_
 · (with_reducible refine sxE ?_ <;> try exact True.intro)
   all_goals (try rfl)
 have hwr := wsx i (by omega)
 refine gQ ?_
 have bad : i < (l.length) → (s40 l) i = false → allN (l.length) (s40 l) = false := fun hlt hv => q0k hlt hv
 have fin : ¬ i < (l.length) → allN (l.length) (s40 l) = true := fun h => q0p fun j hj => hall j (by omega)
 try dsimp only at bad fin hall
 refine ⟨fun hlt => ⟨⟨by omega, hlt⟩, fun h => ?_, fun h => ?_⟩, fun hge => ?_⟩
 · rw [hd, bad hlt (decide_eq_false (fun q => absurd h (Int.not_lt.2 q))), Bool.and_false]
 · refine ⟨hlt, q1c hall (decide_eq_true (Int.not_lt.1 h)), ⟨[], rfl⟩, ?_⟩
   with_reducible refine sx1 hwr ?_; trivial
 rw [hd, fin hge, Bool.and_true]
 exact ⟨fun h => by rw [decide_eq_true h, Bool.true_and], fun h => by rw [decide_eq_false h, Bool.false_and]⟩
theorem z6S {p : Prin} (h : shortB p = true) : shP p := by
 simp only [shortB, Bool.and_eq_true, decide_eq_true_eq] at h
 refine ⟨by omega, fun x hx => ?_, by omega⟩
 obtain ⟨j, hj, rfl⟩ := List.getElem_of_mem hx
 have := q1S.1 h.2 j hj
 simp only [s40, decide_eq_true_eq, List.getD_eq_getElem?_getD, List.getElem?_eq_getElem hj, Option.getD_some] at this
 omega
theorem j1Q {l : List Pre} (h : fewB l = true) (hr : (Ty.slice PreT).inR l) : shD l := by
 simp only [fewB, Bool.and_eq_true, decide_eq_true_eq] at h
 refine ⟨by omega, fun x hx => ⟨(hr x hx).1, ?_⟩⟩
 obtain ⟨j, hj, rfl⟩ := List.getElem_of_mem hx
 have := q1S.1 h.1 j hj
 simp only [s300, decide_eq_true_eq, List.getD_eq_getElem?_getD, List.getElem?_eq_getElem hj, Option.getD_some] at this
 omega
theorem j1a (b w : List UInt8) (e : Int) (v : Bool) : PC Tryz.prog 11 [.isl .u8 b, rI e, rB v, .isl .u8 w] (rB (if v then decide (b = w) && decide (e = 0) else decide (b.length = 0) && decide (e = 2))) := by
 refine q0B rfl rfl ?_
 refine rQ fi11 ?_ <;> try with_reducible exact True.intro
 repeat' (first
  | (refine q0a (q3t _) ?_; refine uQ 600 _ ?_; simp (maxSteps := 3000000) only [go_sem, ↓zA, ↓reduceIte, ↓reduceDIte] <;> try simp only [zB])
  | (refine q0b (q3t _) ?_; refine uQ 600 _ ?_; simp (maxSteps := 3000000) only [go_sem, ↓zA, ↓reduceIte, ↓reduceDIte] <;> try simp only [zB])
  | (refine q0t (q3t _) ?_; refine uQ 600 _ ?_; simp (maxSteps := 3000000) only [go_sem, ↓zA, ↓reduceIte, ↓reduceDIte] <;> try simp only [zB])
  | (with_reducible refine And.intro ?_ ?_)
  | (with_reducible intro _))
 all_goals (simp_all [q4x])
theorem z6I (b : List UInt8) : visB (strOf b) = visA b := by
 simp [visB, visA, visC, strOf, ByteArray.size]
 rfl
theorem z1d (a : Pre) (ho : PreT.ok a) : PC Tryz.prog 78 [.agg (PreT.cells a)] (rB (vAdr a)) := by
 obtain ⟨k, b⟩ := a
 change Int at k
 have hv : b.length ≤ 16 → PC Tryz.prog 76 [rS (strOf b)] (rB (visA b)) := fun h => by
  have := z2b (strOf b) (by simp [strOf, ByteArray.size]; omega)
  rwa [z6I] at this
 have hd : vAdr (k, b) = ((decide (k = 2) && decide ((b.length : Int) = 4)) || ((decide (k = 20) && (decide (1 ≤ (b.length : Int)) && (decide ((b.length : Int) ≤ 16) && visA b))) || (decide (k = 24) && decide ((b.length : Int) = 16)))) := rfl
 rw [hd]
 generalize visA b = v at *
 refine q0B rfl rfl ?_
 refine rQ fi78 ?_ <;> try with_reducible exact True.intro
 repeat' (first
  | (refine q0a (hv (by omega)) ?_; refine uQ 600 _ ?_; simp (maxSteps := 3000000) only [go_sem, ↓zA, ↓reduceIte, ↓reduceDIte] <;> try simp only [zB])
  | (refine q0b (hv (by omega)) ?_; refine uQ 600 _ ?_; simp (maxSteps := 3000000) only [go_sem, ↓zA, ↓reduceIte, ↓reduceDIte] <;> try simp only [zB])
  | (refine q0t (hv (by omega)) ?_; refine uQ 600 _ ?_; simp (maxSteps := 3000000) only [go_sem, ↓zA, ↓reduceIte, ↓reduceDIte] <;> try simp only [zB])
  | (with_reducible refine And.intro ?_ ?_)
  | (with_reducible intro _))
 all_goals (grind)
theorem z7z (l : List Pre) (ho : (Ty.slice PreT).ok l) : PC Tryz.prog 30 [.isl PreT l] (rB (vAdrs l)) := by
 have hl : l.length ≤ 1125899906842624 := ho.1
 refine q0B rfl rfl ?_
 refine rQ fi30 ?_
 refine q0W (fun i => [(3, .raw (.int .i64 ((i : Nat) : Int)))]) (l.length) (fun j => (adrAt l) j = true) (by first | decide | simp) (fun i => rfl) ?_ fun i hi hall => ?_
 · (with_reducible refine sxE ?_ <;> try exact True.intro)
   all_goals (try rfl)
 have hwr := wsx i (by omega)
 refine gQ ?_
 have bad : i < (l.length) → (adrAt l) i = false → allN (l.length) (adrAt l) = false := fun hlt hv => q0k hlt hv
 have fin : ¬ i < (l.length) → allN (l.length) (adrAt l) = true := fun h => q0p fun j hj => hall j (by omega)
 try dsimp only at bad fin hall
 repeat' (first
  | (refine q0a (z1d _ (ho.2 _ (q1g ‹_›))) ?_; refine uQ 600 _ ?_; simp (maxSteps := 3000000) only [go_sem, ↓zA, ↓reduceIte, ↓reduceDIte] <;> try simp only [zB])
  | (refine q0b (z1d _ (ho.2 _ (q1g ‹_›))) ?_; refine uQ 600 _ ?_; simp (maxSteps := 3000000) only [go_sem, ↓zA, ↓reduceIte, ↓reduceDIte] <;> try simp only [zB])
  | (refine q0t (z1d _ (ho.2 _ (q1g ‹_›))) ?_; refine uQ 600 _ ?_; simp (maxSteps := 3000000) only [go_sem, ↓zA, ↓reduceIte, ↓reduceDIte] <;> try simp only [zB])
  | (with_reducible refine And.intro ?_ ?_)
  | (with_reducible intro _))
 all_goals (first | (with_reducible (refine (id ?_ : SoundI _ _ _))) | ((try simp only [Ty.dflt] at *); first | omega | (refine ⟨by omega, q1c hall (by grind [adrAt, vAdrs]), ⟨_, by first | rfl | exact List.append_assoc _ _ _ | (simp only [List.append_assoc, List.cons_append, List.nil_append]; rfl)⟩, ?_⟩; simp only [hwr, go_sem, ↓zA, ↓reduceIte, ↓reduceDIte] <;> (first | rfl | (grind [adrAt, vAdrs]))) | (refine ⟨_, rfl⟩) | (refine ⟨_, List.append_assoc _ _ _⟩) | (grind [adrAt, vAdrs])))
theorem j2e (l : List Pre) (h : shD l) : PC Tryz.prog 60 [.isl PreT l] (.isl .u8 (dataR l)) := by
 have hl := h.1
 refine q0e rfl rfl ?_
 refine rQ fi60 ?_
 refine q1U 3 PreT (fun i => l.take i) (fun i => [(4, rI i)]) l.length (fun _ => True) rfl (by simp) (by simp) rfl (fun i => rfl) ?_ fun i hi _ => ?_
 · with_reducible refine sxE ?_; trivial
 have hwr := wsx i (by omega)
 have hln : (l.take i).length = i := List.length_take_of_le hi
 refine uQ 600 _ ?_
 with_reducible refine sx1 hln ?_
 refine ⟨fun hlt => ?_, fun hge => ?_⟩
 · have hst := q0z (d := PreT.dflt) hlt
   refine ⟨⟨by omega, hlt⟩, ⟨by omega, hlt⟩, ⟨by omega, by omega⟩, q1b [_, _] [] hlt trivial (by rw [hst]; rfl) ?_⟩
   simp (maxSteps := 3000000) only [hwr, hst, List.length_append, hln, go_sem, ↓zA, ↓reduceIte, ↓reduceDIte] <;> try simp only [zB]
 obtain rfl : i = l.length := by omega
 refine q0v 0 ?_
 with_reducible refine sx1 hln ?_
 simp only [List.take_length]
 refine ⟨by omega, Nat.le_refl _, ?_⟩
 refine q0a (j0X l h) ?_
 refine gQ ?_; trivial
theorem z4f (b : List UInt8) (hb : b.length ≤ 1048576) : PC Tryz.prog 43 [.isl .u8 b] (.isl PreT (preG b)) := by
 have hc := z3c b hb
 have hl := z7q b
 generalize preG b = l at *
 refine q0e rfl rfl ?_
 refine rQ fi43 ?_
 refine q0a hc ?_
 refine gQ ?_
 refine q1U 3 PreT (fun i => l.take i) (fun i => [(5, rI i)]) l.length (fun _ => True) rfl (by simp) (by simp) rfl (fun i => rfl) ?_ fun i hi _ => ?_
 · with_reducible refine sxE ?_; trivial
 have hwr := wsx i (by omega)
 have hln : (l.take i).length = i := List.length_take_of_le hi
 refine gQ ?_
 refine ⟨fun hlt => ?_, fun hge => ?_⟩
 · have hst := q0z (d := PreT.dflt) hlt
   refine ⟨⟨by omega, hlt⟩, ⟨by omega, hlt⟩, ⟨by omega, by omega⟩, q1b [_, _] [] hlt trivial (by rw [hst]; rfl) ?_⟩
   with_reducible refine sx3 hwr hst ?_; trivial
 obtain rfl : i = l.length := by omega
 refine ⟨⟨Nat.le_refl _, by omega⟩, by rw [List.take_of_length_le (Nat.le_refl _), List.take_of_length_le (Nat.le_refl _)]⟩
theorem j1F (a : Pre) : PC Tryz.prog 124 [.agg (PreT.cells a), .agg (PreT.cells a)] (rB true) := by
 obtain ⟨k, b⟩ := a
 refine q0B rfl rfl ?_
 refine rQ fi124 ?_; trivial
theorem q5i (l : List Pre) (hl : l.length ≤ 1125899906842624) : PC Tryz.prog 63 [.isl PreT l, .isl PreT l] (rB true) := by
 refine q0B rfl rfl ?_
 refine rQ fi63 ?_
 refine q0W (fun i => [(5, .raw (.int .i64 ((i : Nat) : Int)))]) (l.length) (fun j => (fun _ => true) j = true) (by first | decide | simp) (fun i => rfl) ?_ fun i hi hall => ?_
 · (with_reducible refine sxE ?_ <;> try exact True.intro)
   all_goals (try rfl)
 have hwr := wsx i (by omega)
 refine gQ ?_
 have bad : i < (l.length) → (fun _ => true) i = false → allN (l.length) (fun _ => true) = false := fun hlt hv => q0k hlt hv
 have fin : ¬ i < (l.length) → allN (l.length) (fun _ => true) = true := fun h => q0p fun j hj => hall j (by omega)
 try dsimp only at bad fin hall
 refine ⟨fun hlt => ⟨⟨by omega, hlt⟩, ⟨by omega, hlt⟩, q0b (j1F _) ?_⟩, fun _ => trivial⟩
 refine gQ ?_
 refine ⟨hlt, trivial, ⟨[], rfl⟩, ?_⟩
 with_reducible refine sx1 hwr ?_; trivial
theorem z9K (k : Key) : PC Tryz.prog 26 [.agg (KeyT.cells k)] (rB (vKey k && decide (k.2.1 = 0))) := by
 have h := j2R k
 generalize vKey k = v at *
 obtain ⟨p, x, c⟩ := k
 refine q0B rfl rfl ?_
 refine rQ fi26 ?_ <;> try with_reducible exact True.intro
 repeat' (first
  | (refine q0a (h) ?_; refine uQ 600 _ ?_; simp (maxSteps := 3000000) only [go_sem, ↓zA, ↓reduceIte, ↓reduceDIte] <;> try simp only [zB])
  | (refine q0b (h) ?_; refine uQ 600 _ ?_; simp (maxSteps := 3000000) only [go_sem, ↓zA, ↓reduceIte, ↓reduceDIte] <;> try simp only [zB])
  | (refine q0t (h) ?_; refine uQ 600 _ ?_; simp (maxSteps := 3000000) only [go_sem, ↓zA, ↓reduceIte, ↓reduceDIte] <;> try simp only [zB])
  | (with_reducible refine And.intro ?_ ?_)
  | (with_reducible intro _))
 all_goals ((simp_all; try grind))
theorem z5N (t : Times) : PC Tryz.prog 28 [.agg (TimesT.cells t)] (rB (vLife t)) := by
 obtain ⟨a, s, d, w⟩ := t
 rw [j0G]
 refine q0B rfl rfl ?_
 refine rQ fi28 ?_ <;> try with_reducible exact True.intro
 repeat' (first
  | (refine q0a (z3A _ _ _) ?_; refine uQ 600 _ ?_; simp (maxSteps := 3000000) only [go_sem, ↓zA, ↓reduceIte, ↓reduceDIte] <;> try simp only [zB])
  | (refine q0b (z3A _ _ _) ?_; refine uQ 600 _ ?_; simp (maxSteps := 3000000) only [go_sem, ↓zA, ↓reduceIte, ↓reduceDIte] <;> try simp only [zB])
  | (refine q0t (z3A _ _ _) ?_; refine uQ 600 _ ?_; simp (maxSteps := 3000000) only [go_sem, ↓zA, ↓reduceIte, ↓reduceDIte] <;> try simp only [zB])
  | (with_reducible refine And.intro ?_ ?_)
  | (with_reducible intro _))
 all_goals ((simp_all; try grind))
theorem z1y (p : Part) (ho : PartT.ok p) (hf : (0 : Int) ≤ p.2.2.2.1 ∧ p.2.2.2.1 ≤ (4294967295 : Int)) : PC Tryz.prog 6 [.agg (PartT.cells p)] (rB (sPart p)) := by
 obtain ⟨ky, n, e, f, t, q, l⟩ := p
 change Int at n e f
 obtain ⟨o1, _, _, _, _, o6, o7⟩ := ho
 have hd : sPart (ky, n, e, f, t, q, l) = ((vKey ky && decide (ky.2.1 = 0)) && (mIn 0 4294967295 n && (mIn 0 1099511627776 e && (vTkF f && (vLife t && (vPrin q && vAdrs l)))))) := by
  show (vKey ky && (decide (ky.2.1 = 0) && _)) = _
  rw [Bool.and_assoc]; rfl
 rw [hd]
 have hor := orTk hf
 dsimp only at hor hf
 have hf' : (0 : Int) ≤ f ∧ f ≤ (4294967295 : Int) := hf
 have hwo : IntKind.i64.wrap f = f := wrapi (show (-9223372036854775808 : Int) ≤ f ∧ f ≤ (9223372036854775807 : Int) from ⟨Int.le_trans (by decide) hf'.1, Int.le_trans hf'.2 (by decide)⟩)
 have c1 := z9K ky
 have c5 := z5N t
 generalize (vKey ky && decide (ky.2.1 = 0)) = s1 at *
 generalize vLife t = s5 at *
 have c6 := j2V q o6
 have c7 := z7z l o7
 generalize vPrin q = s6 at *
 generalize vAdrs l = s7 at *
 clear hd hf
 obtain ⟨a, s, d, w⟩ := t
 refine q0B rfl rfl ?_
 refine rQ fi6 ?_ <;> try with_reducible exact True.intro
 repeat' (first
  | (refine q0a (c1) ?_; refine uQ 600 _ ?_; simp (maxSteps := 3000000) only [hwo, go_sem, ↓zA, ↓reduceIte, ↓reduceDIte] <;> try simp only [zB])
  | (refine q0b (c1) ?_; refine uQ 600 _ ?_; simp (maxSteps := 3000000) only [hwo, go_sem, ↓zA, ↓reduceIte, ↓reduceDIte] <;> try simp only [zB])
  | (refine q0t (c1) ?_; refine uQ 600 _ ?_; simp (maxSteps := 3000000) only [hwo, go_sem, ↓zA, ↓reduceIte, ↓reduceDIte] <;> try simp only [zB])
  | (refine q0a (z3A _ _ _) ?_; refine uQ 600 _ ?_; simp (maxSteps := 3000000) only [hwo, go_sem, ↓zA, ↓reduceIte, ↓reduceDIte] <;> try simp only [zB])
  | (refine q0b (z3A _ _ _) ?_; refine uQ 600 _ ?_; simp (maxSteps := 3000000) only [hwo, go_sem, ↓zA, ↓reduceIte, ↓reduceDIte] <;> try simp only [zB])
  | (refine q0t (z3A _ _ _) ?_; refine uQ 600 _ ?_; simp (maxSteps := 3000000) only [hwo, go_sem, ↓zA, ↓reduceIte, ↓reduceDIte] <;> try simp only [zB])
  | (refine q0a (c5) ?_; refine uQ 600 _ ?_; simp (maxSteps := 3000000) only [hwo, go_sem, ↓zA, ↓reduceIte, ↓reduceDIte] <;> try simp only [zB])
  | (refine q0b (c5) ?_; refine uQ 600 _ ?_; simp (maxSteps := 3000000) only [hwo, go_sem, ↓zA, ↓reduceIte, ↓reduceDIte] <;> try simp only [zB])
  | (refine q0t (c5) ?_; refine uQ 600 _ ?_; simp (maxSteps := 3000000) only [hwo, go_sem, ↓zA, ↓reduceIte, ↓reduceDIte] <;> try simp only [zB])
  | (refine q0a (c6) ?_; refine uQ 600 _ ?_; simp (maxSteps := 3000000) only [hwo, go_sem, ↓zA, ↓reduceIte, ↓reduceDIte] <;> try simp only [zB])
  | (refine q0b (c6) ?_; refine uQ 600 _ ?_; simp (maxSteps := 3000000) only [hwo, go_sem, ↓zA, ↓reduceIte, ↓reduceDIte] <;> try simp only [zB])
  | (refine q0t (c6) ?_; refine uQ 600 _ ?_; simp (maxSteps := 3000000) only [hwo, go_sem, ↓zA, ↓reduceIte, ↓reduceDIte] <;> try simp only [zB])
  | (refine q0a (c7) ?_; refine uQ 600 _ ?_; simp (maxSteps := 3000000) only [hwo, go_sem, ↓zA, ↓reduceIte, ↓reduceDIte] <;> try simp only [zB])
  | (refine q0b (c7) ?_; refine uQ 600 _ ?_; simp (maxSteps := 3000000) only [hwo, go_sem, ↓zA, ↓reduceIte, ↓reduceDIte] <;> try simp only [zB])
  | (refine q0t (c7) ?_; refine uQ 600 _ ?_; simp (maxSteps := 3000000) only [hwo, go_sem, ↓zA, ↓reduceIte, ↓reduceDIte] <;> try simp only [zB])
  | (with_reducible refine And.intro ?_ ?_)
  | (with_reducible intro _))
 all_goals (skip)
 all_goals (try first | (have hO : vTkF f = true := hor.symm.trans (decide_eq_true (by assumption))) | (have hO : vTkF f = false := hor.symm.trans (decide_eq_false (by assumption))))
 all_goals clear hor
 all_goals (first | (simp_all; done) | (simp_all <;> (intros; omega)) | grind)
theorem q7c (k : Int) (p : Part) (h : shPt p) : PC Tryz.prog 13 [rI k, .agg (PartT.cells p)] (.isl .u8 (partA k p)) := by
 have hfl := z7j h
 have hf : partA k p = elemS (byteOf (96 + partM k)) [elemS 48 (partR p)] := rfl
 have hr : partR p = [wrapS 160 0 (keyA p.1), wrapS 160 1 (intR p.2.1), wrapS 160 2 (if p.2.2.1 = 0 then [] else timR p.2.2.1), wrapS 160 3 (bitsS p.2.2.2.1), wrapS 160 4 (timR p.2.2.2.2.1.1), wrapS 160 5 (timR p.2.2.2.2.1.2.1), wrapS 160 6 (timR p.2.2.2.2.1.2.2.1), wrapS 160 7 (if p.2.2.2.2.1.2.2.2 = 0 then [] else timR p.2.2.2.2.1.2.2.2), wrapS 160 8 (prinS p.2.2.2.2.2.1), wrapS 160 9 (preR2 p.2.2.2.2.2.2)] := rfl
 obtain ⟨h1, h2, h3, h5, h6⟩ := h
 have g0 := z1H h1
 have g1 := q2P p.2.1
 have g2 := q4C p.2.2.1
 have g2' := q2m p.2.2.1
 have g3 := (q8H p.2.2.2.1).1
 have g4 := q2m p.2.2.2.2.1.1
 have g5 := q2m p.2.2.2.2.1.2.1
 have g6 := q2m p.2.2.2.2.1.2.2.1
 have g7 := q4C p.2.2.2.2.1.2.2.2
 have g7' := q2m p.2.2.2.2.1.2.2.2
 have g8 := z1L h5
 have g9 := z4J h6
 have g9' := z3K h6
 have g := q0o 48 (partR p)
 have ck := j2B _ h1
 have cq := j0E _ h5
 have cl := j2e _ h6.1
 generalize partA k p = R at *
 generalize partR p = L at *
 obtain ⟨ky, n, e, f, ⟨a, s, d, w⟩, q, l⟩ := p
 dsimp only at *
 change Int at n e f a s d w
 have h3' : (0 : Int) ≤ f ∧ f ≤ (4294967295 : Int) := h3
 have hwo : IntKind.i64.wrap f = f := wrapi (show -9223372036854775808 ≤ f ∧ f ≤ 9223372036854775807 by omega)
 have q9 : (if ((l.length : Int) = 0) then [] else dataR l) = preR2 l := by unfold preR2; simp
 have hk2 : k = 12 ∨ ¬ k = 12 := Classical.em _
 rcases hk2 with rfl | hk
 · refine q0e rfl rfl ?_
   refine rQ fi13 ?_
   refine q0b (ck) ?_
   refine gQ ?_
   refine q0b (q1m 0 (by decide) _ (by omega)) ?_
   refine gQ ?_
   refine q0b (q9T n h2) ?_
   refine gQ ?_
   refine q0b (q1m 1 (by decide) _ (by omega)) ?_
   refine gQ ?_
   refine q0b (q2R e) ?_
   refine gQ ?_
   refine q0b (q2X _ _) ?_
   refine gQ ?_
   refine q0b (q1m 2 (by decide) _ (by omega)) ?_
   refine gQ ?_
   rw [hwo]
   refine q0b (z5A f h3') ?_
   refine gQ ?_
   refine q0b (q1m 3 (by decide) _ (by omega)) ?_
   refine gQ ?_
   refine q0b (q2R a) ?_
   refine gQ ?_
   refine q0b (q1m 4 (by decide) _ (by omega)) ?_
   refine gQ ?_
   refine q0b (q2R s) ?_
   refine gQ ?_
   refine q0b (q1m 5 (by decide) _ (by omega)) ?_
   refine gQ ?_
   refine q0b (q2R d) ?_
   refine gQ ?_
   refine q0b (q1m 6 (by decide) _ (by omega)) ?_
   refine gQ ?_
   refine q0b (q2R w) ?_
   refine gQ ?_
   refine q0b (q2X _ _) ?_
   refine gQ ?_
   refine q0b (q1m 7 (by decide) _ (by omega)) ?_
   refine gQ ?_
   refine q0b (cq) ?_
   refine gQ ?_
   refine q0b (q1m 8 (by decide) _ (by omega)) ?_
   refine gQ ?_
   refine q0b (cl) ?_
   refine gQ ?_
   refine q0b (q2X _ _) ?_
   refine gQ ?_
   rw [q9]
   refine q0b (q1m 9 (by decide) _ (by omega)) ?_
   refine gQ ?_
   refine q0R 2 (by decide) ?_
   with_reducible refine sxE ?_
   rw [← hr]
   refine q0b (q6Q _ (by rw [hr]; simp) (by omega)) ?_
   refine gQ ?_
   refine q0b (z8y 26 (by decide) _ (by omega)) ?_
   refine gQ ?_
   rw [hf]; rfl
 refine q0e rfl rfl ?_
 refine rQ fi13 ?_
 refine ⟨fun h => absurd h hk, fun _ => ?_⟩
 refine q0b (ck) ?_
 refine gQ ?_
 refine q0b (q1m 0 (by decide) _ (by omega)) ?_
 refine gQ ?_
 refine q0b (q9T n h2) ?_
 refine gQ ?_
 refine q0b (q1m 1 (by decide) _ (by omega)) ?_
 refine gQ ?_
 refine q0b (q2R e) ?_
 refine gQ ?_
 refine q0b (q2X _ _) ?_
 refine gQ ?_
 refine q0b (q1m 2 (by decide) _ (by omega)) ?_
 refine gQ ?_
 rw [hwo]
 refine q0b (z5A f h3') ?_
 refine gQ ?_
 refine q0b (q1m 3 (by decide) _ (by omega)) ?_
 refine gQ ?_
 refine q0b (q2R a) ?_
 refine gQ ?_
 refine q0b (q1m 4 (by decide) _ (by omega)) ?_
 refine gQ ?_
 refine q0b (q2R s) ?_
 refine gQ ?_
 refine q0b (q1m 5 (by decide) _ (by omega)) ?_
 refine gQ ?_
 refine q0b (q2R d) ?_
 refine gQ ?_
 refine q0b (q1m 6 (by decide) _ (by omega)) ?_
 refine gQ ?_
 refine q0b (q2R w) ?_
 refine gQ ?_
 refine q0b (q2X _ _) ?_
 refine gQ ?_
 refine q0b (q1m 7 (by decide) _ (by omega)) ?_
 refine gQ ?_
 refine q0b (cq) ?_
 refine gQ ?_
 refine q0b (q1m 8 (by decide) _ (by omega)) ?_
 refine gQ ?_
 refine q0b (cl) ?_
 refine gQ ?_
 refine q0b (q2X _ _) ?_
 refine gQ ?_
 rw [q9]
 refine q0b (q1m 9 (by decide) _ (by omega)) ?_
 refine gQ ?_
 refine q0R 2 (by decide) ?_
 with_reducible refine sxE ?_
 rw [← hr]
 refine q0b (q6Q _ (by rw [hr]; simp) (by omega)) ?_
 refine gQ ?_
 refine q0b (z8y 25 (by decide) _ (by omega)) ?_
 refine gQ ?_
 rw [hf]; unfold partM; rw [if_neg hk]
theorem z7B {b : List UInt8} (h : b.length ≤ 1048576) : PartT.ok (partG b) :=
 ⟨j1b (q6C 0 (z3H h)), trivial, trivial, trivial, ⟨trivial, trivial, trivial, trivial⟩, j0m (q6C 8 (z3H h)), z9Y (q6C 9 (z3H h))⟩
theorem z1k (b : List UInt8) : (0 : Int) ≤ (partG b).2.2.2.1 ∧ (partG b).2.2.2.1 ≤ (4294967295 : Int) := by
 have := z0b (itmR (conR b) 3)
 exact ⟨Int.natCast_nonneg _, by show ((gBitsR (itmR (conR b) 3) : Nat) : Int) ≤ 4294967295; omega⟩
theorem z3u (k : Int) (b : List UInt8) (hb : b.length ≤ 1048576) : PC Tryz.prog 9 [rI k, .isl .u8 b] (.tup [.agg (PartT.cells ((decPart k b).getD PartT.dflt)), rI (if vKind k then (if (decPart k b).isSome then 0 else 6) else 2)]) := by
 have ck := z4A k
 cases hK : vKind k with
 | false =>
  have hd : decPart k b = none := by unfold decPart; rw [hK]; rfl
  rw [hd]
  rw [hK] at ck
  refine q0e rfl rfl ?_
  refine rQ fi9 ?_
  refine q0a ck ?_
  refine gQ ?_
  exact ⟨rfl, rfl, rfl, rfl, rfl, rfl, rfl, rfl, rfl, rfl, rfl, rfl, rfl⟩
 | true =>
 rw [hK] at ck
 have hd : decPart k b = if sPart (partG b) = true ∧ partS k (partG b) = b then some (partG b) else none := (z0J k b hK).symm
 generalize decPart k b = R at *
 have hE : partG b = (keyR (itmR (conR b) 0), (gIntR (itmR (conR b) 1) : Int), (gIntR (itmR (conR b) 2) : Int), (gBitsR (itmR (conR b) 3) : Int), ((gIntR (itmR (conR b) 4) : Int), (gIntR (itmR (conR b) 5) : Int), (gIntR (itmR (conR b) 6) : Int), (gIntR (itmR (conR b) 7) : Int)), prnR (itmR (conR b) 8), preG (itmR (conR b) 9)) := rfl
 have hv := z1y (partG b) (z7B hb) (z1k b)
 have he : sPart (partG b) = true → PC Tryz.prog 13 [rI k, .agg (PartT.cells (partG b))] (.isl .u8 (partS k (partG b))) := fun h => by
  have := q7c k (partG b) (j0T h)
  rwa [q8L hK h] at this
 have hc := q1v b (by omega)
 have hcl := q1D b
 have hx3 := z0b (itmR (conR b) 3)
 generalize partG b = X at *
 generalize conR b = s at *
 have i0 := q2k s 0 (by omega) (by omega)
 have q0 := q1d s 0
 have i1 := q2k s 1 (by omega) (by omega)
 have q1 := q1d s 1
 have i2 := q2k s 2 (by omega) (by omega)
 have q2 := q1d s 2
 have i3 := q2k s 3 (by omega) (by omega)
 have q3 := q1d s 3
 have i4 := q2k s 4 (by omega) (by omega)
 have q4 := q1d s 4
 have i5 := q2k s 5 (by omega) (by omega)
 have q5 := q1d s 5
 have i6 := q2k s 6 (by omega) (by omega)
 have q6 := q1d s 6
 have i7 := q2k s 7 (by omega) (by omega)
 have q7 := q1d s 7
 have i8 := q2k s 8 (by omega) (by omega)
 have q8 := q1d s 8
 have i9 := q2k s 9 (by omega) (by omega)
 have q9 := q1d s 9
 have c0 := z6d (itmR s 0) (by omega)
 have c1 := q2o (itmR s 1) (by omega)
 have c2 := q2o (itmR s 2) (by omega)
 have c3 := z6c (itmR s 3) (by omega)
 have c4 := q2o (itmR s 4) (by omega)
 have c5 := q2o (itmR s 5) (by omega)
 have c6 := q2o (itmR s 6) (by omega)
 have c7 := q2o (itmR s 7) (by omega)
 have c8 := z2O (itmR s 8) (by omega)
 have c9 := z4f (itmR s 9) (by omega)
 generalize keyR (itmR s 0) = x0 at *
 generalize gIntR (itmR s 1) = x1 at *
 generalize gIntR (itmR s 2) = x2 at *
 generalize gBitsR (itmR s 3) = x3 at *
 generalize gIntR (itmR s 4) = x4 at *
 generalize gIntR (itmR s 5) = x5 at *
 generalize gIntR (itmR s 6) = x6 at *
 generalize gIntR (itmR s 7) = x7 at *
 generalize prnR (itmR s 8) = x8 at *
 generalize preG (itmR s 9) = x9 at *
 have hu : IntKind.u32.wrap ((x3 : Nat) : Int) = ((x3 : Nat) : Int) := j0h hx3
 refine q0e rfl (by cases R <;> rfl) ?_
 refine rQ fi9 ?_
 refine q0a ck ?_
 refine gQ ?_
 refine q0a hc ?_
 refine gQ ?_
 refine q0a i0 ?_
 refine gQ ?_
 refine q0a c0 ?_
 refine gQ ?_
 refine q0a i1 ?_
 refine gQ ?_
 refine q0a c1 ?_
 refine gQ ?_
 refine q0a i2 ?_
 refine gQ ?_
 refine q0a c2 ?_
 refine gQ ?_
 refine q0a i3 ?_
 refine gQ ?_
 refine q0a c3 ?_
 refine uQ 600 _ ?_
 with_reducible refine sx1 hu ?_
 refine q0a i8 ?_
 refine gQ ?_
 refine q0a c8 ?_
 refine gQ ?_
 refine q0a i9 ?_
 refine gQ ?_
 refine q0a c9 ?_
 refine gQ ?_
 refine q0a i4 ?_
 refine gQ ?_
 refine q0a c4 ?_
 refine gQ ?_
 refine q0a i5 ?_
 refine gQ ?_
 refine q0a c5 ?_
 refine gQ ?_
 refine q0a i6 ?_
 refine gQ ?_
 refine q0a c6 ?_
 refine gQ ?_
 refine q0a i7 ?_
 refine gQ ?_
 refine q0a c7 ?_
 refine gQ ?_
 subst hE
 cases hvv : sPart (x0, ((x1 : Nat) : Int), ((x2 : Nat) : Int), ((x3 : Nat) : Int), (((x4 : Nat) : Int), ((x5 : Nat) : Int), ((x6 : Nat) : Int), ((x7 : Nat) : Int)), x8, x9) with
 | false =>
  have hR : R = none := by rw [hd, hvv]; simp
  rw [hvv] at hv
  subst hR
  refine q0b hv ?_
  refine gQ ?_
  exact ⟨⟨rfl, rfl, rfl, rfl, rfl, rfl, rfl, rfl, rfl, rfl, rfl, rfl, rfl⟩, rfl⟩
 | true =>
  rw [hvv] at hv
  refine q0b hv ?_
  refine gQ ?_
  refine q0b (he hvv) ?_
  refine gQ ?_
  refine ⟨fun hne => ?_, fun heq => ?_⟩
  · have hR : R = none := by rw [hd, if_neg (fun q => hne (q4x.2 q.2))]
    subst hR
    exact ⟨⟨rfl, rfl, rfl, rfl, rfl, rfl, rfl, rfl, rfl, rfl, rfl, rfl, rfl⟩, rfl⟩
  have hR : R = some (x0, ((x1 : Nat) : Int), ((x2 : Nat) : Int), ((x3 : Nat) : Int), (((x4 : Nat) : Int), ((x5 : Nat) : Int), ((x6 : Nat) : Int), ((x7 : Nat) : Int)), x8, x9) := by rw [hd, if_pos ⟨hvv, q4x.1 heq⟩]
  subst hR
  exact ⟨⟨rfl, rfl, rfl, rfl, rfl, rfl, rfl, rfl, rfl, rfl, rfl, rfl, rfl⟩, rfl⟩
theorem z0Y (p : Part) (ho : PartT.ok p) : PC Tryz.prog 14 [.agg (PartT.cells p), .agg (PartT.cells p)] (rB true) := by
 obtain ⟨ky, n, e, f, ⟨a, s, d, w⟩, q, l⟩ := p
 obtain ⟨o1, _, _, _, _, o6, o7⟩ := ho
 have ck := j2S ky ky
 refine q0B rfl rfl ?_
 refine rQ fi14 ?_ <;> try with_reducible exact True.intro
 repeat' (first
  | (refine q0a (ck) ?_; refine uQ 600 _ ?_; simp (maxSteps := 3000000) only [go_sem, ↓zA, ↓reduceIte, ↓reduceDIte] <;> try simp only [zB])
  | (refine q0b (ck) ?_; refine uQ 600 _ ?_; simp (maxSteps := 3000000) only [go_sem, ↓zA, ↓reduceIte, ↓reduceDIte] <;> try simp only [zB])
  | (refine q0t (ck) ?_; refine uQ 600 _ ?_; simp (maxSteps := 3000000) only [go_sem, ↓zA, ↓reduceIte, ↓reduceDIte] <;> try simp only [zB])
  | (refine q0a (j1y _ _ o6) ?_; refine uQ 600 _ ?_; simp (maxSteps := 3000000) only [go_sem, ↓zA, ↓reduceIte, ↓reduceDIte] <;> try simp only [zB])
  | (refine q0b (j1y _ _ o6) ?_; refine uQ 600 _ ?_; simp (maxSteps := 3000000) only [go_sem, ↓zA, ↓reduceIte, ↓reduceDIte] <;> try simp only [zB])
  | (refine q0t (j1y _ _ o6) ?_; refine uQ 600 _ ?_; simp (maxSteps := 3000000) only [go_sem, ↓zA, ↓reduceIte, ↓reduceDIte] <;> try simp only [zB])
  | (refine q0a (q5i _ o7.1) ?_; refine uQ 600 _ ?_; simp (maxSteps := 3000000) only [go_sem, ↓zA, ↓reduceIte, ↓reduceDIte] <;> try simp only [zB])
  | (refine q0b (q5i _ o7.1) ?_; refine uQ 600 _ ?_; simp (maxSteps := 3000000) only [go_sem, ↓zA, ↓reduceIte, ↓reduceDIte] <;> try simp only [zB])
  | (refine q0t (q5i _ o7.1) ?_; refine uQ 600 _ ?_; simp (maxSteps := 3000000) only [go_sem, ↓zA, ↓reduceIte, ↓reduceDIte] <;> try simp only [zB])
  | (with_reducible refine And.intro ?_ ?_)
  | (with_reducible intro _))
 all_goals (simp_all)
theorem z0D (l : List Pre) (hl : l.length ≤ 1125899906842624) : PC Tryz.prog 17 [.isl PreT l] (rB (fewB l)) := by
 refine q0B rfl rfl ?_
 refine rQ fi17 ?_
 refine q0W (fun i => [(3, .raw (.int .i64 ((i : Nat) : Int)))]) (l.length) (fun j => (s300 l) j = true) (by first | decide | simp) (fun i => rfl) ?_ fun i hi hall => ?_
 · (with_reducible refine sxE ?_ <;> try exact True.intro)
   all_goals (try rfl)
 have hwr := wsx i (by omega)
 refine gQ ?_
 have bad : i < (l.length) → (s300 l) i = false → allN (l.length) (s300 l) = false := fun hlt hv => q0k hlt hv
 have fin : ¬ i < (l.length) → allN (l.length) (s300 l) = true := fun h => q0p fun j hj => hall j (by omega)
 try dsimp only at bad fin hall
 refine ⟨fun hlt => ⟨⟨by omega, hlt⟩, fun h => ?_, fun h => ?_⟩, fun hge => ?_⟩
 · unfold fewB; rw [bad hlt (decide_eq_false (by omega))]; rfl
 · refine ⟨hlt, q1c hall (decide_eq_true (by omega)), ⟨[], rfl⟩, ?_⟩
   with_reducible refine sx1 hwr ?_; trivial
 unfold fewB; rw [fin hge]; rfl
theorem j2G {l : List Pre} (h : fewB l = true) (hr : (Ty.slice PreT).inR l) : shE l := by
 refine ⟨j1Q h hr, fun x hx => ?_⟩
 simp only [fewB, Bool.and_eq_true, decide_eq_true_eq] at h
 obtain ⟨j, hj, rfl⟩ := List.getElem_of_mem hx
 have := q1S.1 h.1 j hj
 simp only [s300, decide_eq_true_eq, List.getD_eq_getElem?_getD, List.getElem?_eq_getElem hj, Option.getD_some] at this
 omega
end Go.Proofs.YtcjehhejgimmdaaGreatDoor
