/- Contracts: the reference's reading of elements. -/
import Derived.Test.YtddmkgibghohkaaGreatDoorP22
import Derived.Test.YtddmkgibghohkaaGreatDoorP10
set_option linter.unusedSimpArgs false
set_option linter.unusedVariables false
namespace Go.Proofs.YtddmkgibghohkaaGreatDoor
open Go Go.Sx Go.Proofs
set_option maxRecDepth 100000
set_option maxHeartbeats 4000000
set_option linter.unusedSimpArgs false

def chkR (b : List UInt8) (a n : Nat) : Option (Nat × Nat) := if b.length - a < n then none else some (a, a + n)
def fstR (b : List UInt8) : Option (Nat × Nat) :=
 if b.length < 2 then none else
 if (b.getD 1 0).toNat < 128 then chkR b 2 (b.getD 1 0).toNat else
 if (b.getD 1 0).toNat - 128 < 1 ∨ 3 < (b.getD 1 0).toNat - 128 ∨ b.length < 2 + ((b.getD 1 0).toNat - 128) then none else
 chkR b (2 + ((b.getD 1 0).toNat - 128)) (beN ((b.drop 2).take ((b.getD 1 0).toNat - 128)))
def fstV (b : List UInt8) : SV := match fstR b with
 | none => .tup [rI 0, .isl .u8 [], rI 0]
 | some (a, e) => .tup [rI (b.getD 0 0).toNat, .isl .u8 ((b.take e).drop a), rI e]
theorem beN_lt4 (l : List UInt8) (h : l.length ≤ 3) : beN l < 16777216 := by
 have h1 := beN_lt l
 have h2 : 256 ^ l.length ≤ 256 ^ 3 := Nat.pow_le_pow_right (by decide) h
 omega
theorem rfirst_c (b : List UInt8) (hb : b.length ≤ 1099511627776) : PC Tryz.prog 153 [.isl .u8 b] (fstV b) := by
 have hx : (b.getD 1 Ty.u8.dflt).toNat < 256 := UInt8.toNat_lt _
 have hd : b.getD 1 0 = b.getD 1 Ty.u8.dflt := rfl
 have e0 : IntKind.i64.wrap ((b.getD 1 Ty.u8.dflt).toNat : Int) = (((b.getD 1 Ty.u8.dflt).toNat : Nat) : Int) := wrapi (by omega)
 have e1 : IntKind.i64.wrap (((b.getD 1 Ty.u8.dflt).toNat : Int) - 128) = ((b.getD 1 Ty.u8.dflt).toNat : Int) - 128 := wrapi (by omega)
 have e2 : IntKind.i64.wrap (2 + (((b.getD 1 Ty.u8.dflt).toNat : Int) - 128)) = 2 + (((b.getD 1 Ty.u8.dflt).toNat : Int) - 128) := wrapi (by omega)
 have e3 : IntKind.i64.wrap ((b.length : Int) - 2) = (b.length : Int) - 2 := wrapi (by omega)
 have e4 : IntKind.i64.wrap (2 + ((b.getD 1 Ty.u8.dflt).toNat : Int)) = 2 + ((b.getD 1 Ty.u8.dflt).toNat : Int) := wrapi (by omega)
 have e5 : IntKind.i64.wrap ((b.getD 0 Ty.u8.dflt).toNat : Int) = (((b.getD 0 Ty.u8.dflt).toNat : Nat) : Int) := wrapi (by have := (b.getD 0 Ty.u8.dflt).toNat_lt; omega)
 have hno : fstR b = none → fstV b = .tup [rI 0, .isl .u8 [], rI 0] := fun h => by unfold fstV; rw [h]
 have hyes : ∀ a e, fstR b = some (a, e) → fstV b = .tup [rI (b.getD 0 0).toNat, .isl .u8 ((b.take e).drop a), rI e] := fun a e h => by unfold fstV; rw [h]
 have hsc : (fstV b).clean = true := by
  cases h : fstR b with
  | none => rw [hno h]; rfl
  | some y => obtain ⟨a, e⟩ := y; rw [hyes a e h]; rfl
 generalize fstV b = W at *
 refine pc_seal rfl hsc ?_
 refine vc_fi fi153 (run_sound mixed 600 _ ?_)
 simp (maxSteps := 3000000) only [ir153, e0, e1, e2, e3, e4, e5, go_sem, ↓zA, ↓reduceIte, ↓reduceDIte, reduceCtorEq, Nat.reduceAdd, Nat.reduceSub, Nat.reduceLeDiff, Nat.reduceLT, Nat.reduceEqDiff, Nat.reduceBEq, Nat.reduceMul, Int.reduceToNat, Int.reduceEq, Int.reduceLT, Int.reduceLE] <;> try simp only [zB]
 generalize hxx : b.getD 1 Ty.u8.dflt = x at *
 have hF : ∀ r, fstR b = r → fstR b = r := fun _ h => h
 have hno' : fstR b = none → (SV.tup [SV.raw (Value.int IntKind.i64 0), SV.raw (Value.slice none 0 0), SV.raw (Value.int IntKind.i64 0)]).leV W := fun h => by
  rw [hno h]
  with_reducible refine sxE ?_; trivial
 refine ⟨fun h => ?_, fun h => ⟨by omega, fun h2 => ⟨fun h3 => ⟨fun h4 => ⟨fun h5 => ?_, fun h5 => ?_⟩, fun h4 => ?_⟩, fun h3 => ?_⟩, fun h2 => ⟨fun h3 => ?_, fun h3 => ?_⟩⟩⟩
 · refine hno' ?_
   unfold fstR; rw [if_pos (by omega)]
 · refine hno' ?_
   unfold fstR; rw [hd, if_neg (by omega), if_neg (by omega), if_pos (by omega)]
 · obtain ⟨m, hxm⟩ : ∃ m : Nat, (x.toNat : Int) - 128 = (m : Int) := ⟨x.toNat - 128, by omega⟩
   have hm3 : 1 ≤ m ∧ m ≤ 3 := by omega
   have hmn : x.toNat - 128 = m := by omega
   rw [hxm]
   have hl2 : (b.drop 2).length = b.length - 2 := List.length_drop
   generalize hL : b.drop 2 = L at *
   have hgd : ∀ i, L.getD i Ty.u8.dflt = b.getD (2 + i) Ty.u8.dflt := fun i => by
    rw [← hL, List.getD_eq_getElem?_getD, List.getElem?_drop, List.getD_eq_getElem?_getD]
   have hfst : ∀ v, beN (L.take m) = v → fstR b = chkR b (2 + m) v := fun v hv => by
    unfold fstR
    rw [hd, hL, hmn, if_neg (by omega), if_neg (by omega), if_neg (by omega), hv]
   refine si_cntD (fun i => [(5, rI (beN (L.take i))), (8, .raw (.int .i64 ((i : Nat) : Int)))]) (m) (fun j => (fun _ => true) j = true) (by first | decide | simp) (fun i => rfl) ?_ fun i hi hall => ?_
   · (with_reducible refine sxE ?_ <;> try exact True.intro)
     all_goals (try rfl)
   have hwr : IntKind.i64.wrap ((i : Int) + 1) = ((i + 1 : Nat) : Int) := wrap_succ (by omega)
   refine goE mixed ?_
   have bad : i < (m) → (fun _ => true) i = false → allN (m) (fun _ => true) = false := fun hlt hv => allN_false hlt hv
   have fin : ¬ i < (m) → allN (m) (fun _ => true) = true := fun h => allN_true fun j hj => hall j (by omega)
   try dsimp only at bad fin hall
   refine ⟨fun hlt => ?_, fun hge => ?_⟩
   · have hi2 : IntKind.i64.wrap (2 + (i : Int)) = ((2 + i : Nat) : Int) := by rw [wrapi (by omega)]; omega
     have hv := beN_lt4 (L.take i) (by simp; omega)
     have hc : (b.getD (2 + i) Ty.u8.dflt).toNat < 256 := UInt8.toNat_lt _
     have w1 : IntKind.i64.wrap (256 * (beN (L.take i) : Int)) = 256 * (beN (L.take i) : Int) := wrapi (by omega)
     have w2 : IntKind.i64.wrap ((b.getD (2 + i) Ty.u8.dflt).toNat : Int) = (((b.getD (2 + i) Ty.u8.dflt).toNat : Nat) : Int) := wrapi (by omega)
     have e6 := beN_succ L i (by omega)
     have e7 : L.getD i 0 = b.getD (2 + i) Ty.u8.dflt := hgd i
     rw [e7] at e6
     rw [hi2, Int.toNat_natCast, w1, w2]
     have w3 : IntKind.i64.wrap (256 * (beN (L.take i) : Int) + ((b.getD (2 + i) Ty.u8.dflt).toNat : Int)) = (beN (L.take (i + 1)) : Int) := by rw [wrapi (by omega), e6]; omega
     rw [w3]
     refine ⟨⟨by omega, by omega⟩, hlt, trivial, ⟨[], rfl⟩, ?_⟩
     with_reducible refine sx1 hwr ?_; trivial
   · obtain rfl : i = m := by omega
     have hv := beN_lt4 (L.take i) (by simp; omega)
     generalize hV : beN (L.take i) = V at *
     have hf := hfst V rfl
     have w1 : IntKind.i64.wrap (2 + (i : Int)) = ((2 + i : Nat) : Int) := by rw [wrapi (by omega)]; omega
     have w2 : IntKind.i64.wrap (((2 + i : Nat) : Int) + (V : Int)) = ((2 + i + V : Nat) : Int) := by rw [wrapi (by omega)]; omega
     have w3 : IntKind.i64.wrap ((b.length : Int) - ((2 + i : Nat) : Int)) = (b.length : Int) - ((2 + i : Nat) : Int) := wrapi (by omega)
     rw [w1, w3, w2, e5]
     refine ⟨fun q => hno' (by rw [hf]; unfold chkR; rw [if_pos (by omega)]), fun q => ⟨by omega, ⟨by omega, by omega, by omega⟩, ?_⟩⟩
     rw [hyes (2 + i) (2 + i + V) (by rw [hf]; unfold chkR; rw [if_neg (by omega)])]
     with_reducible refine sxE ?_
     rfl
 · refine hno' ?_
   unfold fstR; rw [hd, if_neg (by omega), if_neg (by omega), if_pos (by omega)]
 · refine hno' ?_
   unfold fstR; rw [hd, if_neg (by omega), if_neg (by omega), if_pos (by omega)]
 · refine hno' ?_
   unfold fstR chkR; rw [hd, if_neg (by omega), if_pos (by omega), if_pos (by omega)]
 · have hf : fstR b = some (2, 2 + x.toNat) := by unfold fstR chkR; rw [hd, if_neg (by omega), if_pos (by omega), if_neg (by omega)]
   rw [hyes _ _ hf]
   have ht : ((2 : Int) + (x.toNat : Int)).toNat = 2 + x.toNat := by omega
   rw [ht]
   refine ⟨by omega, ⟨by omega, by omega⟩, ?_⟩
   with_reducible refine sxE ?_
   exact ⟨rfl, congrArg (Value.int .i64) (by omega)⟩
def conR (b : List UInt8) : List UInt8 := match fstR b with
 | none => []
 | some (a, e) => (b.take e).drop a
theorem fstR_le {b : List UInt8} {a e : Nat} (h : fstR b = some (a, e)) : 2 ≤ a ∧ a ≤ e ∧ e ≤ b.length := by
 have key : ∀ a' n, chkR b a' n = some (a, e) → 2 ≤ a' → a' ≤ b.length → 2 ≤ a ∧ a ≤ e ∧ e ≤ b.length := by
  intro a' n h1 h2 h3
  unfold chkR at h1
  split at h1
  · cases h1
  · cases h1; omega
 unfold fstR at h
 split at h
 · cases h
 · split at h
   · exact key _ _ h (by omega) (by omega)
   · split at h
     · cases h
     · exact key _ _ h (by omega) (by omega)
theorem conR_len (b : List UInt8) : (conR b).length ≤ b.length := by
 unfold conR
 split
 · simp
 · rw [List.length_drop, List.length_take]; omega
theorem contents_c (b : List UInt8) (hb : b.length ≤ 1099511627776) : PC Tryz.prog 82 [.isl .u8 b] (.isl .u8 (conR b)) := by
 have h := rfirst_c b hb
 unfold fstV at h
 unfold conR
 refine pc_seal rfl rfl ?_
 refine runE mixed fi82 ?_
 refine callI_pure h ?_
 cases hf : fstR b with
 | none =>
  refine goE mixed ?_; trivial
 | some y =>
  obtain ⟨a, e⟩ := y
  refine goE mixed ?_; trivial
def elsR : Nat → List UInt8 → List (List UInt8)
 | 0, _ => []
 | f + 1, b => match fstR b with
  | none => []
  | some (_, e) => b.take e :: elsR f (b.drop e)
theorem elsR_fuel : ∀ (f : Nat) (b : List UInt8), b.length ≤ f → elsR f b = elsR b.length b
 | 0, b, h => by
  have : b = [] := List.length_eq_zero_iff.1 (by omega)
  subst this; rfl
 | f + 1, b, h => by
  cases hb : b.length with
  | zero =>
   have : b = [] := List.length_eq_zero_iff.1 hb
   subst this
   simp [elsR, fstR]
  | succ n =>
   simp only [elsR]
   cases hf : fstR b with
   | none => rfl
   | some y =>
    obtain ⟨a, e⟩ := y
    have hle := fstR_le hf
    simp only
    rw [elsR_fuel f (b.drop e) (by rw [List.length_drop]; omega), elsR_fuel n (b.drop e) (by rw [List.length_drop]; omega)]
theorem elsR_none {b : List UInt8} (h : fstR b = none) : elsR b.length b = [] := by
 cases hb : b.length with
 | zero => rfl
 | succ n => simp only [elsR, h]
theorem elsR_some {b : List UInt8} {a e : Nat} (h : fstR b = some (a, e)) : elsR b.length b = b.take e :: elsR (b.drop e).length (b.drop e) := by
 have hle := fstR_le h
 cases hb : b.length with
 | zero => omega
 | succ n =>
  simp only [elsR, h]
  rw [elsR_fuel n (b.drop e) (by rw [List.length_drop]; omega)]
theorem elements_c (b : List UInt8) (hb : b.length ≤ 1048576) : PC Tryz.prog 81 [.isl .u8 b] (.isl (.slice .u8) (elsR b.length b)) := by
 refine pc_seal rfl rfl ?_
 refine runE mixed fi81 ?_
 refine si_nilrow 3 (.slice .u8) rfl rfl ?_
 with_reducible refine sxE ?_
 refine si_loopX (ι := List UInt8 × List (List UInt8) × List SObj) (fun s => [(0, .isl .u8 s.1), (3, .bld s.2.2.length (.slice .u8) s.2.1.length)]) (fun s => s.2.2 ++ [.row (.slice .u8) s.2.1]) (fun s => s.1.length) (fun s => s.1.length ≤ b.length ∧ s.2.1.length + s.1.length ≤ b.length ∧ elsR b.length b = s.2.1 ++ elsR s.1.length s.1) (b, [], []) ⟨Nat.le_refl _, by simp, rfl⟩ rfl ?_ ?_
 · with_reducible refine sxE ?_; trivial
 rintro ⟨r, acc, G⟩ ⟨h1, h2, h3⟩
 dsimp only at h1 h2 h3
 have hf := rfirst_c r (by omega)
 refine goaE mixed ?_
 refine callI_pure hf ?_
 unfold fstV
 cases hx : fstR r with
 | none =>
  rw [elsR_none hx, List.append_nil] at h3
  rw [h3]
  refine goaE mixed ?_
  exact ⟨⟨Nat.le_refl _, by omega⟩, List.take_length⟩
 | some y =>
  obtain ⟨a, e⟩ := y
  have hle := fstR_le hx
  rw [elsR_some hx] at h3
  refine goaE mixed ?_
  refine ⟨fun q => by exfalso; omega, fun _ => ⟨⟨by omega, by omega⟩, ⟨by omega, by omega⟩, ⟨by omega, by omega, Nat.le_refl _⟩, ?_⟩⟩
  rw [List.take_length]
  have hl : (r.drop e).length = r.length - e := List.length_drop
  refine ⟨(r.drop e, acc ++ [r.take e], G ++ [.dead, .row (.slice .u8) [r.take e]]), ⟨?_, ?_, ?_⟩, ?_, ?_, ?_⟩
  · dsimp only; omega
  · dsimp only; rw [List.length_append, hl]; simp; omega
  · dsimp only; rw [h3, List.append_assoc]; rfl
  · dsimp only; omega
  · simp
  · with_reducible refine sxaE ?_; trivial
theorem elsR_mem : ∀ (f : Nat) (b : List UInt8), ∀ x ∈ elsR f b, 2 ≤ x.length ∧ x.length ≤ b.length
 | 0, b, x, h => by simp [elsR] at h
 | f + 1, b, x, h => by
  simp only [elsR] at h
  cases hf : fstR b with
  | none => rw [hf] at h; simp at h
  | some y =>
   obtain ⟨a, e⟩ := y
   have hle := fstR_le hf
   rw [hf] at h
   simp only [List.mem_cons] at h
   rcases h with rfl | h
   · rw [List.length_take]; omega
   · have := elsR_mem f (b.drop e) x h
     rw [List.length_drop] at this; omega
theorem elsR_len : ∀ (f : Nat) (b : List UInt8), (elsR f b).length ≤ b.length
 | 0, b => by simp [elsR]
 | f + 1, b => by
  simp only [elsR]
  cases hf : fstR b with
  | none => simp
  | some y =>
   obtain ⟨a, e⟩ := y
   have hle := fstR_le hf
   have := elsR_len f (b.drop e)
   rw [List.length_drop] at this
   simp only [List.length_cons]; omega
def isTag (n : Nat) (x : List UInt8) : Bool := decide (((x.getD 0 0).toNat : Int) = 160 + (n : Int))
def fndR (n : Nat) (l : List (List UInt8)) : List UInt8 := match l.find? (isTag n) with
 | none => []
 | some x => conR x
def itmR (b : List UInt8) (n : Nat) : List UInt8 := fndR n (elsR (conR b).length (conR b))
theorem find_at {n : Nat} {l : List (List UInt8)} {i : Nat} (h : i < l.length) (hq : isTag n (l.getD i []) = true) (hn : ∀ j, j < i → isTag n (l.getD j []) = false) : fndR n l = conR (l.getD i []) := by
 have : l.find? (isTag n) = some (l.getD i []) := by
  rw [List.find?_eq_some_iff_getElem]
  refine ⟨hq, i, h, by rw [List.getD_eq_getElem?_getD, List.getElem?_eq_getElem h]; rfl, fun j hj => ?_⟩
  have := hn j hj
  rw [List.getD_eq_getElem?_getD, List.getElem?_eq_getElem (by omega)] at this
  simpa using this
 unfold fndR; rw [this]
theorem find_no {n : Nat} {l : List (List UInt8)} (hn : ∀ j, j < l.length → isTag n (l.getD j []) = false) : fndR n l = [] := by
 have : l.find? (isTag n) = none := by
  rw [List.find?_eq_none]
  intro x hx
  obtain ⟨j, hj, rfl⟩ := List.getElem_of_mem hx
  have := hn j hj
  rw [List.getD_eq_getElem?_getD, List.getElem?_eq_getElem hj] at this
  simpa using this
 unfold fndR; rw [this]
theorem itmR_len (b : List UInt8) (n : Nat) : (itmR b n).length ≤ b.length := by
 unfold itmR fndR
 split
 · simp
 · rename_i x hx
   have h1 := elsR_mem _ _ x (List.mem_of_find?_eq_some hx)
   have h2 := conR_len x
   have h3 := conR_len b
   omega
theorem item_c (b : List UInt8) (n : Nat) (hn : n ≤ 30) (hb : b.length ≤ 1048576) : PC Tryz.prog 84 [.isl .u8 b, rI n] (.isl .u8 (itmR b n)) := by
 have hl := conR_len b
 have hc := contents_c b (by omega)
 have he := elements_c (conR b) (by omega)
 have hm := elsR_mem (conR b).length (conR b)
 have hle := elsR_len (conR b).length (conR b)
 have hd : itmR b n = fndR n (elsR (conR b).length (conR b)) := rfl
 rw [hd]
 generalize elsR (conR b).length (conR b) = l at *
 refine pc_seal rfl rfl ?_
 refine runE mixed fi84 ?_
 refine callI_pure hc ?_
 refine goE mixed ?_
 refine callI_pure he ?_
 refine goE mixed ?_
 refine si_cntD (fun i => [(6, .raw (.int .i64 ((i : Nat) : Int)))]) (l.length) (fun j => (fun j => !isTag n (l.getD j [])) j = true) (by first | decide | simp) (fun i => rfl) ?_ fun i hi hall => ?_
 · (with_reducible refine sxE ?_ <;> try exact True.intro)
   all_goals (try rfl)
 have hwr : IntKind.i64.wrap ((i : Int) + 1) = ((i + 1 : Nat) : Int) := wrap_succ (by omega)
 refine goE mixed ?_
 have bad : i < (l.length) → (fun j => !isTag n (l.getD j [])) i = false → allN (l.length) (fun j => !isTag n (l.getD j [])) = false := fun hlt hv => allN_false hlt hv
 have fin : ¬ i < (l.length) → allN (l.length) (fun j => !isTag n (l.getD j [])) = true := fun h => allN_true fun j hj => hall j (by omega)
 try dsimp only at bad fin hall
 refine ⟨fun hlt => ?_, fun hge => ?_⟩
 · have hmm := hm _ (getD_mem (d := (Ty.slice .u8).dflt) hlt)
   have hx := (List.getD (l.getD i (Ty.slice .u8).dflt) 0 Ty.u8.dflt).toNat_lt
   have w1 : IntKind.i64.wrap ((List.getD (l.getD i (Ty.slice .u8).dflt) 0 Ty.u8.dflt).toNat : Int) = (((List.getD (l.getD i (Ty.slice .u8).dflt) 0 Ty.u8.dflt).toNat : Nat) : Int) := wrapi (by omega)
   have w2 : IntKind.i64.wrap (160 + (n : Int)) = 160 + (n : Int) := wrapi (by omega)
   rw [w1, w2]
   refine ⟨⟨by omega, hlt⟩, by omega, fun q => ⟨⟨by omega, hlt⟩, callI_pure (contents_c _ (by omega)) ?_⟩, fun q => ?_⟩
   · have hq : isTag n (l.getD i []) = true := decide_eq_true q
     rw [find_at hlt hq (fun j hj => by have := hall j hj; simpa using this)]
     refine goE mixed ?_
     rfl
   · have hq : isTag n (l.getD i []) = false := decide_eq_false q
     refine ⟨hlt, next_all (fun j hj => by have := hall j hj; simpa using this) hq, ⟨[], rfl⟩, ?_⟩
     with_reducible refine sx1 hwr ?_; trivial
 · rw [find_no (fun j hj => by have := hall j (by omega); simpa using this)]
def gIntR (b : List UInt8) : Nat := beN ((conR b).take 7)
theorem getInt_c (b : List UInt8) (hb : b.length ≤ 1099511627776) : PC Tryz.prog 83 [.isl .u8 b] (rI (gIntR b)) := by
 have hc := contents_c b hb
 unfold gIntR
 generalize conR b = c at *
 refine pc_seal rfl rfl ?_
 refine runE mixed fi83 ?_
 refine callI_pure hc ?_
 refine goE mixed ?_
 refine si_cntD (fun i => [(4, rI (beN (c.take i))), (5, .raw (.int .i64 ((i : Nat) : Int)))]) (min c.length 7) (fun j => (fun _ => true) j = true) (by first | decide | simp) (fun i => rfl) ?_ fun i hi hall => ?_
 · (with_reducible refine sxE ?_ <;> try exact True.intro)
   all_goals (try rfl)
 have hwr : IntKind.i64.wrap ((i : Int) + 1) = ((i + 1 : Nat) : Int) := wrap_succ (by omega)
 refine goE mixed ?_
 have bad : i < (min c.length 7) → (fun _ => true) i = false → allN (min c.length 7) (fun _ => true) = false := fun hlt hv => allN_false hlt hv
 have fin : ¬ i < (min c.length 7) → allN (min c.length 7) (fun _ => true) = true := fun h => allN_true fun j hj => hall j (by omega)
 try dsimp only at bad fin hall
 refine ⟨fun h1 => ⟨fun h2 => ⟨⟨by omega, h1⟩, ?_⟩, fun h2 => ?_⟩, fun h1 => ?_⟩
 · have hv := beN_lt (c.take i)
   have hv2 : 256 ^ (c.take i).length ≤ 256 ^ 6 := Nat.pow_le_pow_right (by decide) (by simp; omega)
   have hcc : (c.getD i Ty.u8.dflt).toNat < 256 := UInt8.toNat_lt _
   have w1 : IntKind.i64.wrap (256 * (beN (c.take i) : Int)) = 256 * (beN (c.take i) : Int) := wrapi (by omega)
   have w2 : IntKind.i64.wrap ((c.getD i Ty.u8.dflt).toNat : Int) = (((c.getD i Ty.u8.dflt).toNat : Nat) : Int) := wrapi (by omega)
   have e6 : beN (c.take (i + 1)) = beN (c.take i) * 256 + (c.getD i Ty.u8.dflt).toNat := beN_succ c i h1
   have w3 : IntKind.i64.wrap (256 * (beN (c.take i) : Int) + ((c.getD i Ty.u8.dflt).toNat : Int)) = (beN (c.take (i + 1)) : Int) := by rw [wrapi (by omega), e6]; omega
   rw [w1, w2, w3]
   refine ⟨by omega, trivial, ⟨[], rfl⟩, ?_⟩
   with_reducible refine sx1 hwr ?_; trivial
 · obtain rfl : i = 7 := by omega
   rfl
 · obtain rfl : i = c.length := by omega
   rw [List.take_length, List.take_of_length_le (by omega)]
def gBitsR (b : List UInt8) : Nat := beN (((conR b).drop 1).take 4)
theorem getBytes_c (b : List UInt8) (hb : b.length ≤ 1048576) : PC Tryz.prog 110 [.isl .u8 b] (.isl .u8 (conR b)) := by
 have hc := contents_c b (by omega)
 have hl := conR_len b
 generalize conR b = c at *
 refine pc_seal rfl rfl ?_
 refine runE mixed fi110 ?_
 refine callI_pure hc ?_
 refine goE mixed ?_
 exact ⟨⟨by omega, by omega⟩, ⟨by omega, by omega⟩, List.take_of_length_le (by omega)⟩
theorem getBits_c (b : List UInt8) (hb : b.length ≤ 1099511627776) : PC Tryz.prog 108 [.isl .u8 b] (rI (gBitsR b)) := by
 have hc := contents_c b hb
 unfold gBitsR
 generalize conR b = c at *
 refine pc_seal rfl rfl ?_
 refine runE mixed fi108 ?_
 refine callI_pure hc ?_
 refine goE mixed ?_
 have hl : (c.drop 1).length = c.length - 1 := List.length_drop
 have hgd : ∀ i, c.getD (1 + i) Ty.u8.dflt = (c.drop 1).getD i Ty.u8.dflt := fun i => by
  rw [List.getD_eq_getElem?_getD, List.getD_eq_getElem?_getD, List.getElem?_drop]
 refine si_cntD (fun i => [(4, rI (beN ((c.drop 1).take i))), (5, .raw (.int .i64 ((1 + i : Nat) : Int)))]) (min (c.drop 1).length 4) (fun _ => True) (by simp) (fun i => rfl) ?_ fun i hi hall => ?_
 · with_reducible refine sxE ?_
   exact ⟨rfl, rfl⟩
 refine goE mixed ?_
 generalize hD : c.drop 1 = d at *
 refine ⟨fun h1 => ⟨fun h2 => ⟨⟨by omega, h1⟩, ?_⟩, fun h2 => ?_⟩, fun h1 => ?_⟩
 · have hv := beN_lt (d.take i)
   have hv2 : 256 ^ (d.take i).length ≤ 256 ^ 6 := Nat.pow_le_pow_right (by decide) (by simp; omega)
   have hcc : (c.getD (1 + i) Ty.u8.dflt).toNat < 256 := UInt8.toNat_lt _
   have w1 : IntKind.i64.wrap (256 * (beN (d.take i) : Int)) = 256 * (beN (d.take i) : Int) := wrapi (by omega)
   have w2 : IntKind.i64.wrap ((c.getD (1 + i) Ty.u8.dflt).toNat : Int) = (((c.getD (1 + i) Ty.u8.dflt).toNat : Nat) : Int) := wrapi (by omega)
   have e6 : beN (d.take (i + 1)) = beN (d.take i) * 256 + (d.getD i Ty.u8.dflt).toNat := beN_succ d i (by omega)
   rw [← hgd i] at e6
   have w3 : IntKind.i64.wrap (256 * (beN (d.take i) : Int) + ((c.getD (1 + i) Ty.u8.dflt).toNat : Int)) = (beN (d.take (i + 1)) : Int) := by rw [wrapi (by omega), e6]; omega
   have hwr : IntKind.i64.wrap (((1 + i : Nat) : Int) + 1) = ((1 + (i + 1) : Nat) : Int) := by rw [wrapi (by omega)]; omega
   rw [w1, w2, w3]
   refine ⟨by omega, trivial, ⟨[], rfl⟩, ?_⟩
   with_reducible refine sx1 hwr ?_; trivial
 · obtain rfl : i = 4 := by omega
   rfl
 · obtain rfl : i = d.length := by omega
   rw [List.take_length, List.take_of_length_le (by omega)]
end Go.Proofs.YtddmkgibghohkaaGreatDoor
/- The plain law of the reference's reading. -/
namespace Go.Proofs.YtddmkgibghohkaaGreatDoor
open Go Go.Sx Go.Proofs
set_option maxRecDepth 100000
set_option maxHeartbeats 4000000
set_option linter.unusedSimpArgs false

theorem fstR_meas {b : List UInt8} (h : (meas b).2.2 = 0) : fstR b = some ((meas b).1, (meas b).2.1) := by
 have key : ∀ a n, (measE b a n).2.2 = 0 → chkR b a n = some ((measE b a n).1, (measE b a n).2.1) := by
  intro a n h1
  unfold measE at h1 ⊢
  unfold chkR
  split at h1
  · cases h1
  · rename_i hh; rw [if_neg hh, if_neg hh]
 unfold meas at h ⊢
 unfold fstR
 split at h
 · cases h
 · rename_i g1
   rw [if_neg g1, if_neg g1]
   split at h
   · rename_i g2
     rw [if_pos g2, if_pos g2]
     exact key _ _ h
   · rename_i g2
     rw [if_neg g2, if_neg g2]
     split at h
     · cases h
     · rename_i g3
       split at h
       · cases h
       · rename_i g4
         split at h
         · cases h
         · rename_i g5
           rw [if_neg (by omega), if_neg g3, if_neg g4, if_neg g5]
           exact key _ _ h
theorem fstR_tlv (t : UInt8) (c r : List UInt8) (h : c.length ≤ 16777215) : fstR (tlv t c ++ r) = some (1 + (lenS c.length).length, (tlv t c).length) := by
 have hm := meas_tlv t c r h
 rw [fstR_meas (by rw [hm]), hm, tlv_length]
theorem conR_tlv (t : UInt8) (c r : List UInt8) (h : c.length ≤ 16777215) : conR (tlv t c ++ r) = c := by
 have := takeC_tlv t c r h
 unfold takeC at this
 rw [meas_tlv t c r h] at this
 unfold conR
 rw [fstR_tlv t c r h]
 simp only at this ⊢
 rw [tlv_length]; exact this
theorem conR_tlv' (t : UInt8) (c : List UInt8) (h : c.length ≤ 16777215) : conR (tlv t c) = c := by
 have := conR_tlv t c [] h
 rwa [List.append_nil] at this
def isEl (x : List UInt8) : Prop := ∃ t c, x = tlv t c ∧ c.length ≤ 16777215
theorem elsR_flat : ∀ (L : List (List UInt8)), (∀ x ∈ L, isEl x) → elsR L.flatten.length L.flatten = L
 | [], _ => rfl
 | x :: L, h => by
  obtain ⟨t, c, rfl, hc⟩ := h x (by simp)
  have hf := fstR_tlv t c L.flatten hc
  rw [List.flatten_cons, elsR_some hf, List.take_left, List.drop_left, elsR_flat L fun y hy => h y (by simp [hy])]
theorem flatten_ne {l : List (List UInt8)} : (l.filter fun x => !x.isEmpty).flatten = l.flatten := by
 induction l with
 | nil => rfl
 | cons x l ih =>
  cases x with
  | nil => simp [ih]
  | cons a x => simp [ih]
def wrapsL (l : List (List UInt8)) (n k : Nat) : List (List UInt8) := ((List.range' n k).map fun j => wrapS 160 (j : Nat) (l.getD j [])).filter fun x => !x.isEmpty
theorem wrapsL_succ (l : List (List UInt8)) (n k : Nat) : wrapsL l n (k + 1) = if wrapS 160 (n : Nat) (l.getD n []) = [] then wrapsL l (n + 1) k else wrapS 160 (n : Nat) (l.getD n []) :: wrapsL l (n + 1) k := by
 unfold wrapsL
 rw [List.range'_succ, List.map_cons, List.filter_cons]
 cases wrapS 160 (n : Nat) (l.getD n []) <;> simp
theorem elsR_suf {l : List (List UInt8)} {n k : Nat} (hl : ∀ j, (l.getD j []).length ≤ 16777215) (hn : n + k ≤ 31) : elsR (sufS l n k).length (sufS l n k) = wrapsL l n k := by
 have : sufS l n k = (wrapsL l n k).flatten := by unfold wrapsL sufS; rw [flatten_ne]
 rw [this]
 refine elsR_flat _ fun x hx => ?_
 unfold wrapsL at hx
 simp only [List.mem_filter, List.mem_map, List.mem_range'_1] at hx
 obtain ⟨⟨j, hj, rfl⟩, hne⟩ := hx
 rw [wrapS_ok (by omega) (hl j)] at hne ⊢
 split
 · rename_i h0; rw [if_pos h0] at hne; simp at hne
 · exact ⟨_, _, rfl, hl j⟩
theorem isTag_tlv {m n : Nat} {c : List UInt8} (hn : n ≤ 30) : isTag m (tlv (tagB n) c) = decide (n = m) := by
 unfold isTag tlv
 rw [List.getD_cons_zero, tagB_nat n hn]
 exact decide_eq_decide.2 (by omega)
theorem fnd_cons {m : Nat} {x : List UInt8} {L : List (List UInt8)} : fndR m (x :: L) = if isTag m x then conR x else fndR m L := by
 unfold fndR
 rw [List.find?_cons]
 cases isTag m x <;> simp
theorem fnd_lo {l : List (List UInt8)} {m : Nat} (hl : ∀ j, (l.getD j []).length ≤ 16777215) : ∀ (k n : Nat), m < n → n + k ≤ 31 → fndR m (wrapsL l n k) = []
 | 0, n, _, _ => rfl
 | k + 1, n, h, hn => by
  rw [wrapsL_succ, wrapS_ok (n := n) (by omega) (hl n)]
  have ih := fnd_lo (m := m) hl k (n + 1) (by omega) (by omega)
  by_cases h0 : l.getD n [] = []
  · rw [if_pos h0, if_pos rfl]; exact ih
  · rw [if_neg h0, if_neg (by simp [tlv]), fnd_cons, isTag_tlv (n := n) (by omega), decide_eq_false (show ¬ n = m by omega)]
    exact ih
theorem fnd_at {l : List (List UInt8)} {m : Nat} (hl : ∀ j, (l.getD j []).length ≤ 16777215) : ∀ (k n : Nat), n ≤ m → m < n + k → n + k ≤ 31 → fndR m (wrapsL l n k) = l.getD m []
 | 0, n, _, _, _ => by omega
 | k + 1, n, h, h2, hn => by
  rw [wrapsL_succ, wrapS_ok (n := n) (by omega) (hl n)]
  by_cases e : n = m
  · subst e
    by_cases h0 : l.getD n [] = []
    · rw [if_pos h0, if_pos rfl, fnd_lo hl k (n + 1) (by omega) (by omega), h0]
    · rw [if_neg h0, if_neg (by simp [tlv]), fnd_cons, isTag_tlv (n := n) (by omega), decide_eq_true (show n = n from rfl), if_pos rfl, conR_tlv' _ _ (hl n)]
  · have ih := fnd_at (m := m) hl k (n + 1) (by omega) (by omega) (by omega)
    by_cases h0 : l.getD n [] = []
    · rw [if_pos h0, if_pos rfl]; exact ih
    · rw [if_neg h0, if_neg (by simp [tlv]), fnd_cons, isTag_tlv (n := n) (by omega), decide_eq_false e]
      exact ih
theorem itm_seq {l : List (List UInt8)} {m k : Nat} (hl : ∀ j, (l.getD j []).length ≤ 16777215) (hk : k ≤ 31) (hm : m < k) (hs : (sufS l 0 k).length ≤ 16777215) : itmR (tlv 48 (sufS l 0 k)) m = l.getD m [] := by
 unfold itmR
 rw [conR_tlv' _ _ hs, elsR_suf hl (by omega)]
 exact fnd_at hl k 0 (Nat.zero_le _) (by omega) (by omega)
theorem gInt_ok {v : Int} (h : 0 ≤ v ∧ v < 36028797018963968) : (gIntR (intS v) : Int) = v := by
 obtain ⟨c, h1, h2, _, _, h5, h6⟩ := intS_i (v := v) (by omega)
 unfold gIntR
 rw [h1, conR_tlv' _ _ (by omega)]
 have h7 : c.length ≤ 7 := by
  rcases Nat.lt_or_ge c.length 8 with q | q
  · omega
  · have := h6 (by omega); omega
 rw [List.take_of_length_le h7]
 exact h5
theorem gTime_ok {n : Nat} (h : n ≤ 1099511627776) : gIntR (timeS n) = n := by
 unfold gIntR
 rw [timeS_tlv (by omega), conR_tlv' _ _ (by rw [numS_length]; omega), List.take_of_length_le (by rw [numS_length]; omega), beN_num n 6 (by omega), Nat.mod_eq_of_lt (by omega)]
theorem gBits_ok {n : Nat} (h : n < 4294967296) : gBitsR (bitsS n) = n := by
 unfold gBitsR
 rw [bitsS_tlv, conR_tlv' _ _ (by simp [numS_length]), List.drop_succ_cons, List.drop_zero, List.take_of_length_le (by rw [numS_length]; omega), beN_num n 4 (by omega), Nat.mod_eq_of_lt (by omega)]
end Go.Proofs.YtddmkgibghohkaaGreatDoor
/- Contracts: the reader, what does not read. -/
namespace Go.Proofs.YtddmkgibghohkaaGreatDoor
open Go Go.Sx Go.Proofs
set_option maxRecDepth 100000
set_option maxHeartbeats 4000000
set_option linter.unusedSimpArgs false

@[go_sem] abbrev rdr (b : List UInt8) (n : Nat) : SObj := .cells 215 [.isl .u8 b, rI n, .raw (.bool true)]
theorem rest_c (b : List UInt8) (n : Nat) (hn : n ≤ b.length) : PE Tryz.prog 200 [.ptr 0 0] [rdr b n] (.ret (.isl .u8 (b.drop n))) [rdr b n] := by
 refine pe_seal (Nat.le_refl _) ?_
 refine runE mixed fi200 ?_
 refine ⟨⟨by omega, hn, Nat.le_refl _⟩, ?_⟩
 rw [List.take_length]
theorem left_c (b : List UInt8) (n : Nat) (hn : n ≤ b.length) : PE Tryz.prog 139 [.ptr 0 0] [rdr b n] (.ret (rI ((b.length - n : Nat) : Int))) [rdr b n] := by
 refine pe_seal (Nat.le_refl _) ?_
 refine runE mixed fi139 ?_
 refine effE mixed [0] (rest_c b n hn) ?_
 rw [List.length_drop]
theorem end_c (b : List UInt8) (n : Nat) (hn : n ≤ b.length) : PE Tryz.prog 207 [.ptr 0 0] [rdr b n] (.ret (rI (if n < b.length then 5 else 0))) [rdr b n] := by
 refine pe_seal (Nat.le_refl _) ?_
 refine runE mixed fi207 ?_
 refine effE mixed [0] (left_c b n hn) ?_
 refine ⟨fun h => ?_, fun h => ?_⟩
 · rw [if_pos (by omega)]
 · rw [if_neg (by omega)]
theorem inner_c (b : List UInt8) : PE Tryz.prog 206 [.isl .u8 b] [] (.ret (.ptr 0 0)) [rdr b 0] := by
 refine pe_seal (Nat.zero_le _) ?_
 refine runE mixed fi206 ?_; trivial
theorem contained_c (b : List UInt8) : PE Tryz.prog 246 [.isl .u8 b] [] (.ret (.tup [.ptr 0 0, rB true])) [rdr b 0] := by
 refine pe_seal (Nat.zero_le _) ?_
 refine runE mixed fi246 ?_
 refine effE mixed [] (inner_c b) ?_; trivial
theorem take_c (tag : UInt8) (b : List UInt8) (n : Nat) (hn : n ≤ b.length) (hb : b.length ≤ 1099511627776) :
 PE Tryz.prog 248 [.ptr 0 0, .raw (.int .u8 tag.toNat)] [rdr b n] (.ret (.tup [.isl .u8 (if takeE tag (b.drop n) = 0 then takeC (b.drop n) else []), rI (takeE tag (b.drop n))])) [rdr b (if takeE tag (b.drop n) = 0 then n + takeN (b.drop n) else n)] := by
 have hr := rest_c b n hn
 have hlr : (b.drop n).length = b.length - n := List.length_drop
 have hm := measure_c (b.drop n) (by omega)
 have hok := @takeN_le tag (b.drop n)
 generalize hR : b.drop n = r at *
 have hE : takeE tag r = if r.length = 0 then 4 else if r.getD 0 0 ≠ tag then 6 else (meas r).2.2 := rfl
 refine pe_seal (Nat.le_refl _) ?_
 refine runE mixed fi248 ?_
 refine effE mixed [0] (hr) ?_
 refine ⟨fun h => ?_, fun h => ?_⟩
 · rw [if_pos (by omega)] at hE
   rw [hE]
   exact ⟨⟨rfl, rfl⟩, rfl⟩
 rw [if_neg (by omega)] at hE
 refine ⟨by omega, fun h2 => ?_, fun h2 => ?_⟩
 · rw [if_pos (fun e => h2 (by subst e; rfl))] at hE
   rw [hE]
   exact ⟨⟨rfl, rfl⟩, rfl⟩
 · have : r.getD 0 0 = tag := by
    apply UInt8.toNat_inj.1
    have : ((r.getD 0 Ty.u8.dflt).toNat : Int) = tag.toNat := h2
    exact_mod_cast this
   rw [if_neg (by simpa using this)] at hE
   refine callI_pure hm ?_
   unfold measV
   refine goE mixed ?_
   refine ⟨fun h3 => ?_, fun h3 => ?_⟩
   · have h3' : ¬ (meas r).2.2 = 0 := by omega
     rw [hE, if_neg h3', if_neg h3']
     exact ⟨⟨rfl, rfl⟩, rfl⟩
   · have h3' : (meas r).2.2 = 0 := by omega
     have hk := meas_ok h3'
     rw [hE, if_pos h3', if_pos h3', wrapi (by omega), h3']
     exact ⟨⟨by omega, hk.2.1, Nat.le_refl _, hk.2.2⟩, ⟨rfl, rfl⟩, congrArg (Value.int .i64) (by unfold takeN; omega)⟩
theorem read_int (g : Nat) (tag : UInt8) (b : List UInt8) (n : Nat) (hn : n ≤ b.length) (hb : b.length ≤ 1099511627776) (v : SV) (right : Bool) (hg : PC Tryz.prog g [.isl .u8 (takeC (b.drop n))] (.tup [v, rB right])) (hv : ∃ u, (v = .raw u) ∨ ∃ xs, v = .isl .u8 xs) :
 PE Tryz.prog 202 [.ptr 0 0, .raw (.int .u8 tag.toNat), .fn g [] []] [rdr b n] (.ret (if takeE tag (b.drop n) = 0 then (if right then .tup [v, rI 0] else .tup [.raw (.int .i64 0), rI 6]) else .tup [.raw (.int .i64 0), rI (takeE tag (b.drop n))])) [rdr b (if takeE tag (b.drop n) = 0 ∧ right = true then n + takeN (b.drop n) else n)] := by
 have ht := take_c tag b n hn hb
 generalize takeE tag (b.drop n) = e at *
 generalize takeC (b.drop n) = c at *
 generalize takeN (b.drop n) = k at *
 refine pe_seal (Nat.le_refl _) ?_
 refine runE mixed fi202 ?_
 refine effE mixed [0] (ht) ?_
 refine ⟨fun h => ?_, fun h => ?_⟩
 · have h' : ¬ e = 0 := by omega
   simp only [if_neg h', h', false_and, if_false]
   with_reducible refine sxE ?_; trivial
 · obtain rfl : e = 0 := by omega
   simp only [true_and, if_true]
   refine callI_pure hg ?_
   obtain ⟨u, rfl | ⟨xs, rfl⟩⟩ := hv
   · cases right
     · refine run_sound mixed 600 _ ?_
       simp (maxSteps := 3000000) only [Bool.false_eq_true, if_false, go_sem, ↓zA, ↓reduceIte, ↓reduceDIte, reduceCtorEq, Nat.reduceAdd, Nat.reduceSub, Nat.reduceLeDiff, Nat.reduceLT, Nat.reduceEqDiff, Nat.reduceBEq, Nat.reduceMul, Int.reduceToNat, Int.reduceEq, Int.reduceLT, Int.reduceLE] <;> try simp only [zB]
     · refine goE mixed ?_; trivial
   · cases right
     · refine run_sound mixed 600 _ ?_
       simp (maxSteps := 3000000) only [Bool.false_eq_true, if_false, go_sem, ↓zA, ↓reduceIte, ↓reduceDIte, reduceCtorEq, Nat.reduceAdd, Nat.reduceSub, Nat.reduceLeDiff, Nat.reduceLT, Nat.reduceEqDiff, Nat.reduceBEq, Nat.reduceMul, Int.reduceToNat, Int.reduceEq, Int.reduceLT, Int.reduceLE] <;> try simp only [zB]
     · refine goE mixed ?_; trivial
theorem read_str (g : Nat) (tag : UInt8) (b : List UInt8) (n : Nat) (hn : n ≤ b.length) (hb : b.length ≤ 1099511627776) (v : SV) (right : Bool) (hg : PC Tryz.prog g [.isl .u8 (takeC (b.drop n))] (.tup [v, rB right])) (hv : ∃ u, (v = .raw u) ∨ ∃ xs, v = .isl .u8 xs) :
 PE Tryz.prog 204 [.ptr 0 0, .raw (.int .u8 tag.toNat), .fn g [] []] [rdr b n] (.ret (if takeE tag (b.drop n) = 0 then (if right then .tup [v, rI 0] else .tup [.raw (.string ⟨#[]⟩), rI 6]) else .tup [.raw (.string ⟨#[]⟩), rI (takeE tag (b.drop n))])) [rdr b (if takeE tag (b.drop n) = 0 ∧ right = true then n + takeN (b.drop n) else n)] := by
 have ht := take_c tag b n hn hb
 generalize takeE tag (b.drop n) = e at *
 generalize takeC (b.drop n) = c at *
 generalize takeN (b.drop n) = k at *
 refine pe_seal (Nat.le_refl _) ?_
 refine runE mixed fi204 ?_
 refine effE mixed [0] (ht) ?_
 refine ⟨fun h => ?_, fun h => ?_⟩
 · have h' : ¬ e = 0 := by omega
   simp only [if_neg h', h', false_and, if_false]
   with_reducible refine sxE ?_; trivial
 · obtain rfl : e = 0 := by omega
   simp only [true_and, if_true]
   refine callI_pure hg ?_
   obtain ⟨u, rfl | ⟨xs, rfl⟩⟩ := hv
   · cases right
     · refine run_sound mixed 600 _ ?_
       simp (maxSteps := 3000000) only [Bool.false_eq_true, if_false, go_sem, ↓zA, ↓reduceIte, ↓reduceDIte, reduceCtorEq, Nat.reduceAdd, Nat.reduceSub, Nat.reduceLeDiff, Nat.reduceLT, Nat.reduceEqDiff, Nat.reduceBEq, Nat.reduceMul, Int.reduceToNat, Int.reduceEq, Int.reduceLT, Int.reduceLE] <;> try simp only [zB]
     · refine goE mixed ?_; trivial
   · cases right
     · refine run_sound mixed 600 _ ?_
       simp (maxSteps := 3000000) only [Bool.false_eq_true, if_false, go_sem, ↓zA, ↓reduceIte, ↓reduceDIte, reduceCtorEq, Nat.reduceAdd, Nat.reduceSub, Nat.reduceLeDiff, Nat.reduceLT, Nat.reduceEqDiff, Nat.reduceBEq, Nat.reduceMul, Int.reduceToNat, Int.reduceEq, Int.reduceLT, Int.reduceLE] <;> try simp only [zB]
     · refine goE mixed ?_; trivial
theorem read_u32 (g : Nat) (tag : UInt8) (b : List UInt8) (n : Nat) (hn : n ≤ b.length) (hb : b.length ≤ 1099511627776) (v : SV) (right : Bool) (hg : PC Tryz.prog g [.isl .u8 (takeC (b.drop n))] (.tup [v, rB right])) (hv : ∃ u, (v = .raw u) ∨ ∃ xs, v = .isl .u8 xs) :
 PE Tryz.prog 222 [.ptr 0 0, .raw (.int .u8 tag.toNat), .fn g [] []] [rdr b n] (.ret (if takeE tag (b.drop n) = 0 then (if right then .tup [v, rI 0] else .tup [.raw (.int .u32 0), rI 6]) else .tup [.raw (.int .u32 0), rI (takeE tag (b.drop n))])) [rdr b (if takeE tag (b.drop n) = 0 ∧ right = true then n + takeN (b.drop n) else n)] := by
 have ht := take_c tag b n hn hb
 generalize takeE tag (b.drop n) = e at *
 generalize takeC (b.drop n) = c at *
 generalize takeN (b.drop n) = k at *
 refine pe_seal (Nat.le_refl _) ?_
 refine runE mixed fi222 ?_
 refine effE mixed [0] (ht) ?_
 refine ⟨fun h => ?_, fun h => ?_⟩
 · have h' : ¬ e = 0 := by omega
   simp only [if_neg h', h', false_and, if_false]
   with_reducible refine sxE ?_; trivial
 · obtain rfl : e = 0 := by omega
   simp only [true_and, if_true]
   refine callI_pure hg ?_
   obtain ⟨u, rfl | ⟨xs, rfl⟩⟩ := hv
   · cases right
     · refine run_sound mixed 600 _ ?_
       simp (maxSteps := 3000000) only [Bool.false_eq_true, if_false, go_sem, ↓zA, ↓reduceIte, ↓reduceDIte, reduceCtorEq, Nat.reduceAdd, Nat.reduceSub, Nat.reduceLeDiff, Nat.reduceLT, Nat.reduceEqDiff, Nat.reduceBEq, Nat.reduceMul, Int.reduceToNat, Int.reduceEq, Int.reduceLT, Int.reduceLE] <;> try simp only [zB]
     · refine goE mixed ?_; trivial
   · cases right
     · refine run_sound mixed 600 _ ?_
       simp (maxSteps := 3000000) only [Bool.false_eq_true, if_false, go_sem, ↓zA, ↓reduceIte, ↓reduceDIte, reduceCtorEq, Nat.reduceAdd, Nat.reduceSub, Nat.reduceLeDiff, Nat.reduceLT, Nat.reduceEqDiff, Nat.reduceBEq, Nat.reduceMul, Int.reduceToNat, Int.reduceEq, Int.reduceLT, Int.reduceLE] <;> try simp only [zB]
     · refine goE mixed ?_; trivial
theorem read_bytes (g : Nat) (tag : UInt8) (b : List UInt8) (n : Nat) (hn : n ≤ b.length) (hb : b.length ≤ 1099511627776) (v : SV) (right : Bool) (hg : PC Tryz.prog g [.isl .u8 (takeC (b.drop n))] (.tup [v, rB right])) (hv : ∃ u, (v = .raw u) ∨ ∃ xs, v = .isl .u8 xs) :
 PE Tryz.prog 269 [.ptr 0 0, .raw (.int .u8 tag.toNat), .fn g [] []] [rdr b n] (.ret (if takeE tag (b.drop n) = 0 then (if right then .tup [v, rI 0] else .tup [.isl .u8 [], rI 6]) else .tup [.isl .u8 [], rI (takeE tag (b.drop n))])) [rdr b (if takeE tag (b.drop n) = 0 ∧ right = true then n + takeN (b.drop n) else n)] := by
 have ht := take_c tag b n hn hb
 generalize takeE tag (b.drop n) = e at *
 generalize takeC (b.drop n) = c at *
 generalize takeN (b.drop n) = k at *
 refine pe_seal (Nat.le_refl _) ?_
 refine runE mixed fi269 ?_
 refine effE mixed [0] (ht) ?_
 refine ⟨fun h => ?_, fun h => ?_⟩
 · have h' : ¬ e = 0 := by omega
   simp only [if_neg h', h', false_and, if_false]
   with_reducible refine sxE ?_; trivial
 · obtain rfl : e = 0 := by omega
   simp only [true_and, if_true]
   refine callI_pure hg ?_
   obtain ⟨u, rfl | ⟨xs, rfl⟩⟩ := hv
   · cases right
     · refine run_sound mixed 600 _ ?_
       simp (maxSteps := 3000000) only [Bool.false_eq_true, if_false, go_sem, ↓zA, ↓reduceIte, ↓reduceDIte, reduceCtorEq, Nat.reduceAdd, Nat.reduceSub, Nat.reduceLeDiff, Nat.reduceLT, Nat.reduceEqDiff, Nat.reduceBEq, Nat.reduceMul, Int.reduceToNat, Int.reduceEq, Int.reduceLT, Int.reduceLE] <;> try simp only [zB]
     · refine goE mixed ?_; trivial
   · cases right
     · refine run_sound mixed 600 _ ?_
       simp (maxSteps := 3000000) only [Bool.false_eq_true, if_false, go_sem, ↓zA, ↓reduceIte, ↓reduceDIte, reduceCtorEq, Nat.reduceAdd, Nat.reduceSub, Nat.reduceLeDiff, Nat.reduceLT, Nat.reduceEqDiff, Nat.reduceBEq, Nat.reduceMul, Int.reduceToNat, Int.reduceEq, Int.reduceLT, Int.reduceLE] <;> try simp only [zB]
     · refine goE mixed ?_; trivial
end Go.Proofs.YtddmkgibghohkaaGreatDoor
/- Contracts: the reader, values of each kind. -/
namespace Go.Proofs.YtddmkgibghohkaaGreatDoor
open Go Go.Sx Go.Proofs
set_option maxRecDepth 100000
set_option maxHeartbeats 4000000
set_option linter.unusedSimpArgs false

theorem rdP_ok {α : Type} {tag : UInt8} {dec : List UInt8 → Option α} {r : List UInt8} {v : α} {k : Nat} (h : rdP tag dec r = .ok (v, k)) : takeE tag r = 0 ∧ dec (takeC r) = some v ∧ k = takeN r := by
 unfold rdP at h
 split at h
 · split at h
   · cases h; exact ⟨by assumption, by assumption, rfl⟩
   · cases h
 · cases h
theorem rdP_er {α : Type} {tag : UInt8} {dec : List UInt8 → Option α} {r : List UInt8} {e : Nat} (h : rdP tag dec r = .error e) : (takeE tag r = 0 ∧ dec (takeC r) = none ∧ e = 6) ∨ (takeE tag r ≠ 0 ∧ e = takeE tag r) := by
 unfold rdP at h
 split at h
 · split at h
   · cases h
   · cases h; exact .inl ⟨by assumption, by assumption, rfl⟩
 · cases h; exact .inr ⟨by assumption, rfl⟩
theorem rdP_le {α : Type} {tag : UInt8} {dec : List UInt8 → Option α} {r : List UInt8} {v : α} {k : Nat} (h : rdP tag dec r = .ok (v, k)) : k ≤ r.length := by
 obtain ⟨h1, _, rfl⟩ := rdP_ok h
 exact takeN_le h1
theorem wrap64_or (v : Int) (c : Nat) (hv : -36028797018963968 ≤ v ∧ v < 36028797018963968) (hc : c < 256) : IntKind.i64.wrap ((BitVec.ofInt 64 (v * 256) ||| BitVec.ofInt 64 ((c : Nat) : Int)).toNat : Int) = v * 256 + c := by
 obtain ⟨m, hm⟩ : ∃ m : Nat, (BitVec.ofInt 64 (v * 256)).toNat = m * 256 ∧ ((m : Int) * 256 = v * 256 ∨ (m : Int) * 256 = v * 256 + 18446744073709551616) := by
  refine ⟨((v * 256) % 18446744073709551616).toNat / 256, ?_, ?_⟩
  · rw [BitVec.toNat_ofInt]
    have : (((2 ^ 64 : Nat)) : Int) = 18446744073709551616 := by decide
    rw [this]; omega
  · omega
 have h2 : (BitVec.ofInt 64 ((c : Nat) : Int)).toNat = c := by rw [BitVec.ofInt_natCast, BitVec.toNat_ofNat]; exact Nat.mod_eq_of_lt (by omega)
 have h3 : m * 256 ||| c = m * 256 + c := by
  have := Nat.shiftLeft_add_eq_or_of_lt (b := c) (i := 8) hc m
  rw [Nat.shiftLeft_eq] at this
  exact this.symm
 rw [BitVec.toNat_or, hm.1, h2, h3]
 have hw : ∀ x : Int, IntKind.i64.wrap x = if x % 18446744073709551616 < 9223372036854775808 then x % 18446744073709551616 else x % 18446744073709551616 - 18446744073709551616 := fun x => by
  simp [IntKind.wrap, IntKind.bits, IntKind.signed]
  split <;> omega
 rw [hw]
 push_cast
 rcases hm.2 with h | h <;> split <;> omega
def sgnK (c : List UInt8) (i : Nat) : Int := ((c.drop 1).take i).foldl (fun v x => v * 256 + (x.toNat : Int)) (sgn1 (c.getD 0 0))
theorem sgn1_bd (x : UInt8) : -128 ≤ sgn1 x ∧ sgn1 x < 128 := by
 have := x.toNat_lt
 unfold sgn1
 simp [IntKind.wrap, IntKind.bits, IntKind.signed]
 omega
theorem sgnK_succ {c : List UInt8} {i : Nat} (h : i < (c.drop 1).length) : sgnK c (i + 1) = sgnK c i * 256 + (((c.drop 1).getD i 0).toNat : Int) := by
 unfold sgnK
 rw [take_succ_getD (d := 0) h, List.foldl_append]; rfl
theorem sgnK_bd (c : List UInt8) : ∀ i, i ≤ (c.drop 1).length → -(128 * 256 ^ i : Nat) ≤ sgnK c i ∧ sgnK c i < (128 * 256 ^ i : Nat)
 | 0, _ => by have := sgn1_bd (c.getD 0 0); simpa [sgnK] using this
 | i + 1, h => by
  have ih := sgnK_bd c i (by omega)
  have hx := ((c.drop 1).getD i 0).toNat_lt
  rw [sgnK_succ (by omega), Nat.pow_succ]
  omega
theorem equal_c (a b : List UInt8) (ha : a.length ≤ 140737488355328) (hb : b.length ≤ 140737488355328) : PC Tryz.prog 69 [.isl .u8 a, .isl .u8 b] (rB (decide (a = b))) := by
 refine pc_of rfl rfl ?_
 refine runE mixed fi69 ?_
 exact decide_eq_decide.2 ⟨fun h => by simpa [strOf] using h, fun h => by rw [h]⟩
def iVal (c : List UInt8) : Int := if c.length < 1 ∨ 8 < c.length then 0 else sgn c
theorem decInt_val {c : List UInt8} {v : Int} (h : decInt c = some v) : v = iVal c := by
 unfold decInt at h
 split at h
 · rename_i hc; cases h
   unfold iVal; rw [if_neg (by omega)]
 · cases h
theorem sgnK_all (c : List UInt8) : sgnK c (c.drop 1).length = sgn c := by unfold sgnK sgn; rw [List.take_length]
theorem int1_c (c : List UInt8) (hc : c.length ≤ 1099511627776) : PC Tryz.prog 203 [.isl .u8 c] (.tup [rI (iVal c), rB (decInt c).isSome]) := by
 refine pc_seal rfl rfl ?_
 refine runE mixed fi203 ?_
 have h0 : (c.length < 1 ∨ 8 < c.length) → iVal c = 0 ∧ (decInt c).isSome = false := fun h => by
  unfold iVal decInt
  rw [if_pos h, if_neg (by omega)]
  exact ⟨rfl, rfl⟩
 refine ⟨fun h1 => ⟨fun h8 => ?_, fun h8 => ⟨by omega, ⟨by omega, Nat.le_refl _⟩, ?_⟩⟩, fun h1 => ?_⟩
 · obtain ⟨e1, e2⟩ := h0 (by omega)
   rw [e1, e2]; exact ⟨rfl, rfl⟩
 rotate_left
 · obtain ⟨e1, e2⟩ := h0 (by omega)
   rw [e1, e2]; exact ⟨rfl, rfl⟩
 have hs1 : IntKind.i64.wrap (IntKind.i8.wrap ((c.getD 0 Ty.u8.dflt).toNat : Int)) = sgnK c 0 := by
  have := sgn1_bd (c.getD 0 0)
  show IntKind.i64.wrap (sgn1 (c.getD 0 0)) = _
  rw [wrapi (by omega)]; rfl
 rw [hs1]
 have htl : List.take c.length c = c := List.take_length
 rw [htl]
 have hl : (c.drop 1).length = c.length - 1 := List.length_drop
 generalize hD : c.drop 1 = d at *
 refine si_cntD (fun i => [(4, rI (sgnK c i)), (23, .raw (.int .i64 ((i : Nat) : Int)))]) (d.length) (fun j => (fun _ => true) j = true) (by first | decide | simp) (fun i => rfl) ?_ fun i hi hall => ?_
 · (with_reducible refine sxE ?_ <;> try exact True.intro)
   all_goals (try rfl)
 have hwr : IntKind.i64.wrap ((i : Int) + 1) = ((i + 1 : Nat) : Int) := wrap_succ (by omega)
 refine goE mixed ?_
 have bad : i < (d.length) → (fun _ => true) i = false → allN (d.length) (fun _ => true) = false := fun hlt hv => allN_false hlt hv
 have fin : ¬ i < (d.length) → allN (d.length) (fun _ => true) = true := fun h => allN_true fun j hj => hall j (by omega)
 try dsimp only at bad fin hall
 refine ⟨fun hlt => ⟨⟨by omega, hlt⟩, ?_⟩, fun hge => ?_⟩
 · have hb := sgnK_bd c i (by rw [hD]; omega)
   have hp : 256 ^ i ≤ 256 ^ 6 := Nat.pow_le_pow_right (by decide) (by omega)
   have hx : (d.getD i Ty.u8.dflt).toNat < 256 := UInt8.toNat_lt _
   have e0 : sgnK c i * 2 ^ min 8 64 = sgnK c i * 256 := rfl
   have e1 : IntKind.i64.wrap (sgnK c i * 256) = sgnK c i * 256 := wrapi (by omega)
   have e2 : IntKind.i64.wrap ((d.getD i Ty.u8.dflt).toNat : Int) = ((d.getD i Ty.u8.dflt).toNat : Int) := wrapi (by omega)
   have e3 := wrap64_or (sgnK c i) (d.getD i Ty.u8.dflt).toNat (by omega) hx
   have e4 := sgnK_succ (c := c) (i := i) (by rw [hD]; exact hlt)
   rw [hD] at e4
   rw [e0, e1, e2]
   refine ⟨hlt, trivial, ⟨[], rfl⟩, ?_⟩
   with_reducible refine sx1 hwr ?_
   rw [e4]
   exact congrArg (Value.int .i64) e3
 · obtain rfl : i = d.length := by omega
   have hall' := sgnK_all c
   rw [hD] at hall'
   rw [hall']
   refine callI_pure (integer_c (sgn c)) ?_
   refine goE mixed ?_
   refine callI_hand 0 ?_
   with_reducible refine sxE ?_
   refine callI_pure (element_k 2 2 rfl [c] (by simp)) ?_
   have g1 := intS_len (sgn c)
   have g2 := elemS_len 2 [c]
   simp only [List.flatten_cons, List.flatten_nil, List.append_nil] at g2
   refine goE mixed ?_
   refine callI_pure (equal_c _ _ (by omega) (by omega)) ?_
   refine goE mixed ?_
   have e1 : iVal c = sgn c := by unfold iVal; rw [if_neg (by omega)]
   have e2 : (decInt c).isSome = decide (intS (sgn c) = elemS 2 [c]) := by
    unfold decInt
    by_cases h : intS (sgn c) = elemS 2 [c]
    · rw [if_pos ⟨by omega, by omega, h⟩, decide_eq_true h]; rfl
    · rw [if_neg (fun q => h q.2.2), decide_eq_false h]; rfl
   rw [e1, e2]
   exact ⟨rfl, rfl⟩
def bVal (c : List UInt8) : Nat := if c.length ≠ 5 ∨ c.getD 0 0 ≠ 0 then 0 else beN (c.drop 1)
theorem bits1_c (c : List UInt8) : PC Tryz.prog 223 [.isl .u8 c] (.tup [.raw (.int .u32 (bVal c)), rB (decBits c).isSome]) := by
 refine pc_seal rfl rfl ?_
 refine runE mixed fi223 ?_
 have hno : (c.length ≠ 5 ∨ c.getD 0 0 ≠ 0) → bVal c = 0 ∧ (decBits c).isSome = false := fun h => by
  unfold bVal decBits
  rw [if_pos h, if_neg (fun q => h.elim (fun e => e q.1) (fun e => e q.2))]
  exact ⟨rfl, rfl⟩
 refine ⟨fun h5 => ⟨by omega, fun h0 => ?_, fun h0 => ⟨⟨by omega, Nat.le_refl _⟩, ?_⟩⟩, fun h5 => ?_⟩
 · obtain ⟨e1, e2⟩ := hno (.inr fun e => h0 (by rw [show c.getD 0 Ty.u8.dflt = 0 from e]; rfl))
   rw [e1, e2]; exact ⟨rfl, rfl⟩
 · have hz : c.getD 0 0 = 0 := by
    apply UInt8.toNat_inj.1
    have : ((c.getD 0 Ty.u8.dflt).toNat : Int) = 0 := h0
    exact_mod_cast this
   have hl : (c.drop 1).length = 4 := by rw [List.length_drop]; omega
   rw [List.take_length]
   refine callI_pure (unsigned_c (c.drop 1) (by omega)) ?_
   have hb := beN_lt (c.drop 1)
   rw [hl] at hb
   have e1 : bVal c = beN (c.drop 1) := by unfold bVal; rw [if_neg (fun q => q.elim (fun e => e (by omega)) (fun e => e hz))]
   have e2 : (decBits c).isSome = true := by unfold decBits; rw [if_pos ⟨by omega, hz⟩]; rfl
   have e3 : IntKind.u32.wrap ((beN (c.drop 1) : Nat) : Int) = ((beN (c.drop 1) : Nat) : Int) := by
    generalize beN (c.drop 1) = m at *
    have : m < 4294967296 := hb
    simp [IntKind.wrap, IntKind.bits, IntKind.signed]
    omega
   rw [e1, e2]
   refine run_sound mixed 600 _ ?_
   simp (maxSteps := 3000000) only [e3, go_sem, ↓zA, ↓reduceIte, ↓reduceDIte, reduceCtorEq, Nat.reduceAdd, Nat.reduceSub, Nat.reduceLeDiff, Nat.reduceLT, Nat.reduceEqDiff, Nat.reduceBEq, Nat.reduceMul, Int.reduceToNat, Int.reduceEq, Int.reduceLT, Int.reduceLE] <;> try simp only [zB]
 · obtain ⟨e1, e2⟩ := hno (.inl (by omega))
   rw [e1, e2]; exact ⟨rfl, rfl⟩
def tVal (c : List UInt8) : Nat := if c.length ≠ 6 then 0 else beN c
theorem time1_c (c : List UInt8) : PC Tryz.prog 267 [.isl .u8 c] (.tup [rI (tVal c), rB (decTime c).isSome]) := by
 refine pc_seal rfl rfl ?_
 refine runE mixed fi267 ?_
 refine ⟨fun h6 => ?_, fun h6 => callI_pure (unsigned_c c (by omega)) ?_⟩
 · have e1 : tVal c = 0 := by unfold tVal; rw [if_pos (by omega)]
   have e2 : (decTime c).isSome = false := by unfold decTime; rw [if_neg (by omega)]; rfl
   rw [e1, e2]; exact ⟨rfl, rfl⟩
 · have e1 : tVal c = beN c := by unfold tVal; rw [if_neg (by omega)]
   have e2 : (decTime c).isSome = decide (((beN c : Nat) : Int) ≤ 1099511627776) := by
    unfold decTime
    by_cases h : beN c ≤ 1099511627776
    · rw [if_pos ⟨by omega, h⟩, decide_eq_true (by omega)]; rfl
    · rw [if_neg (by omega), decide_eq_false (by omega)]; rfl
   rw [e1, e2]
   refine goE mixed ?_; trivial
theorem str1_c (c : List UInt8) (hc : c.length ≤ 1099511627776) : PC Tryz.prog 205 [.isl .u8 c] (.tup [rS ⟨c.toArray⟩, rB true]) := by
 refine pc_seal rfl rfl ?_
 refine runE mixed fi205 ?_
 rfl
theorem oct1_c (c : List UInt8) (hc : c.length ≤ 1099511627776) : PC Tryz.prog 270 [.isl .u8 c] (.tup [.isl .u8 c, rB true]) := by
 refine pc_seal rfl rfl ?_
 refine runE mixed fi270 ?_
 refine callI_pure (bclone_c c (by omega)) ?_
 refine goE mixed ?_; trivial
theorem decBits_val {c : List UInt8} {v : Nat} (h : decBits c = some v) : v = bVal c := by
 unfold decBits at h
 split at h
 · rename_i hc; cases h; unfold bVal; rw [if_neg (fun q => q.elim (fun e => e hc.1) (fun e => e hc.2))]
 · cases h
theorem decTime_val {c : List UInt8} {v : Nat} (h : decTime c = some v) : v = tVal c := by
 unfold decTime at h
 split at h
 · rename_i hc; cases h; unfold tVal; rw [if_neg (by omega)]
 · cases h
theorem tkC_le {b : List UInt8} {n : Nat} (hb : b.length ≤ 1099511627776) : (takeC (b.drop n)).length ≤ 1099511627776 := by
 have := takeC_len (b.drop n)
 rw [List.length_drop] at this; omega
theorem rint_ok (b : List UInt8) (n : Nat) (hn : n ≤ b.length) (hb : b.length ≤ 1099511627776) {v : Int} {k : Nat} (h : intP (b.drop n) = .ok (v, k)) : PE Tryz.prog 145 [.ptr 0 0] [rdr b n] (.ret (.tup [(rI) v, rI 0])) [rdr b (n + k)] := by
 obtain ⟨h1, h2, rfl⟩ := rdP_ok h
 have hr := read_int 203 2 b n hn hb _ _ (int1_c (takeC (b.drop n)) (tkC_le hb)) ⟨_, .inl rfl⟩
 rw [if_pos h1, if_pos (by rw [h2]; rfl), if_pos ⟨h1, by rw [h2]; rfl⟩, ← decInt_val h2] at hr
 refine pe_seal (Nat.le_refl _) ?_
 refine runE mixed fi145 ?_
 refine effE mixed [0] (hr) ?_; trivial
theorem rint_er (b : List UInt8) (n : Nat) (hn : n ≤ b.length) (hb : b.length ≤ 1099511627776) {e : Nat} (h : intP (b.drop n) = .error e) : PE Tryz.prog 145 [.ptr 0 0] [rdr b n] (.ret (.tup [rI 0, rI e])) [rdr b n] := by
 have hr := read_int 203 2 b n hn hb _ _ (int1_c (takeC (b.drop n)) (tkC_le hb)) ⟨_, .inl rfl⟩
 have hr' : PE Tryz.prog 202 [.ptr 0 0, .raw (.int .u8 (2 : UInt8).toNat), .fn 203 [] []] [rdr b n] (.ret (.tup [rI 0, rI e])) [rdr b n] := by
  rcases rdP_er h with ⟨h1, h2, rfl⟩ | ⟨h1, rfl⟩
  · rw [if_pos h1, if_neg (by rw [h2]; simp), if_neg (fun q => by rw [h2] at q; simp at q)] at hr
    exact hr
  · rw [if_neg h1, if_neg (fun q => h1 q.1)] at hr
    exact hr
 refine pe_seal (Nat.le_refl _) ?_
 refine runE mixed fi145 ?_
 refine effE mixed [0] (hr') ?_; trivial
theorem rbits_ok (b : List UInt8) (n : Nat) (hn : n ≤ b.length) (hb : b.length ≤ 1099511627776) {v : Nat} {k : Nat} (h : bitsP (b.drop n) = .ok (v, k)) : PE Tryz.prog 183 [.ptr 0 0] [rdr b n] (.ret (.tup [(fun v => .raw (.int .u32 (v : Nat))) v, rI 0])) [rdr b (n + k)] := by
 obtain ⟨h1, h2, rfl⟩ := rdP_ok h
 have hr := read_u32 223 3 b n hn hb _ _ (bits1_c (takeC (b.drop n))) ⟨_, .inl rfl⟩
 rw [if_pos h1, if_pos (by rw [h2]; rfl), if_pos ⟨h1, by rw [h2]; rfl⟩, ← decBits_val h2] at hr
 refine pe_seal (Nat.le_refl _) ?_
 refine runE mixed fi183 ?_
 refine effE mixed [0] (hr) ?_; trivial
theorem rbits_er (b : List UInt8) (n : Nat) (hn : n ≤ b.length) (hb : b.length ≤ 1099511627776) {e : Nat} (h : bitsP (b.drop n) = .error e) : PE Tryz.prog 183 [.ptr 0 0] [rdr b n] (.ret (.tup [.raw (.int .u32 0), rI e])) [rdr b n] := by
 have hr := read_u32 223 3 b n hn hb _ _ (bits1_c (takeC (b.drop n))) ⟨_, .inl rfl⟩
 have hr' : PE Tryz.prog 222 [.ptr 0 0, .raw (.int .u8 (3 : UInt8).toNat), .fn 223 [] []] [rdr b n] (.ret (.tup [.raw (.int .u32 0), rI e])) [rdr b n] := by
  rcases rdP_er h with ⟨h1, h2, rfl⟩ | ⟨h1, rfl⟩
  · rw [if_pos h1, if_neg (by rw [h2]; simp), if_neg (fun q => by rw [h2] at q; simp at q)] at hr
    exact hr
  · rw [if_neg h1, if_neg (fun q => h1 q.1)] at hr
    exact hr
 refine pe_seal (Nat.le_refl _) ?_
 refine runE mixed fi183 ?_
 refine effE mixed [0] (hr') ?_; trivial
theorem rtime_ok (b : List UInt8) (n : Nat) (hn : n ≤ b.length) (hb : b.length ≤ 1099511627776) {v : Nat} {k : Nat} (h : timeP (b.drop n) = .ok (v, k)) : PE Tryz.prog 232 [.ptr 0 0] [rdr b n] (.ret (.tup [(fun v => rI (v : Nat)) v, rI 0])) [rdr b (n + k)] := by
 obtain ⟨h1, h2, rfl⟩ := rdP_ok h
 have hr := read_int 267 24 b n hn hb _ _ (time1_c (takeC (b.drop n))) ⟨_, .inl rfl⟩
 rw [if_pos h1, if_pos (by rw [h2]; rfl), if_pos ⟨h1, by rw [h2]; rfl⟩, ← decTime_val h2] at hr
 refine pe_seal (Nat.le_refl _) ?_
 refine runE mixed fi232 ?_
 refine effE mixed [0] (hr) ?_; trivial
theorem rtime_er (b : List UInt8) (n : Nat) (hn : n ≤ b.length) (hb : b.length ≤ 1099511627776) {e : Nat} (h : timeP (b.drop n) = .error e) : PE Tryz.prog 232 [.ptr 0 0] [rdr b n] (.ret (.tup [rI 0, rI e])) [rdr b n] := by
 have hr := read_int 267 24 b n hn hb _ _ (time1_c (takeC (b.drop n))) ⟨_, .inl rfl⟩
 have hr' : PE Tryz.prog 202 [.ptr 0 0, .raw (.int .u8 (24 : UInt8).toNat), .fn 267 [] []] [rdr b n] (.ret (.tup [rI 0, rI e])) [rdr b n] := by
  rcases rdP_er h with ⟨h1, h2, rfl⟩ | ⟨h1, rfl⟩
  · rw [if_pos h1, if_neg (by rw [h2]; simp), if_neg (fun q => by rw [h2] at q; simp at q)] at hr
    exact hr
  · rw [if_neg h1, if_neg (fun q => h1 q.1)] at hr
    exact hr
 refine pe_seal (Nat.le_refl _) ?_
 refine runE mixed fi232 ?_
 refine effE mixed [0] (hr') ?_; trivial
end Go.Proofs.YtddmkgibghohkaaGreatDoor
