/- Contracts: distinct. -/
import Derived.Test.YtddmkgibghohkaaGreatDoorP17
import Derived.Test.YtddmkgibghohkaaGreatDoorP8
set_option linter.unusedSimpArgs false
set_option linter.unusedVariables false
namespace Go.Proofs.YtddmkgibghohkaaGreatDoor
open Go Go.Sx Go.Proofs
set_option maxRecDepth 100000
set_option maxHeartbeats 4000000
set_option linter.unusedSimpArgs false

def keysN (l : List Prin) : Nat → List Value
 | 0 => []
 | i + 1 => match findI (.string (txt (l.getD i PrinT.dflt))) (keysN l i) with
  | some _ => keysN l i
  | none => keysN l i ++ [.string (txt (l.getD i PrinT.dflt))]
theorem keysN_none {l : List Prin} {i : Nat} (h : findI (.string (txt (l.getD i PrinT.dflt))) (keysN l i) = none) : keysN l (i + 1) = keysN l i ++ [.string (txt (l.getD i PrinT.dflt))] := by rw [keysN, h]
theorem keysN_some {l : List Prin} {i j : Nat} (h : findI (.string (txt (l.getD i PrinT.dflt))) (keysN l i) = some j) : keysN l (i + 1) = keysN l i := by rw [keysN, h]
def Ints (vs : List Value) : Prop := ∀ v ∈ vs, ∃ c, v = .int .i64 c

theorem distinct_w (l : List Prin) (hp : (Ty.slice PrinT).ok l) (hv : ∀ p ∈ l, vPrin p = true) : PC Tryz.prog 168 [.isl PrinT l] (rB (decide (((keysN l l.length).length : Int) = l.length))) := by
 refine pc_of rfl rfl ?_
 have hl : l.length ≤ 1125899906842624 := hp.1
 refine runE mixed fi168 ?_
 refine si_loopX (ι := Nat × List Value × List SObj) (fun x => [(11, rI x.1)]) (fun x => .map none (keysN l x.1) x.2.1 :: x.2.2) (fun x => l.length - x.1) (fun x => x.1 ≤ l.length ∧ x.2.1.length = (keysN l x.1).length ∧ Ints x.2.1) (0, [], []) ⟨Nat.zero_le _, rfl, by simp [Ints]⟩ rfl ?_ ?_
 · with_reducible refine sxE ?_; trivial
 rintro ⟨i, vs, G⟩ ⟨hi, hvl, hint⟩
 dsimp only at hi hvl hint
 refine goaE mixed ?_
 refine ⟨fun hlt => ⟨⟨by omega, hlt⟩, ?_⟩, fun hge => ?_⟩
 · have hm := getD_mem (d := PrinT.dflt) hlt
   refine callI_pure (text_c _ (hp.2 _ hm) (hv _ hm)) ?_
   cases hf : findI (.string (txt (l.getD i PrinT.dflt))) (keysN l i) with
   | none =>
    refine run_sound mixed 600 _ ?_
    simp (maxSteps := 3000000) only [hf, List.append_assoc, getA, getA0, setA, setA0, List.length_append, Nat.add_assoc, go_sem, ↓zA, ↓reduceIte, ↓reduceDIte, reduceCtorEq, Nat.reduceAdd, Nat.reduceSub, Nat.reduceLeDiff, Nat.reduceLT, Nat.reduceEqDiff, Nat.reduceBEq, Nat.reduceMul, Int.reduceToNat, Int.reduceEq, Int.reduceLT, Int.reduceLE] <;> try simp only [zB]
    refine ⟨(i + 1, vs ++ [.int .i64 (IntKind.i64.wrap (0 + 1))], G ++ [_]), ⟨hlt, by rw [keysN_none hf, List.length_append, List.length_append, hvl]; simp, ?_⟩, by dsimp only; omega, by dsimp only; rw [keysN_none hf], ?_⟩
    · intro v hv
      rcases List.mem_append.1 hv with h | h
      · exact hint v h
      · exact ⟨_, List.mem_singleton.1 h⟩
    · with_reducible refine sxE ?_
      rw [wrap_succ (by omega)]
   | some j =>
    obtain ⟨hj, _⟩ := findI_lt hf
    obtain ⟨c, hc⟩ := hint _ (getD_mem (d := undef) (show j < vs.length by omega))
    refine run_sound mixed 600 _ ?_
    simp (maxSteps := 3000000) only [hf, hc, List.append_assoc, getA, getA0, setA, setA0, List.length_append, Nat.add_assoc, go_sem, ↓zA, ↓reduceIte, ↓reduceDIte, reduceCtorEq, Nat.reduceAdd, Nat.reduceSub, Nat.reduceLeDiff, Nat.reduceLT, Nat.reduceEqDiff, Nat.reduceBEq, Nat.reduceMul, Int.reduceToNat, Int.reduceEq, Int.reduceLT, Int.reduceLE] <;> try simp only [zB]
    refine ⟨(i + 1, vs.set j (.int .i64 (IntKind.i64.wrap (c + 1))), G ++ [_]), ⟨hlt, by rw [keysN_some hf, List.length_set, hvl], ?_⟩, by dsimp only; omega, by dsimp only; rw [keysN_some hf], ?_⟩
    · intro v hv
      rcases List.mem_or_eq_of_mem_set hv with h | h
      · exact hint v h
      · exact ⟨_, h⟩
    · with_reducible refine sxE ?_
      rw [wrap_succ (by omega)]
 · obtain rfl : i = l.length := by omega
   rfl

theorem findI_none {s : ByteArray} : ∀ {ks : List ByteArray}, findI (.string s) (ks.map .string) = none ↔ s ∉ ks
 | [] => by simp [findI]
 | k :: ks => by
  have ih := findI_none (s := s) (ks := ks)
  simp only [List.map_cons, findI, keyEq, decide_eq_true_eq, List.mem_cons, not_or]
  split
  · rename_i h; simp [h]
  · rename_i h; simp [ih, h]
theorem keysN_spec (l : List Prin) : ∀ i, i ≤ l.length → ∃ ks : List ByteArray, keysN l i = ks.map .string ∧ (∀ s, s ∈ ks ↔ s ∈ (l.take i).map txt) ∧ ks.length ≤ i ∧ (ks.length = i ↔ ((l.take i).map txt).Nodup)
 | 0, _ => ⟨[], by simp [keysN]⟩
 | i + 1, hi => by
  obtain ⟨ks, h1, h2, h3, h4⟩ := keysN_spec l i (by omega)
  have hta : (l.take (i + 1)).map txt = (l.take i).map txt ++ [txt (l.getD i PrinT.dflt)] := by rw [take_succ_getD (d := PrinT.dflt) (show i < l.length by omega)]; simp
  cases hf : findI (.string (txt (l.getD i PrinT.dflt))) (keysN l i) with
  | none =>
   refine ⟨ks ++ [txt (l.getD i PrinT.dflt)], by rw [keysN_none hf, h1, List.map_append]; rfl, fun s => by rw [hta]; simp only [List.mem_append, h2], by simp; omega, ?_⟩
   rw [h1, findI_none, h2] at hf
   rw [hta, List.nodup_append]
   simp only [List.length_append, List.length_singleton, Nat.add_right_cancel_iff, h4]
   constructor
   · intro h
     refine ⟨h, by simp, fun a ha b hb => ?_⟩
     rw [List.mem_singleton.1 hb]
     exact fun e => hf (e ▸ ha)
   · exact fun h => h.1
  | some j =>
   refine ⟨ks, by rw [keysN_some hf, h1], fun s => ?_, by omega, ?_⟩
   · have hin : txt (l.getD i PrinT.dflt) ∈ (l.take i).map txt := by
      refine Classical.byContradiction fun hn => ?_
      rw [← h2, ← findI_none, ← h1, hf] at hn
      cases hn
     rw [hta, h2]
     simp only [List.mem_append, List.mem_singleton]
     exact ⟨.inl, fun h => h.elim id (fun e => e ▸ hin)⟩
   · have hin : txt (l.getD i PrinT.dflt) ∈ (l.take i).map txt := by
      refine Classical.byContradiction fun hn => ?_
      rw [← h2, ← findI_none, ← h1, hf] at hn
      cases hn
     rw [hta, List.nodup_append]
     constructor
     · intro h; omega
     · intro h; exact absurd rfl (h.2.2 _ hin _ (List.mem_singleton.2 rfl))
theorem keysN_nodup (l : List Prin) : decide (((keysN l l.length).length : Int) = l.length) = decide ((l.map txt).Nodup) := by
 obtain ⟨ks, h1, _, _, h4⟩ := keysN_spec l l.length (Nat.le_refl _)
 rw [List.take_length] at h4
 rw [h1, List.length_map, decide_eq_decide, ← h4]
 omega

def escL (bs : List UInt8) : List UInt8 := bs.flatMap escC
theorem escN_take (s : ByteArray) : ∀ j, j ≤ s.size → escN s j = escL (s.data.toList.take j)
 | 0, _ => by simp [escN, escL]
 | j + 1, h => by
  have hj : j < s.data.toList.length := by simp; omega
  rw [escN, escN_take s j (by omega), take_succ_getD (d := 0) hj]
  simp [escL]
theorem escN_all (s : ByteArray) : escN s s.size = escL s.data.toList := by
 rw [escN_take s s.size (Nat.le_refl _), List.take_of_length_le (by simp)]
def joinT : List ByteArray → List UInt8
 | [] => []
 | [a] => escL a.data.toList
 | a :: b :: l => escL a.data.toList ++ 47 :: joinT (b :: l)
theorem joinT_snoc : ∀ (l : List ByteArray) (a : ByteArray), l ≠ [] → joinT (l ++ [a]) = joinT l ++ 47 :: escL a.data.toList
 | [], _, h => absurd rfl h
 | [x], a, _ => by simp [joinT]
 | x :: y :: l, a, _ => by
  have := joinT_snoc (y :: l) a (by simp)
  simp only [List.cons_append] at this ⊢
  simp [joinT, this]
theorem txtN_join (l : List ByteArray) : ∀ i, i ≤ l.length → txtN l i = joinT (l.take i)
 | 0, _ => by simp [txtN, joinT]
 | i + 1, hi => by
  rw [txtN, txtN_join l i (by omega), escN_all, take_succ_getD (d := ByteArray.empty) (show i < l.length by omega)]
  by_cases h0 : i = 0
  · subst h0; simp [joinT]
  · rw [joinT_snoc _ _ (fun e => h0 (by have := congrArg List.length e; rw [List.length_take, List.length_nil] at this; omega)), if_pos (by omega)]
    simp
def dec : Bool → List UInt8 → List UInt8 → List (List UInt8)
 | _, cur, [] => [cur]
 | true, cur, c :: r => dec false (cur ++ [c]) r
 | false, cur, c :: r => if c = 92 then dec true cur r else if c = 47 then cur :: dec false [] r else dec false (cur ++ [c]) r
theorem dec_esc (cur : List UInt8) (c : UInt8) (r : List UInt8) : dec false cur (escC c ++ r) = dec false (cur ++ [c]) r := by
 unfold escC
 split
 · rfl
 · rename_i h
   have h1 : c ≠ 92 := fun e => h (by subst e; rfl)
   have h2 : c ≠ 47 := fun e => h (by subst e; rfl)
   simp [dec, h1, h2]
theorem dec_escL : ∀ (bs cur r : List UInt8), dec false cur (escL bs ++ r) = dec false (cur ++ bs) r
 | [], cur, r => by simp [escL]
 | b :: bs, cur, r => by
  have := dec_escL bs (cur ++ [b]) r
  simp only [escL, List.flatMap_cons, List.append_assoc] at this ⊢
  rw [dec_esc, this]
  simp
theorem dec_join : ∀ (a : ByteArray) (l : List ByteArray), dec false [] (joinT (a :: l)) = (a :: l).map (·.data.toList)
 | a, [] => by
  have := dec_escL a.data.toList [] []
  simp only [List.append_nil, List.nil_append] at this
  simp [joinT, this, dec]
 | a, b :: l => by
  rw [joinT, dec_escL, List.nil_append]
  simp [dec, dec_join b l]
theorem joinT_inj {l l' : List ByteArray} (h : l ≠ []) (h' : l' ≠ []) (he : joinT l = joinT l') : l = l' := by
 cases l with
 | nil => exact absurd rfl h
 | cons a l =>
  cases l' with
  | nil => exact absurd rfl h'
  | cons b m =>
   have h1 := dec_join a l
   rw [he, dec_join b m] at h1
   have inj : ∀ {x y : ByteArray}, x.data.toList = y.data.toList → x = y := fun {x y} e => by cases x; cases y; simp at e; rw [e]
   exact (List.map_inj_right (fun _ _ => inj) |>.1 h1).symm
theorem cut_last {c : UInt8} : ∀ {a a' b b' : List UInt8}, c ∉ b → c ∉ b' → a ++ c :: b = a' ++ c :: b' → a = a' ∧ b = b'
 | [], [], b, b', _, _, h => ⟨rfl, by simpa using h⟩
 | [], x :: a', b, b', hb, _, h => by
  simp at h
  exact absurd (by rw [h.2]; simp) hb
 | x :: a, [], b, b', _, hb', h => by
  simp at h
  exact absurd (by rw [← h.2]; simp) hb'
 | x :: a, y :: a', b, b', hb, hb', h => by
  simp at h
  obtain ⟨h1, h2⟩ := cut_last hb hb' h.2
  exact ⟨by rw [h.1, h1], h2⟩
theorem txt_inj {p q : Prin} (hp : p.1 ≠ []) (hq : q.1 ≠ []) (h1 : (64 : UInt8) ∉ p.2.data.toList) (h2 : (64 : UInt8) ∉ q.2.data.toList) (h : txt p = txt q) : p = q := by
 have hb := congrArg (fun b : ByteArray => b.data.toList) h
 simp only [txt, strOf, ByteArray.data_append, Array.toList_append, List.append_assoc] at hb
 obtain ⟨e1, e2⟩ := cut_last (c := 64) (a := txtN p.1 p.1.length) (a' := txtN q.1 q.1.length) h1 h2 (by simpa using hb)
 rw [txtN_join _ _ (Nat.le_refl _), txtN_join _ _ (Nat.le_refl _), List.take_length, List.take_length] at e1
 have e3 := joinT_inj hp hq e1
 obtain ⟨l, r⟩ := p
 obtain ⟨l', r'⟩ := q
 simp only at e2 e3
 subst e3
 have : r = r' := by cases r; cases r'; simp at e2; rw [e2]
 rw [this]
end Go.Proofs.YtddmkgibghohkaaGreatDoor
/- Realms, plainly; contracts of the reference's names. -/
namespace Go.Proofs.YtddmkgibghohkaaGreatDoor
open Go Go.Sx Go.Proofs
set_option maxRecDepth 100000
set_option maxHeartbeats 4000000
set_option linter.unusedSimpArgs false

def rlmR : Bool → List UInt8 → Bool
 | prev, [] => !prev
 | prev, c :: cs => if c == 46 then !prev && rlmR true cs else realmChar c && rlmR false cs
def labL (l : List UInt8) : Bool := decide (0 < l.length) && l.all realmChar
theorem split_R : ∀ (cs cur : List UInt8), (splitGo cur cs).all labL = (cur.all realmChar && rlmR cur.isEmpty cs)
 | [], cur => by cases cur <;> simp [splitGo, labL, rlmR, Bool.and_comm]
 | c :: cs, cur => by
  rw [splitGo, rlmR]
  split
  · have := split_R cs []
    simp only [List.all_cons, this, List.all_nil, List.isEmpty_nil, Bool.true_and]
    cases cur <;> simp [labL, Bool.and_comm, Bool.and_left_comm]
  · have := split_R cs (c :: cur)
    rw [this, List.all_cons, List.isEmpty_cons]
    cases realmChar c <;> simp
def rlmAt (prev : Bool) (l : List UInt8) (j : Nat) : Bool :=
 if l.getD j 0 = 46 then decide (j + 1 < l.length) && (if j = 0 then !prev else decide (l.getD (j - 1) 0 ≠ 46)) else realmChar (l.getD j 0)
theorem rlmR_at : ∀ (l : List UInt8) (prev : Bool), l ≠ [] → rlmR prev l = allN l.length (rlmAt prev l)
 | [], _, h => absurd rfl h
 | [c], prev, _ => by
  simp only [rlmR, allN, List.length_singleton, List.range_one, List.all_cons, List.all_nil, Bool.and_true, rlmAt]
  by_cases h : c = 46 <;> simp [h]
 | c :: d :: l, prev, _ => by
  have ih := rlmR_at (d :: l) (c == 46) (by simp)
  have hs : ∀ j, rlmAt prev (c :: d :: l) (j + 1) = rlmAt (c == 46) (d :: l) j := fun j => by
   unfold rlmAt
   simp only [List.getD_cons_succ, List.length_cons, Nat.add_sub_cancel]
   cases j with
   | zero =>
    by_cases h : c = 46
    · simp [h]
    · have : (c == 46) = false := by simpa using h
      simp [h, this]
   | succ j => simp
  have ha : allN (c :: d :: l).length (rlmAt prev (c :: d :: l)) = (rlmAt prev (c :: d :: l) 0 && allN (d :: l).length (rlmAt (c == 46) (d :: l))) := by
   rw [Bool.eq_iff_iff, Bool.and_eq_true, allN_iff, allN_iff]
   constructor
   · intro h
     exact ⟨h 0 (by simp), fun j hj => by rw [← hs]; exact h (j + 1) (by simp at hj ⊢; omega)⟩
   · rintro ⟨h0, h⟩ j hj
     cases j with
     | zero => exact h0
     | succ j => rw [hs]; exact h j (by simp at hj ⊢; omega)
  rw [ha, ← ih, rlmR]
  by_cases h : c = 46
  · subst h; simp [rlmAt]
  · have : (c == 46) = false := by simpa using h
    simp [rlmAt, h, this]
theorem realmB_at (s : ByteArray) : realmB s = (szB s && allN s.size (rlmAt true s.data.toList)) := by
 have h1 : sizedB s = szB s := by
  unfold sizedB szB
  rw [Bool.eq_iff_iff]; simp; omega
 have h2 : (splitB s).all labelB = (splitDot s.data.toList).all labL := by
  unfold splitB
  rw [List.all_map]
  congr 1
 rw [realmB, h1, h2, splitDot, split_R, List.all_nil, List.isEmpty_nil, Bool.true_and]
 by_cases h : s.data.toList = []
 · have : s.size = 0 := by
    have := congrArg List.length h
    simpa using this
   simp [szB, this]
 · rw [rlmR_at _ _ h]; first | rfl | simp
theorem u8_eq {c : UInt8} {n : Nat} (hn : n < 256) : c = UInt8.ofNat n ↔ (c.toNat : Int) = n := by
 have h : (UInt8.ofNat n).toNat = n := by rw [UInt8.toNat_ofNat']; omega
 rw [← UInt8.toNat_inj, h]; omega
theorem realmChar_iff (c : UInt8) : realmChar c = true ↔ (c.toNat : Int) = 45 ∨ (65 ≤ (c.toNat : Int) ∧ (c.toNat : Int) ≤ 90) ∨ (48 ≤ (c.toNat : Int) ∧ (c.toNat : Int) ≤ 57) := by
 have h := u8_eq (c := c) (n := 45) (by decide)
 simp only [realmChar, Bool.or_eq_true, Bool.and_eq_true, decide_eq_true_eq, beq_iff_eq]
 have h' : c = 45 ↔ (c.toNat : Int) = 45 := h
 rw [h']
 omega
theorem rlm_iff {s : ByteArray} {i : Nat} (hlt : i < s.size) : rlmAt true s.data.toList i = true ↔
 (if ((s.data.toList.getD i 0).toNat : Int) = 46 then (i : Int) ≠ 0 ∧ (i : Int) ≠ ((s.size - 1 : Nat) : Int) ∧ ((s.data.toList.getD (i - 1) 0).toNat : Int) ≠ 46 else ((s.data.toList.getD i 0).toNat : Int) = 45 ∨ (65 ≤ ((s.data.toList.getD i 0).toNat : Int) ∧ ((s.data.toList.getD i 0).toNat : Int) ≤ 90) ∨ (48 ≤ ((s.data.toList.getD i 0).toNat : Int) ∧ ((s.data.toList.getD i 0).toNat : Int) ≤ 57)) := by
 have hl : s.data.toList.length = s.size := by simp
 have h46 : ∀ c : UInt8, c = 46 ↔ (c.toNat : Int) = 46 := fun c => u8_eq (c := c) (n := 46) (by decide)
 unfold rlmAt
 rw [← realmChar_iff, hl]
 by_cases hc : s.data.toList.getD i 0 = 46
 · rw [if_pos hc, if_pos ((h46 _).1 hc), Bool.and_eq_true, decide_eq_true_eq]
   by_cases h0 : i = 0
   · simp [h0]
   · rw [if_neg h0, decide_eq_true_eq, ne_eq, h46]
     omega
 · rw [if_neg hc, if_neg (fun h => hc ((h46 _).2 h))]
theorem realm_noat {s : ByteArray} (h : realmB s = true) : (64 : UInt8) ∉ s.data.toList := by
 rw [realmB_at, Bool.and_eq_true, allN_iff] at h
 intro hm
 obtain ⟨j, hj, he⟩ := List.getElem_of_mem hm
 have hj' : j < s.size := by simpa using hj
 have := (rlm_iff hj').1 (h.2 j hj')
 rw [List.getD_eq_getElem?_getD, List.getElem?_eq_getElem hj, he] at this
 simp at this
theorem vPrin_parts {p : Prin} (h : vPrin p = true) : p.1 ≠ [] ∧ (64 : UInt8) ∉ p.2.data.toList := by
 simp only [vPrin, Bool.and_eq_true, decide_eq_true_eq] at h
 exact ⟨fun e => by rw [e] at h; simp at h, realm_noat h.1.2.2⟩
theorem txt_nodup {l : List Prin} (hv : ∀ p ∈ l, vPrin p = true) : (l.map txt).Nodup ↔ l.Nodup := by
 induction l with
 | nil => simp
 | cons p l ih =>
  have hvl := fun q hq => hv q (List.mem_cons_of_mem _ hq)
  rw [List.map_cons, List.nodup_cons, List.nodup_cons, ih hvl]
  refine and_congr_left fun _ => not_congr ⟨fun h => ?_, fun h => List.mem_map_of_mem h⟩
  obtain ⟨q, hq, he⟩ := List.mem_map.1 h
  have h1 := vPrin_parts (hv p (by simp))
  have h2 := vPrin_parts (hvl q hq)
  rw [← txt_inj h2.1 h1.1 h2.2 h1.2 he]
  exact hq
def disB (l : List Prin) : Bool := decide l.Nodup
theorem distinct_c (l : List Prin) (hp : (Ty.slice PrinT).ok l) (hv : ∀ p ∈ l, vPrin p = true) : PC Tryz.prog 168 [.isl PrinT l] (rB (disB l)) := by
 have h := distinct_w l hp hv
 rwa [keysN_nodup, show decide ((l.map txt).Nodup) = disB l from decide_eq_decide.2 (txt_nodup hv)] at h
end Go.Proofs.YtddmkgibghohkaaGreatDoor
/- Contracts: what is valid. -/
namespace Go.Proofs.YtddmkgibghohkaaGreatDoor
open Go Go.Sx Go.Proofs
set_option maxRecDepth 100000
set_option maxHeartbeats 4000000
set_option linter.unusedSimpArgs false

theorem vtext_k (s : ByteArray) (hs : s.size ≤ 140737488355328) : PC Tryz.prog 92 [rS s] (rB (visB s && decide ((s.size : Int) ≤ 32))) := by
 refine pc_of rfl rfl ?_
 refine runE mixed fi92 ?_
 refine si_cnt 6 s.size (fun j => visC (s.data.toList.getD j 0) = true) ?_ fun i hi hall => ?_
 · with_reducible refine sxE ?_; trivial
 refine goE mixed ?_
 refine ⟨fun hlt => ⟨⟨by omega, hlt⟩, fun h33 => ⟨⟨by omega, hlt⟩, fun h126 => ?_, fun h126 => cnt_next hlt hall ?_ ?_⟩, fun h33 => ?_⟩, fun hge => ?_⟩
 · rw [show visB s = false from allN_false hlt (visC_hi h126)]; rfl
 · exact visC_of h33 h126
 · with_reducible refine sxE ?_
   rw [wrap_succ (by omega)]
 · rw [show visB s = false from allN_false hlt (visC_lo h33)]; rfl
 · rw [show visB s = true from allN_true fun j hj => hall j (by omega)]; rfl
def inB (m v : Int) : Bool := decide (0 ≤ v) && decide (v ≤ m)
theorem within1_c (v m : Int) (h : Nat) (T : TypeId) (H : List SObj) (hH : H[h]? = some (.cells T [rI m])) : PCH Tryz.prog 88 [rI v, .ptr h 0] (rB (inB m v)) H := by
 refine pch_drop rfl ?_
 refine runE mixed fi88 ?_
 with_reducible refine sx1 hH ?_
 refine callI_pure (btw_c v 0 m) ?_
 refine goE mixed ?_
 exact ⟨rfl, [], by simp⟩
theorem within_c (m : Int) (l : List Int) (hl : l.length ≤ 1125899906842624) : PC Tryz.prog 86 [rI m, .isl I64 l] (rB (l.all (inB m))) := by
 refine pc_of rfl rfl ?_
 refine runE mixed fi86 ?_
 refine callI_at (every_int l _ _ _ (inB m) _ hl (fun x _ G => within1_c x m 0 3 _ rfl)) ?_
 refine goE mixed ?_
 simp
theorem principals_c (l : List Prin) (hp : (Ty.slice PrinT).ok l) : PC Tryz.prog 93 [.isl PrinT l] (rB ((decide ((l.length : Int) ≤ 16) && l.all vPrin) && disB l)) := by
 refine pc_of rfl rfl ?_
 refine runE mixed fi93 ?_
 refine callI_at (every_prin l _ _ _ vPrin _ hp.1 (fun x hx G => (nvalid_c x (hp.2 x hx)).at _)) ?_
 refine goE mixed ?_
 refine ⟨fun h => ?_, fun h => ?_⟩
 · refine callI_pure (distinct_c l hp (fun p hpl => List.all_eq_true.1 (Bool.and_eq_true_iff.1 h).2 p hpl)) ?_
   refine goE mixed ?_
   simp [h]
 · simp [h]

def lenB (d : List UInt8) : Bool := decide ((d.length : Int) = 16)
theorem hist_k (d : List UInt8) : PC Tryz.prog 95 [.isl .u8 d] (rB (lenB d)) := by
 refine pc_of rfl rfl ?_
 refine runE mixed fi95 ?_
 rfl
def kOrd (a b : Key) : Bool := decide (a.1 < b.1)
theorem vset2_k (a b : Key) : PC Tryz.prog 117 [.agg (KeyT.cells a), .agg (KeyT.cells b)] (rB (kOrd a b)) := by
 refine pc_of rfl rfl ?_
 refine runE mixed fi117 ?_
 rfl
def sOrd (a b : KSet) : Bool := decide (b.1 < a.1) && decide (b.2.2.2.2 ≤ a.2.2.2.2)
theorem vkeys2_k (a b : KSet) : PC Tryz.prog 172 [.agg (SetT.cells a), .agg (SetT.cells b)] (rB (sOrd a b)) := by
 refine pc_of rfl rfl ?_
 refine runE mixed fi172 ?_
 grind [sOrd]
def vKeyS (v m : Int) (k : Key) : Bool := decide (k.2.1 = v) && (decide (keyLen k.1 ≠ 0) && (if m = 0 then vKey k else decide (1 ≤ (k.2.2.length : Int)) && decide ((k.2.2.length : Int) ≤ 256)))
theorem kindOf_cases (p : Int) : kindOf p = kind1 ∨ kindOf p = kind2 ∨ kindOf p = kindZ := by
 unfold kindOf
 split
 · exact .inl rfl
 · split
   · exact .inr (.inl rfl)
   · exact .inr (.inr rfl)
theorem pvalid_k (k : Key) : PC Tryz.prog 114 [.agg (KeyT.cells k)] (rB (vKey k)) := by
 refine pc_of rfl rfl ?_
 refine runE mixed fi114 ?_
 refine callI_pure (find_c k) ?_
 rcases kindOf_cases k.1 with h | h | h
 · rw [h]
   refine run_sound mixed 600 _ ?_
   simp (maxSteps := 3000000) only [kind1, go_sem, ↓zA, ↓reduceIte, ↓reduceDIte, reduceCtorEq, Nat.reduceAdd, Nat.reduceSub, Nat.reduceLeDiff, Nat.reduceLT, Nat.reduceEqDiff, Nat.reduceBEq, Nat.reduceMul, Int.reduceToNat, Int.reduceEq, Int.reduceLT, Int.reduceLE] <;> try simp only [zB]
 · rw [h]
   refine run_sound mixed 600 _ ?_
   simp (maxSteps := 3000000) only [kind2, go_sem, ↓zA, ↓reduceIte, ↓reduceDIte, reduceCtorEq, Nat.reduceAdd, Nat.reduceSub, Nat.reduceLeDiff, Nat.reduceLT, Nat.reduceEqDiff, Nat.reduceBEq, Nat.reduceMul, Int.reduceToNat, Int.reduceEq, Int.reduceLT, Int.reduceLE] <;> try simp only [zB]
 · rw [h]
   refine run_sound mixed 600 _ ?_
   simp (maxSteps := 3000000) only [kindZ, go_sem, ↓zA, ↓reduceIte, ↓reduceDIte, reduceCtorEq, Nat.reduceAdd, Nat.reduceSub, Nat.reduceLeDiff, Nat.reduceLT, Nat.reduceEqDiff, Nat.reduceBEq, Nat.reduceMul, Int.reduceToNat, Int.reduceEq, Int.reduceLT, Int.reduceLE] <;> try simp only [zB]
theorem vset1_k (k : Key) (s : KSet) (m : Int) (H : List SObj) (hs : ∀ R, (H ++ R)[0]? = some (.cells 34 (SetT.cells s))) (hm : ∀ R, (H ++ R)[1]? = some (.cells 3 [rI m])) : PCH Tryz.prog 112 [.agg (KeyT.cells k), .ptr 0 0, .ptr 1 0] (rB (vKeyS s.1 m k)) H := by
 refine pch_drop rfl ?_
 have hs0 := hs []
 have hm0 := hm []
 rw [List.append_nil] at hs0 hm0
 refine vc_fi fi112 (run_sound mixed 600 _ ?_)
 simp (maxSteps := 3000000) only [ir112, hs, hm, hs0, hm0, go_sem, ↓zA, ↓reduceIte, ↓reduceDIte, reduceCtorEq, Nat.reduceAdd, Nat.reduceSub, Nat.reduceLeDiff, Nat.reduceLT, Nat.reduceEqDiff, Nat.reduceBEq, Nat.reduceMul, Int.reduceToNat, Int.reduceEq, Int.reduceLT, Int.reduceLE] <;> try simp only [zB]
 refine ⟨fun hv => callI_pure (keyLen_c _) ?_, fun hv => ⟨?_, _, rfl⟩⟩
 · refine run_sound mixed 600 _ ?_
   simp (maxSteps := 3000000) only [hs, hm, go_sem, ↓zA, ↓reduceIte, ↓reduceDIte, reduceCtorEq, Nat.reduceAdd, Nat.reduceSub, Nat.reduceLeDiff, Nat.reduceLT, Nat.reduceEqDiff, Nat.reduceBEq, Nat.reduceMul, Int.reduceToNat, Int.reduceEq, Int.reduceLT, Int.reduceLE] <;> try simp only [zB]
   refine ⟨fun h0 => ⟨?_, _, rfl⟩, fun h0 => ⟨fun hz => callI_pure (pvalid_k k) ?_, fun hz => callI_pure (btw_c _ _ _) ?_⟩⟩
   · rw [vKeyS, h0]; simp
   · refine goE mixed ?_
     refine ⟨?_, _, rfl⟩
     simp [vKeyS, hv, h0, hz]
   · refine goE mixed ?_
     refine ⟨?_, _, rfl⟩
     simp [vKeyS, hv, h0, hz]
 · simp [vKeyS, hv]
def vSet (s : KSet) (m : Int) : Bool :=
 (decide (1 ≤ s.1) && decide (s.1 ≤ 65535)) && (decide (1 ≤ (s.2.1.length : Int)) && ((decide ((s.2.1.length : Int) ≤ 4) && s.2.1.all (vKeyS s.1 m)) && (ord (t := KeyT) kOrd s.2.1 && (decide ((s.2.2.1.size : Int) ≤ 256) &&
  ((decide (0 ≤ s.2.2.2.1) && decide (s.2.2.2.1 ≤ 65536)) && ((decide (0 < s.2.2.2.1) || decide (s.2.2.1 = ⟨#[]⟩)) && (decide (0 ≤ s.2.2.2.2) && decide (s.2.2.2.2 ≤ 1099511627776))))))))
theorem vset_k (s : KSet) (m : Int) (hs : SetT.ok s) : PC Tryz.prog 46 [.agg (SetT.cells s), rI m] (rB (vSet s m)) := by
 refine pc_of rfl rfl ?_
 refine runE mixed fi46 ?_
 refine callI_pure (btw_c _ _ _) ?_
 refine goE mixed ?_
 refine ⟨fun h1 => ⟨fun h2 => ?_, fun h2 => ?_⟩, fun h1 => ?_⟩
 · refine callI_at (every_key _ _ _ _ (vKeyS s.1 m) _ hs.2.1.1 (fun x _ G => vset1_k x s m _ (fun R => rfl) (fun R => rfl))) ?_
   refine goE mixed ?_
   refine ⟨fun h3 => ?_, fun h3 => ?_⟩
   · refine callI_at (ordered_key _ _ _ kOrd _ hs.2.1.1 (fun x _ y _ G => (vset2_k x y).at _)) ?_
     refine goE mixed ?_
     refine ⟨fun h4 => ⟨fun h5 => ?_, fun h5 => ?_⟩, fun h4 => ?_⟩
     · refine callI_pure (btw_c _ _ _) ?_
       refine goE mixed ?_
       refine ⟨fun h6 => ⟨fun h7 => ⟨fun h8 => ?_, fun h8 => ?_⟩, fun h7 => ?_⟩, fun h6 => ?_⟩
       · refine callI_pure (btw_c _ _ _) ?_
         refine goE mixed ?_
         rw [h8] at h5
         simp [vSet, h1, h2, h3, h4, h5, h6, h7, h8]
       · simp [vSet, h7, h8]
       · refine callI_pure (btw_c _ _ _) ?_
         refine goE mixed ?_
         simp [vSet, h1, h2, h3, h4, h5, h6, h7]
       · simp [vSet, h6]
     · simp [vSet, h5]
     · simp [vSet, h4]
   · simp [vSet, h3]
 · simp [vSet, h2]
 · simp [vSet, h1]
end Go.Proofs.YtddmkgibghohkaaGreatDoor
/- Contracts: entries that are valid. -/
namespace Go.Proofs.YtddmkgibghohkaaGreatDoor
open Go Go.Sx Go.Proofs
set_option maxRecDepth 100000
set_option maxHeartbeats 4000000
set_option linter.unusedSimpArgs false

theorem vkeys1_k (s : KSet) (e : Ent) (H : List SObj) (hs : SetT.ok s) (he : ∀ R, (H ++ R)[0]? = some (.cells 31 (EntT.cells e))) : PCH Tryz.prog 170 [.agg (SetT.cells s), .ptr 0 0] (rB (vSet s e.2.2.2.1)) H := by
 refine pch_drop rfl ?_
 have he0 := he []
 rw [List.append_nil] at he0
 refine vc_fi fi170 (run_sound mixed 600 _ ?_)
 simp (maxSteps := 3000000) only [ir170, he, he0, go_sem, ↓zA, ↓reduceIte, ↓reduceDIte, reduceCtorEq, Nat.reduceAdd, Nat.reduceSub, Nat.reduceLeDiff, Nat.reduceLT, Nat.reduceEqDiff, Nat.reduceBEq, Nat.reduceMul, Int.reduceToNat, Int.reduceEq, Int.reduceLT, Int.reduceLE] <;> try simp only [zB]
 refine callI_pure (vset_k s _ hs) ?_
 refine goE mixed ?_
 exact ⟨rfl, _, rfl⟩

def vAlias (r : ByteArray) (a : Prin) : Bool := vPrin a && decide (a.2 = r)
theorem vnames1_k (a : Prin) (e : Ent) (H : List SObj) (ha : PrinT.ok a) (he : ∀ R, (H ++ R)[0]? = some (.cells 31 (EntT.cells e))) : PCH Tryz.prog 165 [.agg (PrinT.cells a), .ptr 0 0] (rB (vAlias e.1.2 a)) H := by
 refine pch_drop rfl ?_
 have he0 := he []
 rw [List.append_nil] at he0
 refine vc_fi fi165 (run_sound mixed 600 _ ?_)
 simp (maxSteps := 3000000) only [ir165, he, he0, go_sem, ↓zA, ↓reduceIte, ↓reduceDIte, reduceCtorEq, Nat.reduceAdd, Nat.reduceSub, Nat.reduceLeDiff, Nat.reduceLT, Nat.reduceEqDiff, Nat.reduceBEq, Nat.reduceMul, Int.reduceToNat, Int.reduceEq, Int.reduceLT, Int.reduceLE] <;> try simp only [zB]
 refine callI_pure (nvalid_c a ha) ?_
 refine run_sound mixed 600 _ ?_
 with_reducible refine sx1 he ?_
 refine ⟨fun h => ⟨?_, _, rfl⟩, fun h => ⟨?_, _, rfl⟩⟩
 · simp [vAlias, h]
 · simp [vAlias, h]
def vNames (e : Ent) : Bool := vPrin e.1 && ((decide ((e.2.1.length : Int) ≤ 16) && e.2.1.all (vAlias e.1.2)) && disB (e.1 :: e.2.1))
theorem vnames_k (e : Ent) (he : EntT.ok e) : PC Tryz.prog 90 [.agg (EntT.cells e)] (rB (vNames e)) := by
 refine pc_of rfl rfl ?_
 refine runE mixed fi90 ?_
 refine callI_pure (nvalid_c e.1 he.1) ?_
 refine goE mixed ?_
 refine ⟨fun h1 => ?_, fun h1 => ?_⟩
 rotate_left
 · first | (simp only [vNames, h1, Bool.false_and, Bool.and_false]; done) | simp [vNames, h1]
 refine callI_at ((every_prin _ _ _ _ (vAlias e.1.2) _ he.2.1.1 (fun x hx G => vnames1_k x e _ (he.2.1.2 x hx) (fun R => rfl)))) ?_
 refine goE mixed ?_
 refine ⟨fun h2 => ?_, fun h2 => ?_⟩
 rotate_left
 · first | (simp only [vNames, h2, Bool.false_and, Bool.and_false]; done) | simp [vNames, h2]
 have hl : (e.2.1.length : Int) ≤ 16 := by simp only [Bool.and_eq_true, decide_eq_true_eq] at h2; exact h2.1
 have ha : ∀ a ∈ e.2.1, vPrin a = true := fun a hm => by
  simp only [Bool.and_eq_true, List.all_eq_true] at h2
  have := h2.2 a hm
  simp only [vAlias, Bool.and_eq_true] at this
  exact this.1
 refine ⟨he.1.2, ⟨by omega, by omega⟩, callI_hand 2 ?_⟩
 with_reducible refine sxE ?_
 refine ⟨by omega, by omega, ?_⟩
 rw [List.take_of_length_le (by simp; omega)]
 refine callI_pure (distinct_c (e.1 :: e.2.1) ⟨by simp; omega, fun a hm => ?_⟩ (fun a hm => ?_)) ?_
 · rcases List.mem_cons.1 hm with rfl | hm
   · exact he.1
   · exact he.2.1.2 a hm
 · rcases List.mem_cons.1 hm with rfl | hm
   · exact h1
   · exact ha a hm
 refine goE mixed ?_
 simp [vNames, h1, h2]
def vKeys (e : Ent) : Bool := (decide ((e.2.2.2.2.1.length : Int) ≤ 16) && e.2.2.2.2.1.all (vSet · e.2.2.2.1)) && ord (t := SetT) sOrd e.2.2.2.2.1
theorem vkeys_k (e : Ent) (he : EntT.ok e) : PC Tryz.prog 91 [.agg (EntT.cells e)] (rB (vKeys e)) := by
 refine pc_of rfl rfl ?_
 refine runE mixed fi91 ?_
 refine callI_at ((every_kset _ _ _ _ (vSet · e.2.2.2.1) _ he.2.2.2.2.1.1 (fun x hx G => vkeys1_k x e _ (he.2.2.2.2.1.2 x hx) (fun R => rfl)))) ?_
 refine goE mixed ?_
 refine ⟨fun h3 => ?_, fun h3 => ?_⟩
 rotate_left
 · first | (simp only [vKeys, h3, Bool.false_and, Bool.and_false]; done) | simp [vKeys, h3]
 refine callI_at (ordered_kset _ _ _ sOrd _ he.2.2.2.2.1.1 (fun x _ y _ G => (vkeys2_k x y).at _)) ?_
 refine goE mixed ?_
 simp_all [vKeys]

def vText (s : ByteArray) : Bool := visB s && decide ((s.size : Int) ≤ 32)
def vPrins (l : List Prin) : Bool := (decide ((l.length : Int) ≤ 16) && l.all vPrin) && disB l
def attrB (a : Int) : Bool := decide (IntKind.u32.wrap (BitVec.ofInt 32 a &&& ~~~(BitVec.ofInt 32 1023)).toNat = 0)
def vEnt (e : Ent) : Bool :=
 vNames e && (attrB e.2.2.1 && ([e.2.2.2.1].all (inB 65535) && (vKeys e && (vText e.2.2.2.2.2.1 && ([e.2.2.2.2.2.2.1, e.2.2.2.2.2.2.2.1, e.2.2.2.2.2.2.2.2.2.2.2.1, e.2.2.2.2.2.2.2.2.2.2.2.2.1].all (inB 1099511627776) &&
  ([e.2.2.2.2.2.2.2.2.1, e.2.2.2.2.2.2.2.2.2.1].all (inB 2147483648) && ([e.2.2.2.2.2.2.2.2.2.2.1].all (inB 65535) && (vPrins e.2.2.2.2.2.2.2.2.2.2.2.2.2.1 && (vPrins e.2.2.2.2.2.2.2.2.2.2.2.2.2.2.1 &&
   (decide ((e.2.2.2.2.2.2.2.2.2.2.2.2.2.2.2.length : Int) ≤ 16) && e.2.2.2.2.2.2.2.2.2.2.2.2.2.2.2.all lenB))))))))))
theorem valid_k (e : Ent) (he : EntT.ok e) : PC Tryz.prog 38 [.agg (EntT.cells e)] (rB (vEnt e)) := by
 refine pc_of rfl rfl ?_
 refine runE mixed fi38 ?_
 refine callI_pure (vnames_k e he) ?_
 refine goE mixed ?_
 refine ⟨fun h4 => ?_, fun h4 => ?_⟩
 rotate_left
 · first | (simp only [vEnt, h4, Bool.false_and, Bool.and_false]; done) | simp [vEnt, h4]
 refine ⟨fun h2 => ?_, fun h2 => ?_⟩
 rotate_left
 · have hf : attrB e.2.2.1 = false := decide_eq_false h2
   simp only [vEnt, hf, Bool.false_and, Bool.and_false]
 have ht : attrB e.2.2.1 = true := decide_eq_true h2
 refine callI_hand 1 ?_
 with_reducible refine sxE ?_
 refine callI_pure (within_c _ _ (by simp)) ?_
 refine goE mixed ?_
 refine ⟨fun h5 => ?_, fun h5 => ?_⟩
 rotate_left
 · first | (simp only [vEnt, h5, Bool.false_and, Bool.and_false]; done) | simp [vEnt, h5]
 refine callI_pure (vkeys_k e he) ?_
 refine goE mixed ?_
 refine ⟨fun h6 => ?_, fun h6 => ?_⟩
 rotate_left
 · first | (simp only [vEnt, h6, Bool.false_and, Bool.and_false]; done) | simp [vEnt, h6]
 refine callI_pure (vtext_k _ he.2.2.2.2.2.1) ?_
 refine goE mixed ?_
 refine ⟨fun h7 => ?_, fun h7 => ?_⟩
 rotate_left
 · first | (simp only [vEnt, vText, h7, Bool.false_and, Bool.and_false]; done) | simp [vEnt, vText, h7]
 refine callI_hand 2 ?_
 with_reducible refine sxE ?_
 refine callI_pure (within_c _ _ (by simp)) ?_
 refine goE mixed ?_
 refine ⟨fun h8 => ?_, fun h8 => ?_⟩
 rotate_left
 · first | (simp only [vEnt, h8, Bool.false_and, Bool.and_false]; done) | simp [vEnt, h8]
 refine callI_hand 3 ?_
 with_reducible refine sxE ?_
 refine callI_pure (within_c _ _ (by simp)) ?_
 refine goE mixed ?_
 refine ⟨fun h9 => ?_, fun h9 => ?_⟩
 rotate_left
 · first | (simp only [vEnt, h9, Bool.false_and, Bool.and_false]; done) | simp [vEnt, h9]
 refine callI_hand 4 ?_
 with_reducible refine sxE ?_
 refine callI_pure (within_c _ _ (by simp)) ?_
 refine goE mixed ?_
 refine ⟨fun h10 => ?_, fun h10 => ?_⟩
 rotate_left
 · first | (simp only [vEnt, h10, Bool.false_and, Bool.and_false]; done) | simp [vEnt, h10]
 refine callI_pure (principals_c _ he.2.2.2.2.2.2.2.2.2.2.2.2.2.1) ?_
 refine goE mixed ?_
 refine ⟨fun h11 => ?_, fun h11 => ?_⟩
 rotate_left
 · first | (simp only [vEnt, vPrins, h11, Bool.false_and, Bool.and_false]; done) | simp [vEnt, vPrins, h11]
 refine callI_pure (principals_c _ he.2.2.2.2.2.2.2.2.2.2.2.2.2.2.1) ?_
 refine goE mixed ?_
 refine ⟨fun h12 => ?_, fun h12 => ?_⟩
 rotate_left
 · first | (simp only [vEnt, vPrins, h12, Bool.false_and, Bool.and_false]; done) | simp [vEnt, vPrins, h12]
 refine callI_at (every_bytes _ _ _ _ lenB _ he.2.2.2.2.2.2.2.2.2.2.2.2.2.2.2.1 (fun x _ G => (hist_k x).at _)) ?_
 refine goE mixed ?_
 simp only [vEnt, vText, vPrins, ht, h4, h5, h6, h7, h8, h9, h10, h11, h12, Bool.true_and]
end Go.Proofs.YtddmkgibghohkaaGreatDoor
/- Contracts: copies. -/
namespace Go.Proofs.YtddmkgibghohkaaGreatDoor
open Go Go.Sx Go.Proofs
set_option maxRecDepth 100000
set_option maxHeartbeats 4000000
set_option linter.unusedSimpArgs false

theorem clone_c (l : List ByteArray) (hl : l.length ≤ 8796093022208) : PC Tryz.prog 124 [.isl .str l] (.isl .str l) := by
 refine pc_seal rfl rfl ?_
 refine runE mixed fi124 ?_
 intro b hb
 refine ⟨hb, fun h => ⟨⟨by omega, by omega⟩, ⟨by omega, by omega⟩, List.take_of_length_le (by omega)⟩⟩
theorem bclone_c (l : List UInt8) (hl : l.length ≤ 140737488355328) : PC Tryz.prog 194 [.isl .u8 l] (.isl .u8 l) := by
 refine pc_seal rfl rfl ?_
 refine runE mixed fi194 ?_
 intro b hb
 refine ⟨hb, fun h => ⟨⟨by omega, by omega⟩, ⟨by omega, by omega⟩, List.take_of_length_le (by omega)⟩⟩
theorem cbytes_c (l : List UInt8) (hl : l.length ≤ 140737488355328) : PC Tryz.prog 52 [.isl .u8 l] (.isl .u8 l) := by
 refine pc_seal rfl rfl ?_
 refine runE mixed fi52 ?_
 refine ⟨⟨by omega, by omega⟩, ⟨by omega, by omega⟩, List.take_of_length_le (by omega)⟩
theorem ncopy_c (p : Prin) (hl : p.1.length ≤ 8796093022208) : PC Tryz.prog 58 [.agg (PrinT.cells p)] (.agg (PrinT.cells p)) := by
 refine pc_seal rfl rfl ?_
 refine runE mixed fi58 ?_
 refine callI_pure (clone_c _ hl) ?_
 refine goE mixed ?_; trivial
theorem pcopy_c (k : Key) (hl : k.2.2.length ≤ 140737488355328) : PC Tryz.prog 119 [.agg (KeyT.cells k)] (.agg (KeyT.cells k)) := by
 refine pc_seal rfl rfl ?_
 refine runE mixed fi119 ?_
 refine callI_pure (bclone_c _ hl) ?_
 refine goE mixed ?_; trivial
theorem copies_key (l : List (KeyT).den) (g : Nat) (hl : l.length * 40 ≤ 140737488355328) (hok : ∀ x ∈ l, (KeyT).ok x) (hone : ∀ x ∈ l, PC Tryz.prog g [.agg ((KeyT).cells x)] (.agg ((KeyT).cells x))) :
 PC Tryz.prog 118 [.isl (KeyT) l, .fn g [] []] (.isl (KeyT) l) := by
 refine pc_seal rfl rfl ?_
 refine runE mixed fi118 ?_
 refine si_accN 5 (KeyT) (fun i => l.take i) (fun i => [(10, rI i)]) l.length (fun _ => True) rfl (by simp) (by simp) rfl (fun i => rfl) ?_ fun i hi _ => ?_
 · with_reducible refine sxE ?_; trivial
 refine goE mixed ?_
 have hwr : IntKind.i64.wrap ((i : Int) + 1) = ((i + 1 : Nat) : Int) := wrap_succ (by omega)
 refine ⟨fun hlt => ⟨⟨by omega, hlt⟩, callI_pure (hone _ (getD_mem hlt)) ?_⟩, fun hge => ?_⟩
 · refine goE mixed ?_
   have hst : l.take (i + 1) = l.take i ++ [l.getD i (KeyT).dflt] := take_succ_getD hlt
   have hlen : (l.take i).length = i := by simp; omega
   refine ⟨ ⟨by omega, by omega⟩, acc_next [_, _, _] [] hlt trivial (by rw [hst]; rfl) ?_⟩
   with_reducible refine sx3 hwr hst ?_; trivial
 · obtain rfl : i = l.length := by omega
   simp; omega
theorem copies_prin (l : List (PrinT).den) (g : Nat) (hl : l.length * 40 ≤ 140737488355328) (hok : ∀ x ∈ l, (PrinT).ok x) (hone : ∀ x ∈ l, PC Tryz.prog g [.agg ((PrinT).cells x)] (.agg ((PrinT).cells x))) :
 PC Tryz.prog 59 [.isl (PrinT) l, .fn g [] []] (.isl (PrinT) l) := by
 refine pc_seal rfl rfl ?_
 refine runE mixed fi59 ?_
 refine si_accN 5 (PrinT) (fun i => l.take i) (fun i => [(10, rI i)]) l.length (fun _ => True) rfl (by simp) (by simp) rfl (fun i => rfl) ?_ fun i hi _ => ?_
 · with_reducible refine sxE ?_; trivial
 refine goE mixed ?_
 have hwr : IntKind.i64.wrap ((i : Int) + 1) = ((i + 1 : Nat) : Int) := wrap_succ (by omega)
 refine ⟨fun hlt => ⟨⟨by omega, hlt⟩, callI_pure (hone _ (getD_mem hlt)) ?_⟩, fun hge => ?_⟩
 · refine goE mixed ?_
   have hst : l.take (i + 1) = l.take i ++ [l.getD i (PrinT).dflt] := take_succ_getD hlt
   have hlen : (l.take i).length = i := by simp; omega
   refine ⟨(hok _ (getD_mem hlt)).2, ⟨by omega, by omega⟩, acc_next [_, _, _] [] hlt trivial (by rw [hst]; rfl) ?_⟩
   with_reducible refine sx3 hwr hst ?_; trivial
 · obtain rfl : i = l.length := by omega
   simp; omega
theorem copies_kset (l : List (SetT).den) (g : Nat) (hl : l.length * 64 ≤ 140737488355328) (hok : ∀ x ∈ l, (SetT).ok x) (hone : ∀ x ∈ l, PC Tryz.prog g [.agg ((SetT).cells x)] (.agg ((SetT).cells x))) :
 PC Tryz.prog 60 [.isl (SetT) l, .fn g [] []] (.isl (SetT) l) := by
 refine pc_seal rfl rfl ?_
 refine runE mixed fi60 ?_
 refine si_accN 5 (SetT) (fun i => l.take i) (fun i => [(10, rI i)]) l.length (fun _ => True) rfl (by simp) (by simp) rfl (fun i => rfl) ?_ fun i hi _ => ?_
 · with_reducible refine sxE ?_; trivial
 refine goE mixed ?_
 have hwr : IntKind.i64.wrap ((i : Int) + 1) = ((i + 1 : Nat) : Int) := wrap_succ (by omega)
 refine ⟨fun hlt => ⟨⟨by omega, hlt⟩, callI_pure (hone _ (getD_mem hlt)) ?_⟩, fun hge => ?_⟩
 · refine goE mixed ?_
   have hst : l.take (i + 1) = l.take i ++ [l.getD i (SetT).dflt] := take_succ_getD hlt
   have hlen : (l.take i).length = i := by simp; omega
   refine ⟨(hok _ (getD_mem hlt)).2.2.1, ⟨by omega, by omega⟩, acc_next [_, _, _] [] hlt trivial (by rw [hst]; rfl) ?_⟩
   with_reducible refine sx3 hwr hst ?_; trivial
 · obtain rfl : i = l.length := by omega
   simp; omega
theorem copies_bytes (l : List (List UInt8)) (g : Nat) (hl : l.length * 24 ≤ 140737488355328) (hone : ∀ x ∈ l, PC Tryz.prog g [.isl .u8 x] (.isl .u8 x)) :
 PC Tryz.prog 61 [.isl (.slice .u8) l, .fn g [] []] (.isl (.slice .u8) l) := by
 refine pc_seal rfl rfl ?_
 refine runE mixed fi61 ?_
 refine si_accN 5 (.slice .u8) (fun i => l.take i) (fun i => [(10, rI i)]) l.length (fun _ => True) rfl (by simp) (by simp) rfl (fun i => rfl) ?_ fun i hi _ => ?_
 · with_reducible refine sxE ?_; trivial
 refine goE mixed ?_
 have hwr : IntKind.i64.wrap ((i : Int) + 1) = ((i + 1 : Nat) : Int) := wrap_succ (by omega)
 refine ⟨fun hlt => ⟨⟨by omega, hlt⟩, callI_pure (hone _ (getD_mem (d := (Ty.slice .u8).dflt) hlt)) ?_⟩, fun hge => ?_⟩
 · refine goE mixed ?_
   have hst : l.take (i + 1) = l.take i ++ [l.getD i (Ty.slice .u8).dflt] := take_succ_getD hlt
   have hlen : (l.take i).length = i := by simp; omega
   refine ⟨⟨by omega, by omega⟩, acc_next [_, _] [] hlt trivial (by rw [hst]; rfl) ?_⟩
   with_reducible refine sx3 hwr hst ?_; trivial
 · obtain rfl : i = l.length := by omega
   simp; omega
theorem copySet_c (s : KSet) (ho : SetT.ok s) (hl : s.2.1.length * 40 ≤ 140737488355328) (hk : ∀ k ∈ s.2.1, k.2.2.length ≤ 140737488355328) : PC Tryz.prog 47 [.agg (SetT.cells s)] (.agg (SetT.cells s)) := by
 refine pc_seal rfl rfl ?_
 refine runE mixed fi47 ?_
 refine callI_pure (copies_key s.2.1 _ hl ho.2.1.2 (fun x hx => pcopy_c x (hk x hx))) ?_
 refine goE mixed ?_; trivial
def small47 (e : Ent) : Prop :=
 e.1.1.length ≤ 1048576 ∧ (e.2.1.length ≤ 1048576 ∧ ∀ p ∈ e.2.1, p.1.length ≤ 1048576) ∧ (e.2.2.2.2.1.length ≤ 1048576 ∧ ∀ s ∈ e.2.2.2.2.1, s.2.1.length ≤ 1048576 ∧ ∀ k ∈ s.2.1, k.2.2.length ≤ 1048576) ∧
 (e.2.2.2.2.2.2.2.2.2.2.2.2.2.1.length ≤ 1048576 ∧ ∀ p ∈ e.2.2.2.2.2.2.2.2.2.2.2.2.2.1, p.1.length ≤ 1048576) ∧ (e.2.2.2.2.2.2.2.2.2.2.2.2.2.2.1.length ≤ 1048576 ∧ ∀ p ∈ e.2.2.2.2.2.2.2.2.2.2.2.2.2.2.1, p.1.length ≤ 1048576) ∧
 (e.2.2.2.2.2.2.2.2.2.2.2.2.2.2.2.length ≤ 1048576 ∧ ∀ b ∈ e.2.2.2.2.2.2.2.2.2.2.2.2.2.2.2, b.length ≤ 1048576)
theorem copy_c (e : Ent) (ho : EntT.ok e) (hs : small47 e) : PC Tryz.prog 27 [.agg (EntT.cells e)] (.agg (EntT.cells e)) := by
 obtain ⟨e1, e2, e3, e4, e5, e6, e7, e8, e9, e10, e11, e12, e13, e14, e15, e16⟩ := e
 obtain ⟨h1, ⟨h2, h2'⟩, ⟨h5, h5'⟩, ⟨h14, h14'⟩, ⟨h15, h15'⟩, ⟨h16, h16'⟩⟩ := hs
 dsimp only at *
 refine pc_seal rfl rfl ?_
 refine runE mixed fi27 ?_
 refine callI_pure (ncopy_c e1 (by omega)) ?_
 refine goE mixed ?_
 refine callI_pure (copies_prin e2 _ (by omega) ho.2.1.2 (fun x hx => ncopy_c x (by have := h2' x hx; omega))) ?_
 refine goE mixed ?_
 refine callI_pure (copies_kset e5 _ (by omega) ho.2.2.2.2.1.2 (fun x hx => copySet_c x (ho.2.2.2.2.1.2 x hx) (by have := (h5' x hx).1; omega) (fun k hk => by have := (h5' x hx).2 k hk; omega))) ?_
 refine goE mixed ?_
 refine callI_pure (copies_prin e14 _ (by omega) ho.2.2.2.2.2.2.2.2.2.2.2.2.2.1.2 (fun x hx => ncopy_c x (by have := h14' x hx; omega))) ?_
 refine goE mixed ?_
 refine callI_pure (copies_prin e15 _ (by omega) ho.2.2.2.2.2.2.2.2.2.2.2.2.2.2.1.2 (fun x hx => ncopy_c x (by have := h15' x hx; omega))) ?_
 refine goE mixed ?_
 refine callI_pure (copies_bytes e16 _ (by omega) (fun x hx => cbytes_c x (by have := h16' x hx; omega))) ?_
 refine goE mixed ?_; trivial
end Go.Proofs.YtddmkgibghohkaaGreatDoor
/- Contracts: the encoding of entries and offers. -/
namespace Go.Proofs.YtddmkgibghohkaaGreatDoor
open Go Go.Sx Go.Proofs
set_option maxRecDepth 100000
set_option maxHeartbeats 4000000
set_option linter.unusedSimpArgs false

def tagS (l : List (List UInt8)) : List UInt8 := elemS 48 (tagN l l.length)
def tagM (l : List (List UInt8)) (i : Nat) : List (List UInt8) := tagN l i ++ l.drop i
theorem tagM_set {l : List (List UInt8)} {i : Nat} (h : i < l.length) : (tagM l i).set i (wrapS 160 i ((tagM l i).getD i (Ty.slice .u8).dflt)) = tagM l (i + 1) ∧ (tagM l i).getD i (Ty.slice .u8).dflt = l.getD i (Ty.slice .u8).dflt := by
 have hl : (tagN l i).length = i := by simp [tagN]
 have h2 : (tagM l i).getD i (Ty.slice .u8).dflt = l.getD i (Ty.slice .u8).dflt := by
  unfold tagM
  rw [List.getD_eq_getElem?_getD, List.getElem?_append_right (by omega), hl, Nat.sub_self, List.getElem?_drop, List.getD_eq_getElem?_getD, Nat.add_zero]
 refine ⟨?_, h2⟩
 rw [h2]
 unfold tagM
 rw [List.set_append_right _ _ (by omega), hl, Nat.sub_self, List.drop_eq_getElem_cons h, List.set_cons_zero, tagN_succ, List.append_assoc]
 rfl
theorem etagged_c (l : List (List UInt8)) (hl : l.length ≤ 1048576) : PCT Tryz.prog 154 (.slice .u8) l (.isl .u8 (tagS l)) := by
 refine pct_seal rfl ?_
 refine runE mixed fi154 ?_
 refine si_loopX (ι := Nat) (fun i => [(7, rI i)]) (fun i => [.row (.slice .u8) (tagM l i)]) (fun i => l.length - i) (fun i => i ≤ l.length) 0 (Nat.zero_le _) (by simp [tagM, tagN]) ?_ ?_
 · with_reducible refine sxE ?_; trivial
 intro i hi
 have hwr : IntKind.i64.wrap ((i : Int) + 1) = ((i + 1 : Nat) : Int) := wrap_succ (by omega)
 have hln : (tagM l i).length = l.length := by simp [tagM, tagN]; omega
 refine run_sound mixed 600 _ ?_
 with_reducible refine sx1 hln ?_
 refine ⟨fun hlt => ⟨⟨by omega, hlt⟩, by omega, callI_pure (tagged_c _ _) ?_⟩, fun hge => ?_⟩
 · refine run_sound mixed 600 _ ?_
   with_reducible refine sx1 hln ?_
   obtain ⟨h1, h2⟩ := tagM_set hlt
   rw [Nat.zero_add]
   refine ⟨⟨by omega, hlt⟩, hlt, i + 1, hlt, by dsimp only; omega, ?_, ?_⟩
   · dsimp only; rw [← h1]
   · with_reducible refine sx1 hwr ?_; trivial
 · obtain rfl : i = l.length := by omega
   refine callI_hand 0 ?_
   with_reducible refine sx1 hln ?_
   refine ⟨by omega, ?_⟩
   rw [List.take_of_length_le (by omega)]
   refine ⟨Nat.le_refl _, callI_pure (sequence_c (tagM l l.length) (by omega)) ?_⟩
   refine goE mixed ?_
   unfold tagS tagM
   rw [List.drop_length, List.append_nil]
def numO (v : Int) : List UInt8 := if v = 0 then [] else intS v
theorem einteger_c (v : Int) : PC Tryz.prog 158 [rI v] (.isl .u8 (numO v)) := by
 refine pc_seal rfl rfl ?_
 refine runE mixed fi158 ?_
 refine ⟨fun h => ?_, fun h => callI_pure (integer_c v) ?_⟩
 · unfold numO; rw [if_pos h]
 · refine goE mixed ?_
   unfold numO; rw [if_neg h]
def timO (v : Int) : List UInt8 := if v = 0 then [] else timeS v
theorem einstant_c (v : Int) : PC Tryz.prog 162 [rI v] (.isl .u8 (timO v)) := by
 refine pc_seal rfl rfl ?_
 refine runE mixed fi162 ?_
 refine ⟨fun h => ?_, fun h => callI_pure (time_c v) ?_⟩
 · unfold timO; rw [if_pos h]
 · refine goE mixed ?_
   unfold timO; rw [if_neg h]
def txtO (s : ByteArray) : List UInt8 := if s = ⟨#[]⟩ then [] else elemS 27 [s.data.toList]
theorem etext_c (s : ByteArray) (hs : s.size ≤ 140737488355328) : PC Tryz.prog 161 [rS s] (.isl .u8 (txtO s)) := by
 refine pc_seal rfl rfl ?_
 refine runE mixed fi161 ?_
 refine ⟨fun h => ?_, fun h => callI_pure (dstring_c s hs) ?_⟩
 · unfold txtO; rw [if_pos h]
 · refine goE mixed ?_
   unfold txtO; rw [if_neg h]
def strsN (l : List ByteArray) (i : Nat) : List (List UInt8) := (l.take i).map fun s => elemS 27 [s.data.toList]
theorem strsN_succ {l : List ByteArray} {i : Nat} (h : i < l.length) : strsN l (i + 1) = strsN l i ++ [elemS 27 [(l.getD i Ty.str.dflt).data.toList]] := by unfold strsN; rw [take_succ_getD (d := Ty.str.dflt) h]; simp
theorem strsN_len {l : List ByteArray} {i : Nat} (h : i ≤ l.length) : (strsN l i).length = i := by simp [strsN]; omega
def prinS (p : Prin) : List UInt8 := elemS 48 [wrapS 160 0 (elemS 48 (strsN p.1 p.1.length)), wrapS 160 1 (elemS 27 [p.2.data.toList])]
theorem nencode_c (p : Prin) (hp : PrinT.ok p) : PC Tryz.prog 209 [.agg (PrinT.cells p)] (.tup [.isl .u8 (if vPrin p then prinS p else []), rI (if vPrin p then 0 else 2)]) := by
 obtain ⟨l, r⟩ := p
 have hps : prinS (l, r) = elemS 48 [wrapS 160 0 (elemS 48 (strsN l l.length)), wrapS 160 1 (elemS 27 [r.data.toList])] := rfl
 have hok : ∀ {i}, i < l.length → (l.getD i Ty.str.dflt).size ≤ 140737488355328 := fun h => hp.1.2 _ (getD_mem h)
 have hr : r.size ≤ 140737488355328 := hp.2
 have hv := nvalid_c (l, r) hp
 have hv4 : vPrin (l, r) = true → l.length ≤ 4 := fun h => by simp [vPrin] at h; omega
 clear hp
 generalize vPrin (l, r) = vb at *
 generalize prinS (l, r) = ps at *
 change List ByteArray at l
 refine pc_seal rfl rfl ?_
 refine runE mixed fi209 ?_
 refine callI_pure hv ?_
 refine goE mixed ?_
 refine ⟨fun h => ?_, fun h => ?_⟩
 · rw [h]; exact ⟨rfl, rfl⟩
 have hl4 : l.length ≤ 4 := hv4 h
 subst h
 refine si_accN 4 (.slice .u8) (strsN l) (fun i => [(13, rI i)]) l.length (fun _ => True) rfl (by simp) (by simp [strsN]) rfl (fun i => rfl) ?_ fun i hi _ => ?_
 · with_reducible refine sxE ?_; trivial
 have hwr : IntKind.i64.wrap ((i : Int) + 1) = ((i + 1 : Nat) : Int) := wrap_succ (by omega)
 have hln := strsN_len hi
 by_cases hlt : i < l.length
 · refine goE mixed ?_
   refine ⟨fun _ => ⟨⟨by omega, hlt⟩, callI_pure (dstring_c _ (hok hlt)) ?_⟩, fun h => absurd hlt h⟩
   refine goE mixed ?_
   have hst := strsN_succ hlt
   refine ⟨⟨by omega, by omega⟩, acc_next [_, _] [] hlt trivial (by rw [hst]; rfl) ?_⟩
   with_reducible refine sx3 hwr hst ?_; trivial
 · obtain rfl : i = l.length := by omega
   refine si_freeze 1 rfl rfl (by omega) ?_ ?_ ?_
   · with_reducible refine sxE ?_; trivial
   · with_reducible refine sxE ?_
     exact Nat.le_refl _
   with_reducible refine sxE ?_
   rw [List.take_of_length_le (Nat.le_refl _)]
   refine goE mixed ?_
   refine ⟨fun h => absurd h hlt, fun _ => callR_pure (sequence_c _ (by omega)) ?_⟩
   refine goE mixed ?_
   refine callR_pure (tagged_c _ _) ?_
   refine goE mixed ?_
   refine callR_pure (dstring_c r hr) ?_
   refine goE mixed ?_
   refine callR_pure (tagged_c _ _) ?_
   refine goE mixed ?_
   refine callR_hand 2 (by decide) ?_
   with_reducible refine sxE ?_
   refine callR_pure (sequence_c _ (by simp)) ?_
   refine goE mixed ?_
   exact hps.symm
end Go.Proofs.YtddmkgibghohkaaGreatDoor
