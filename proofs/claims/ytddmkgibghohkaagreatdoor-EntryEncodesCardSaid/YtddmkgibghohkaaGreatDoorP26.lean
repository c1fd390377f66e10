/- The plain law of reading: keys. -/
import Derived.Test.YtddmkgibghohkaaGreatDoorP25
import Derived.Test.YtddmkgibghohkaaGreatDoorP22
import Derived.Test.YtddmkgibghohkaaGreatDoorP19
set_option linter.unusedSimpArgs false
set_option linter.unusedVariables false
namespace Go.Proofs.YtddmkgibghohkaaGreatDoor
open Go Go.Sx Go.Proofs
set_option maxRecDepth 100000
set_option maxHeartbeats 4000000
set_option linter.unusedSimpArgs false

theorem wrapS_tlv {n : Nat} {b : List UInt8} (hn : n ≤ 30) (h : b.length ≤ 16777215) (h0 : b ≠ []) : wrapS 160 n b = tlv (tagB n) b := by rw [wrapS_ok hn h, if_neg h0]
theorem tlv_ne {t : UInt8} {c : List UInt8} : tlv t c ≠ [] := by simp [tlv]
theorem keyS_tlv (a v : Int) (c : List UInt8) (ha : 0 ≤ a ∧ a ≤ 1048576) (hv : 0 ≤ v ∧ v ≤ 1048576) (hc : c.length ≤ 65536) : keyS (a, v, c) = tlv 48 (sufS [intS a, intS v, elemS 4 [c]] 0 3) ∧ (sufS [intS a, intS v, elemS 4 [c]] 0 3).length ≤ 16777215 := by
 have i1 := intS_len a
 have i2 := intS_len v
 obtain ⟨c1, e1, _⟩ := intS_i (v := a) (by omega)
 obtain ⟨c2, e2, _⟩ := intS_i (v := v) (by omega)
 have e3 : elemS 4 [c] = tlv 4 c := elemS_ok (by omega)
 have w3 := elemS_len 4 [c]
 simp only [List.flatten_cons, List.flatten_nil, List.append_nil] at w3
 have w0 := wrapS_len 160 0 (intS a)
 have w1 := wrapS_len 160 1 (intS v)
 have w2 := wrapS_len 160 2 (elemS 4 [c])
 have n0 : wrapS 160 0 (intS a) ≠ [] := by rw [show (0 : Int) = ((0 : Nat) : Int) from rfl, wrapS_tlv (by omega) (by omega) (by rw [e1]; exact tlv_ne)]; exact tlv_ne
 have n1 : wrapS 160 1 (intS v) ≠ [] := by rw [show (1 : Int) = ((1 : Nat) : Int) from rfl, wrapS_tlv (by omega) (by omega) (by rw [e2]; exact tlv_ne)]; exact tlv_ne
 have n2 : wrapS 160 2 (elemS 4 [c]) ≠ [] := by rw [show (2 : Int) = ((2 : Nat) : Int) from rfl, wrapS_tlv (by omega) (by omega) (by rw [e3]; exact tlv_ne)]; exact tlv_ne
 have hf : (tagN [intS a, intS v, elemS 4 [c]] 3).flatten = sufS [intS a, intS v, elemS 4 [c]] 0 3 := sufS_all [intS a, intS v, elemS 4 [c]]
 have ht : tagN [intS a, intS v, elemS 4 [c]] 3 = [wrapS 160 0 (intS a), wrapS 160 1 (intS v), wrapS 160 2 (elemS 4 [c])] := by simp [tagN, List.range_succ]
 have hl : (sufS [intS a, intS v, elemS 4 [c]] 0 3).length ≤ 16777215 := by
  rw [← hf, ht]
  simp only [List.flatten_cons, List.flatten_nil, List.append_nil, List.length_append]
  omega
 refine ⟨?_, hl⟩
 have hfull : allN 3 (fullAt [wrapS 160 0 (intS a), wrapS 160 1 (intS v), wrapS 160 2 (elemS 4 [c])]) = true := by
  refine allN_true fun j hj => ?_
  match j, hj with
  | 0, _ => exact decide_eq_true n0
  | 1, _ => exact decide_eq_true n1
  | 2, _ => exact decide_eq_true n2
 show wholeS [wrapS 160 0 (intS a), wrapS 160 1 (intS v), wrapS 160 2 (elemS 4 [c])] = _
 unfold wholeS
 rw [show ([wrapS 160 0 (intS a), wrapS 160 1 (intS v), wrapS 160 2 (elemS 4 [c])] : List (List UInt8)).length = 3 from rfl, if_pos hfull, ← ht, elemS_flat (by rw [hf]; exact hl), hf]
theorem keyP_at (a v : Int) (c : List UInt8) (ha : 0 ≤ a ∧ a ≤ 1048576) (hv : 0 ≤ v ∧ v ≤ 1048576) (hc : c.length ≤ 65536) (r : List UInt8) : keyP (keyS (a, v, c) ++ r) = .ok ((a, v, c), (keyS (a, v, c)).length) := by
 have i1 := intS_len a
 have i2 := intS_len v
 obtain ⟨c1, e1, _⟩ := intS_i (v := a) (by omega)
 obtain ⟨c2, e2, _⟩ := intS_i (v := v) (by omega)
 have e3 : elemS 4 [c] = tlv 4 c := elemS_ok (by omega)
 have w3 := elemS_len 4 [c]
 simp only [List.flatten_cons, List.flatten_nil, List.append_nil] at w3
 have hL : ∀ j, (([intS a, intS v, elemS 4 [c]] : List (List UInt8)).getD j []).length ≤ 16777215 := fun j => by
  match j with
  | 0 => show (intS a).length ≤ _; omega
  | 1 => show (intS v).length ≤ _; omega
  | 2 => show (elemS 4 [c]).length ≤ _; omega
  | j + 3 => exact Nat.zero_le _
 obtain ⟨hS, hin⟩ := keyS_tlv a v c ha hv hc
 rw [hS]
 refine inP_tlv hin ?_ r
 have q0 : intP (([intS a, intS v, elemS 4 [c]] : List (List UInt8)).getD 0 []) = .ok (a, (([intS a, intS v, elemS 4 [c]] : List (List UInt8)).getD 0 []).length) := full (e := intS a) (intP_ok (by omega))
 have q1 : intP (([intS a, intS v, elemS 4 [c]] : List (List UInt8)).getD 1 []) = .ok (v, (([intS a, intS v, elemS 4 [c]] : List (List UInt8)).getD 1 []).length) := full (e := intS v) (intP_ok (by omega))
 have q2 : octP (([intS a, intS v, elemS 4 [c]] : List (List UInt8)).getD 2 []) = .ok (c, (([intS a, intS v, elemS 4 [c]] : List (List UInt8)).getD 2 []).length) := full (e := elemS 4 [c]) (octP_ok (by omega))
 have n0 : ([intS a, intS v, elemS 4 [c]] : List (List UInt8)).getD 0 [] ≠ [] := by show intS a ≠ []; rw [e1]; exact tlv_ne
 have n1 : ([intS a, intS v, elemS 4 [c]] : List (List UInt8)).getD 1 [] ≠ [] := by show intS v ≠ []; rw [e2]; exact tlv_ne
 have n2 : ([intS a, intS v, elemS 4 [c]] : List (List UInt8)).getD 2 [] ≠ [] := by show elemS 4 _ ≠ []; rw [e3]; exact tlv_ne
 have g := bindP_ok (f := fun a => bindP (needP 1 intP) fun k => bindP (needP 2 octP) fun c => retP ((a, k, c) : Key)) (need_suf (k := 2) hL (by omega) n0 q0)
  (bindP_ok (f := fun k => bindP (needP 2 octP) fun c => retP ((a, k, c) : Key)) (need_suf (k := 1) hL (by omega) n1 q1)
   (bindP_ok (f := fun c => retP ((a, v, c) : Key)) (need_suf (k := 0) hL (by omega) n2 q2) rfl))
 show tripIn _ = _
 unfold tripIn
 rw [g]
 congr 2
 rw [sufS_succ, sufS_succ, sufS_succ]
 simp only [sufS, List.range'_zero, List.map_nil, List.flatten_nil, List.append_nil, List.length_append, Nat.zero_add, Nat.reduceAdd]
 omega
end Go.Proofs.YtddmkgibghohkaaGreatDoor
/- The plain law of reading: key sets. -/
namespace Go.Proofs.YtddmkgibghohkaaGreatDoor
open Go Go.Sx Go.Proofs
set_option maxRecDepth 100000
set_option maxHeartbeats 4000000
set_option linter.unusedSimpArgs false

theorem keyS_len (a v : Int) (c : List UInt8) : (keyS (a, v, c)).length ≤ c.length + 58 := by
 have i1 := intS_len a
 have i2 := intS_len v
 have w3 := elemS_len 4 [c]
 simp only [List.flatten_cons, List.flatten_nil, List.append_nil] at w3
 have w0 := wrapS_len 160 0 (intS a)
 have w1 := wrapS_len 160 1 (intS v)
 have w2 := wrapS_len 160 2 (elemS 4 [c])
 show (wholeS [wrapS 160 0 (intS a), wrapS 160 1 (intS v), wrapS 160 2 (elemS 4 [c])]).length ≤ _
 have w4 := elemS_len 48 [wrapS 160 0 (intS a), wrapS 160 1 (intS v), wrapS 160 2 (elemS 4 [c])]
 simp only [List.flatten_cons, List.flatten_nil, List.append_nil, List.length_append] at w4
 unfold wholeS
 split
 · omega
 · simp
theorem flat_len {α : Type} (f : α → List UInt8) (B : Nat) : ∀ l : List α, (∀ x ∈ l, (f x).length ≤ B) → (l.map f).flatten.length ≤ B * l.length
 | [], _ => by simp
 | x :: l, h => by
  have h1 := h x (by simp)
  have h2 := flat_len f B l fun y hy => h y (by simp [hy])
  simp only [List.map_cons, List.flatten_cons, List.length_append, List.length_cons, Nat.mul_add, Nat.mul_one]
  omega
def keyOk3 (a v : Int) (c : List UInt8) : Prop := (0 ≤ a ∧ a ≤ 1048576) ∧ (0 ≤ v ∧ v ≤ 1048576) ∧ c.length ≤ 65536
def keyOk : Key → Prop
 | (a, v, c) => keyOk3 a v c
theorem keyP_ok {k : Key} (h : keyOk k) (r : List UInt8) : keyP (keyS k ++ r) = .ok (k, (keyS k).length) := by
 obtain ⟨a, v, c⟩ := k
 exact keyP_at a v c h.1 h.2.1 h.2.2 r
theorem keyS_le {k : Key} (h : keyOk k) : (keyS k).length ≤ 65600 := by
 obtain ⟨a, v, c⟩ := k
 have h1 := keyS_len a v c
 have h2 : c.length ≤ 65536 := h.2.2
 exact Nat.le_trans h1 (by omega)
theorem keyS_ne {k : Key} (h : keyOk k) : keyS k ≠ [] := by
 obtain ⟨a, v, c⟩ := k
 rw [(keyS_tlv a v c h.1 h.2.1 h.2.2).1]
 exact tlv_ne
theorem numO_q {v : Int} (h : 0 ≤ v ∧ v ≤ 4611686018427387904) : if numO v = [] then v = 0 else intP (numO v) = .ok (v, (numO v).length) := by
 by_cases h0 : v = 0
 · rw [if_pos (by unfold numO; rw [if_pos h0])]; exact h0
 · have e : numO v = intS v := by unfold numO; rw [if_neg h0]
   rw [e]
   obtain ⟨c, e1, _⟩ := intS_i h
   rw [if_neg (by rw [e1]; exact tlv_ne)]
   exact full (intP_ok h)
theorem txtO_q {s : ByteArray} (h : s.size ≤ 16777215) : if txtO s = [] then s = ⟨#[]⟩ else strP (txtO s) = .ok (s, (txtO s).length) := by
 by_cases h0 : s = ⟨#[]⟩
 · rw [if_pos (by unfold txtO; rw [if_pos h0])]; exact h0
 · have e : txtO s = elemS 27 [s.data.toList] := by unfold txtO; rw [if_neg h0]
   rw [e]
   have hl : s.data.toList.length = s.size := by simp
   rw [if_neg (by rw [elemS_ok (by omega)]; exact tlv_ne)]
   exact full (strP_ok h)
theorem timO_q {n : Nat} (h : n ≤ 1099511627776) : if timO (n : Int) = [] then n = 0 else timeP (timO (n : Int)) = .ok (n, (timO (n : Int)).length) := by
 by_cases h0 : n = 0
 · rw [if_pos (by unfold timO; rw [if_pos (by omega)])]; exact h0
 · have e : timO (n : Int) = timeS n := by unfold timO; rw [if_neg (by omega)]
   rw [e, if_neg (by rw [timeS_tlv (by omega)]; exact tlv_ne)]
   exact full (timeP_ok h)
theorem listS_q {t : Ty} {p : PR t.den} {w : t.den → List UInt8} {l : List t.den} {n : Nat} (hl : l.length ≤ n) (hx : ∀ x ∈ l, w x ≠ [] ∧ ∀ r, p (w x ++ r) = .ok (x, (w x).length)) (hb : (l.map w).flatten.length ≤ 16777215) :
 if listS w l = [] then l = [] else inP 48 (listP p n) (listS w l) = .ok (l, (listS w l).length) := by
 by_cases h0 : l.length = 0
 · rw [if_pos (by unfold listS; rw [if_pos h0])]; exact List.length_eq_zero_iff.1 h0
 · have e : listS w l = tlv 48 (l.map w).flatten := by unfold listS mapN; rw [if_neg h0, List.take_length, elemS_flat hb]
   rw [e, if_neg tlv_ne]
   exact full (inP_tlv hb (listP_ok l n hl hx))
theorem listS_le {t : Ty} {w : t.den → List UInt8} {l : List t.den} (B : Nat) (hx : ∀ x ∈ l, (w x).length ≤ B) : (listS w l).length ≤ B * l.length + 5 := by
 unfold listS
 split
 · simp
 · have h1 := elemS_len 48 (mapN w l l.length)
   have h2 := flat_len w B l hx
   unfold mapN at h1
   rw [List.take_length] at h1
   unfold mapN
   rw [List.take_length]
   omega
theorem tagS_tlv {l : List (List UInt8)} (h : (sufS l 0 l.length).length ≤ 16777215) : tagS l = tlv 48 (sufS l 0 l.length) := by
 unfold tagS
 rw [elemS_flat (by rw [sufS_all]; exact h), sufS_all]
theorem sufS_le {l : List (List UInt8)} : ∀ (k n : Nat), (sufS l n k).length ≤ ((List.range' n k).map fun j => (l.getD j []).length + 5).sum
 | 0, n => by simp [sufS]
 | k + 1, n => by
  rw [sufS_succ, List.range'_succ]
  have := wrapS_len 160 (n : Nat) (l.getD n [])
  have := sufS_le (l := l) k (n + 1)
  simp only [List.length_append, List.map_cons, List.sum_cons]
  omega
def setIn : PR KSet := bindP (dfltP (0 : Int) 0 intP) fun v => bindP (dfltP [] 1 (inP 48 (listP keyP 4))) fun ks => bindP (dfltP ⟨#[]⟩ 2 strP) fun t => bindP (dfltP (0 : Int) 3 intP) fun m => bindP (needP 4 timeP) fun w => retP ((v, ks, t, m, ((w : Nat) : Int)) : KSet)
def setP : PR KSet := inP 48 setIn
theorem setIn_at (p0 p1 p2 p3 p4 : List UInt8) (v : Int) (ks : List Key) (t : ByteArray) (m : Int) (w : Nat) (l0 : p0.length ≤ 16777215) (l1 : p1.length ≤ 16777215) (l2 : p2.length ≤ 16777215) (l3 : p3.length ≤ 16777215) (l4 : p4.length ≤ 16777215)
 (q0 : if p0 = [] then v = 0 else intP p0 = .ok (v, p0.length)) (q1 : if p1 = [] then ks = [] else inP 48 (listP keyP 4) p1 = .ok (ks, p1.length)) (q2 : if p2 = [] then t = ⟨#[]⟩ else strP p2 = .ok (t, p2.length))
 (q3 : if p3 = [] then m = 0 else intP p3 = .ok (m, p3.length)) (n4 : p4 ≠ []) (q4 : timeP p4 = .ok (w, p4.length)) : setIn (sufS [p0, p1, p2, p3, p4] 0 5) = .ok ((v, ks, t, m, (w : Int)), (sufS [p0, p1, p2, p3, p4] 0 5).length) := by
 have hL : ∀ j, (([p0, p1, p2, p3, p4] : List (List UInt8)).getD j []).length ≤ 16777215 := fun j => by
  match j with
  | 0 => exact l0
  | 1 => exact l1
  | 2 => exact l2
  | 3 => exact l3
  | 4 => exact l4
  | j + 5 => exact Nat.zero_le _
 have g := bindP_ok (f := fun v => bindP (dfltP [] 1 (inP 48 (listP keyP 4))) fun ks => bindP (dfltP ⟨#[]⟩ 2 strP) fun t => bindP (dfltP (0 : Int) 3 intP) fun m => bindP (needP 4 timeP) fun w => retP ((v, ks, t, m, ((w : Nat) : Int)) : KSet)) (dflt_suf (l := [p0, p1, p2, p3, p4]) (n := 0) (k := 4) hL (by omega) q0)
  (bindP_ok (f := fun ks => bindP (dfltP ⟨#[]⟩ 2 strP) fun t => bindP (dfltP (0 : Int) 3 intP) fun m => bindP (needP 4 timeP) fun w => retP ((v, ks, t, m, ((w : Nat) : Int)) : KSet)) (dflt_suf (l := [p0, p1, p2, p3, p4]) (n := 1) (k := 3) hL (by omega) q1)
   (bindP_ok (f := fun t => bindP (dfltP (0 : Int) 3 intP) fun m => bindP (needP 4 timeP) fun w => retP ((v, ks, t, m, ((w : Nat) : Int)) : KSet)) (dflt_suf (p := strP) (d := (⟨#[]⟩ : ByteArray)) (v := t) (l := [p0, p1, p2, p3, p4]) (n := 2) (k := 2) hL (by omega) q2)
    (bindP_ok (f := fun m => bindP (needP 4 timeP) fun w => retP ((v, ks, t, m, ((w : Nat) : Int)) : KSet)) (dflt_suf (l := [p0, p1, p2, p3, p4]) (n := 3) (k := 1) hL (by omega) q3)
     (bindP_ok (f := fun w => retP ((v, ks, t, m, ((w : Nat) : Int)) : KSet)) (need_suf (l := [p0, p1, p2, p3, p4]) (n := 4) (k := 0) hL (by omega) n4 q4) rfl))))
 unfold setIn
 rw [g]
 congr 2
 rw [sufS_succ, sufS_succ, sufS_succ, sufS_succ, sufS_succ]
 simp only [sufS, List.range'_zero, List.map_nil, List.flatten_nil, List.append_nil, List.length_append, Nat.zero_add, Nat.reduceAdd]
 omega
theorem setP_at (v : Int) (ks : List Key) (t : ByteArray) (m : Int) (w : Nat) (hv : 0 ≤ v ∧ v ≤ 1048576) (hk : ks.length ≤ 4) (hks : ∀ k ∈ ks, keyOk k) (ht : t.size ≤ 65536) (hm : 0 ≤ m ∧ m ≤ 1048576) (hw : w ≤ 1099511627776) :
 (∀ r : List UInt8, setP (setS (v, ks, t, m, (w : Int)) ++ r) = .ok ((v, ks, t, m, (w : Int)), (setS (v, ks, t, m, (w : Int))).length)) ∧ (setS (v, ks, t, m, (w : Int))).length ≤ 400000 ∧ setS (v, ks, t, m, (w : Int)) ≠ [] := by
 have i0 := intS_len v
 obtain ⟨c0, e0, _⟩ := intS_i (v := v) (by omega)
 have i1 : (listS (t := KeyT) keyS ks).length ≤ 262500 := by
  have := listS_le (t := KeyT) (w := keyS) (l := ks) 65600 fun x hx => keyS_le (hks x hx)
  have h4 : 65600 * ks.length ≤ 65600 * 4 := Nat.mul_le_mul_left _ hk
  exact Nat.le_trans this (by omega)
 have hl : t.data.toList.length = t.size := by simp
 have i2 : (txtO t).length ≤ 65541 := by
  unfold txtO
  split
  · simp
  · have := elemS_len 27 [t.data.toList]
    simp only [List.flatten_cons, List.flatten_nil, List.append_nil] at this
    omega
 have i3 : (numO m).length ≤ 14 := by
  unfold numO
  split
  · simp
  · exact intS_len m
 have e4 := timeS_tlv (t := (w : Int)) (by omega)
 have i4 : (timeS (w : Int)).length ≤ 11 := by
  have : (timeS (w : Int)).length ≤ 6 + 5 := by
   unfold timeS
   rw [if_pos (by omega)]
   have := elemS_len 24 [numS (w : Int) 6]
   simpa [numS_length] using this
  exact this
 have q0 : if intS v = [] then v = 0 else intP (intS v) = .ok (v, (intS v).length) := by
  rw [if_neg (by rw [e0]; exact tlv_ne)]
  exact full (intP_ok (by omega))
 have hb : (ks.map keyS).flatten.length ≤ 16777215 := by
  have := flat_len keyS 65600 ks fun x hx => keyS_le (hks x hx)
  have h4 : 65600 * ks.length ≤ 65600 * 4 := Nat.mul_le_mul_left _ hk
  omega
 have q1 := listS_q (t := KeyT) (p := keyP) (w := keyS) (l := ks) (n := 4) hk (fun x hx => ⟨keyS_ne (hks x hx), keyP_ok (hks x hx)⟩) hb
 have g := setIn_at (intS v) (listS (t := KeyT) keyS ks) (txtO t) (numO m) (timeS (w : Int)) v ks t m w (by omega) (by omega) (by omega) (by omega) (by omega) q0 q1 (txtO_q (by omega)) (numO_q (by omega)) (by rw [e4]; exact tlv_ne) (full (timeP_ok hw))
 have hs := sufS_le (l := [intS v, listS (t := KeyT) keyS ks, txtO t, numO m, timeS (w : Int)]) 5 0
 have hs' : (sufS [intS v, listS (t := KeyT) keyS ks, txtO t, numO m, timeS (w : Int)] 0 5).length ≤ 399000 := by
  refine Nat.le_trans hs ?_
  show (intS v).length + 5 + ((listS (t := KeyT) keyS ks).length + 5 + ((txtO t).length + 5 + ((numO m).length + 5 + ((timeS (w : Int)).length + 5 + 0)))) ≤ _
  omega
 have hS : setS (v, ks, t, m, (w : Int)) = tlv 48 (sufS [intS v, listS (t := KeyT) keyS ks, txtO t, numO m, timeS (w : Int)] 0 5) := tagS_tlv (l := [intS v, listS (t := KeyT) keyS ks, txtO t, numO m, timeS (w : Int)]) (by show (sufS _ 0 5).length ≤ _; omega)
 rw [hS]
 refine ⟨fun r => inP_tlv (by omega) g r, ?_, tlv_ne⟩
 rw [tlv_length]
 have := lenS_len (sufS [intS v, listS (t := KeyT) keyS ks, txtO t, numO m, timeS (w : Int)] 0 5).length
 omega
end Go.Proofs.YtddmkgibghohkaaGreatDoor
/- The plain law of reading: names. -/
namespace Go.Proofs.YtddmkgibghohkaaGreatDoor
open Go Go.Sx Go.Proofs
set_option maxRecDepth 100000
set_option maxHeartbeats 4000000
set_option linter.unusedSimpArgs false

def atP {α : Type} (p : PR α) (l : List UInt8) : PR α := fun _ => match p l with
 | .ok (x, _) => .ok (x, 0)
 | .error e => .error e
def strsP (l : List UInt8) : PR (List ByteArray) := atP (listP strP l.length) l
def nameIn : PR Prin := bindP (needP 0 (rdP 48 decOct)) fun l => bindP (strsP l) fun xs => bindP (needP 1 strP) fun t => retP ((xs, t) : Prin)
def chkP {α : Type} (q : α → Bool) : Except Nat (α × Nat) → Except Nat (α × Nat)
 | .ok (v, k) => if q v = true then .ok (v, k) else .error 6
 | .error e => .error e
def nameP : PR Prin := fun r => chkP vPrin (inP 48 nameIn r)
theorem flat_ge {α : Type} (f : α → List UInt8) : ∀ l : List α, (∀ x ∈ l, f x ≠ []) → l.length ≤ (l.map f).flatten.length
 | [], _ => by simp
 | x :: l, h => by
  have h1 := List.length_pos_iff.2 (h x (by simp))
  have h2 := flat_ge f l fun y hy => h y (by simp [hy])
  simp only [List.map_cons, List.flatten_cons, List.length_append, List.length_cons]
  omega
def strE (s : ByteArray) : List UInt8 := elemS 27 [s.data.toList]
theorem strE_len (s : ByteArray) : (strE s).length ≤ s.size + 5 := by
 have := elemS_len 27 [s.data.toList]
 have hl : s.data.toList.length = s.size := by simp
 simp only [List.flatten_cons, List.flatten_nil, List.append_nil] at this
 unfold strE; omega
theorem strE_ne {s : ByteArray} (h : s.size ≤ 16777215) : strE s ≠ [] := by
 have hl : s.data.toList.length = s.size := by simp
 unfold strE
 rw [elemS_ok (by omega)]; exact tlv_ne
theorem nameIn_at (xs : List ByteArray) (t : ByteArray) (hn : xs.length ≤ 16) (hx : ∀ x ∈ xs, x.size ≤ 65536) (ht : t.size ≤ 65536) :
 (sufS [elemS 48 (strsN xs xs.length), strE t] 0 2).length ≤ 1200000 ∧ nameIn (sufS [elemS 48 (strsN xs xs.length), strE t] 0 2) = .ok ((xs, t), (sufS [elemS 48 (strsN xs xs.length), strE t] 0 2).length) := by
 have e0 : strsN xs xs.length = xs.map strE := by unfold strsN strE; rw [List.take_length]
 have hb : (xs.map strE).flatten.length ≤ 1048700 := by
  have := flat_len strE 65541 xs fun x hx' => by
   have := strE_len x
   have := hx x hx'
   omega
  have h4 : 65541 * xs.length ≤ 65541 * 16 := Nat.mul_le_mul_left _ hn
  omega
 have e1 : elemS 48 (strsN xs xs.length) = tlv 48 (xs.map strE).flatten := by rw [e0, elemS_flat (by omega)]
 have hF := flat_ge strE xs fun x hx' => strE_ne (by have := hx x hx'; omega)
 have l1 := strE_len t
 have l0 : (elemS 48 (strsN xs xs.length)).length ≤ 1048705 := by
  have := elemS_len 48 (strsN xs xs.length)
  rw [e0] at this ⊢
  omega
 have hs := sufS_le (l := [elemS 48 (strsN xs xs.length), strE t]) 2 0
 have hs' : (sufS [elemS 48 (strsN xs xs.length), strE t] 0 2).length ≤ 1200000 := by
  refine Nat.le_trans hs ?_
  show (elemS 48 (strsN xs xs.length)).length + 5 + ((strE t).length + 5 + 0) ≤ _
  omega
 refine ⟨hs', ?_⟩
 have hL : ∀ j, (([elemS 48 (strsN xs xs.length), strE t] : List (List UInt8)).getD j []).length ≤ 16777215 := fun j => by
  match j with
  | 0 => show (elemS 48 (strsN xs xs.length)).length ≤ _; omega
  | 1 => show (strE t).length ≤ _; omega
  | j + 2 => exact Nat.zero_le _
 have q0 : rdP 48 decOct (elemS 48 (strsN xs xs.length)) = .ok ((xs.map strE).flatten, (elemS 48 (strsN xs xs.length)).length) := by
  rw [e1]
  exact full (rdP_tlv (by omega) rfl)
 have n0 : elemS 48 (strsN xs xs.length) ≠ [] := by rw [e1]; exact tlv_ne
 have q1 : listP strP (xs.map strE).flatten.length (xs.map strE).flatten = .ok (xs, (xs.map strE).flatten.length) := listP_ok xs _ hF fun x hx' => ⟨strE_ne (by have := hx x hx'; omega), strP_ok (by have := hx x hx'; omega)⟩
 have q1' : ∀ r, strsP (xs.map strE).flatten r = .ok (xs, 0) := fun r => by unfold strsP atP; rw [q1]
 have q2 : strP (strE t) = .ok (t, (strE t).length) := full (strP_ok (by omega))
 have n2 : strE t ≠ [] := strE_ne (by omega)
 have g := bindP_ok (f := fun l => bindP (strsP l) fun xs => bindP (needP 1 strP) fun t => retP ((xs, t) : Prin)) (need_suf (l := [elemS 48 (strsN xs xs.length), strE t]) (n := 0) (k := 1) hL (by omega) n0 q0)
  (bindP_ok (p := strsP (xs.map strE).flatten) (f := fun xs => bindP (needP 1 strP) fun t => retP ((xs, t) : Prin)) (r' := sufS [elemS 48 (strsN xs xs.length), strE t] 1 1) ⟨q1' _, List.drop_zero⟩
   (bindP_ok (f := fun t => retP ((xs, t) : Prin)) (need_suf (l := [elemS 48 (strsN xs xs.length), strE t]) (n := 1) (k := 0) hL (by omega) n2 q2) rfl))
 unfold nameIn
 rw [g]
 congr 2
 rw [sufS_succ, sufS_succ]
 simp only [sufS, List.range'_zero, List.map_nil, List.flatten_nil, List.append_nil, List.length_append, Nat.zero_add, Nat.reduceAdd]
 omega
theorem nameP_at (xs : List ByteArray) (t : ByteArray) (hn : xs.length ≤ 16) (hx : ∀ x ∈ xs, x.size ≤ 65536) (ht : t.size ≤ 65536) (hv : vPrin (xs, t) = true) :
 (∀ r : List UInt8, nameP (prinS (xs, t) ++ r) = .ok ((xs, t), (prinS (xs, t)).length)) ∧ (prinS (xs, t)).length ≤ 1200010 ∧ prinS (xs, t) ≠ [] := by
 obtain ⟨h1, h2⟩ := nameIn_at xs t hn hx ht
 have hS : prinS (xs, t) = tlv 48 (sufS [elemS 48 (strsN xs xs.length), strE t] 0 2) := by
  show elemS 48 [wrapS 160 0 (elemS 48 (strsN xs xs.length)), wrapS 160 1 (strE t)] = _
  have e : ([wrapS 160 0 (elemS 48 (strsN xs xs.length)), wrapS 160 1 (strE t)] : List (List UInt8)).flatten = sufS [elemS 48 (strsN xs xs.length), strE t] 0 2 := by
   rw [sufS_succ, sufS_succ]
   simp [sufS]
  rw [elemS_flat (by rw [e]; omega), e]
 rw [hS]
 refine ⟨fun r => ?_, ?_, tlv_ne⟩
 · unfold nameP
   rw [inP_tlv (by omega) h2 r]
   simp only [chkP]
   rw [if_pos hv]
 · rw [tlv_length]
   have := lenS_len (sufS [elemS 48 (strsN xs xs.length), strE t] 0 2).length
   omega
end Go.Proofs.YtddmkgibghohkaaGreatDoor
/- Contracts: the reference's encoding of principals, keys, sets. -/
namespace Go.Proofs.YtddmkgibghohkaaGreatDoor
open Go Go.Sx Go.Proofs
set_option maxRecDepth 100000
set_option maxHeartbeats 4000000
set_option linter.unusedSimpArgs false

theorem flat_le {B : Nat} : ∀ (m : List (List UInt8)), (∀ x ∈ m, x.length ≤ B) → m.flatten.length ≤ B * m.length
 | [], _ => by simp
 | x :: m, h => by
  have h1 := h x (by simp)
  have h2 := flat_le m (fun y hy => h y (by simp [hy]))
  simp only [List.flatten_cons, List.length_append, List.length_cons, Nat.mul_add, Nat.mul_one]
  omega
theorem strsN_flat {l : List ByteArray} {k : Nat} (hl : l.length ≤ 4) (h : ∀ x ∈ l, x.size ≤ 32) : (strsN l k).flatten.length ≤ 148 := by
 have h1 := flat_le (B := 37) (strsN l k) (fun x hx => by
  unfold strsN at hx
  rw [List.mem_map] at hx
  obtain ⟨y, hy, rfl⟩ := hx
  have h2 := h y (List.mem_of_mem_take hy)
  have h3 := elemS_len 27 [y.data.toList]
  have h4 : y.data.toList.length = y.size := by simp
  simp only [List.flatten_cons, List.flatten_nil, List.append_nil] at h3
  omega)
 have h2 : (strsN l k).length ≤ 4 := by unfold strsN; simp; omega
 have : 37 * (strsN l k).length ≤ 37 * 4 := Nat.mul_le_mul_left _ h2
 omega
theorem rprin_c (l : List ByteArray) (r : ByteArray) (hl : l.length ≤ 4) (hp : ∀ x ∈ l, x.size ≤ 32) (hr : r.size ≤ 32) : PC Tryz.prog 98 [.agg (PrinT.cells (l, r))] (.isl .u8 (prinS (l, r))) := by
 have hps : prinS (l, r) = elemS 48 [wrapS 160 0 (elemS 48 (strsN l l.length)), wrapS 160 1 (elemS 27 [r.data.toList])] := rfl
 generalize prinS (l, r) = ps at *
 refine pc_seal rfl rfl ?_
 refine runE mixed fi98 ?_
 refine si_accN 3 (.slice .u8) (strsN l) (fun i => [(4, rI i)]) l.length (fun _ => True) rfl (by simp) (by simp [strsN]) rfl (fun i => rfl) ?_ fun i hi _ => ?_
 · with_reducible refine sxE ?_; trivial
 have hwr : IntKind.i64.wrap ((i : Int) + 1) = ((i + 1 : Nat) : Int) := wrap_succ (by omega)
 have hln := strsN_len hi
 by_cases hlt : i < l.length
 · have hst := strsN_succ hlt
   have hsz := hp _ (getD_mem (d := Ty.str.dflt) hlt)
   refine goE mixed ?_
   refine ⟨fun _ => ⟨⟨by omega, hlt⟩, callI_pure (rstr_c _ (by omega)) ?_⟩, fun h => absurd hlt h⟩
   refine goE mixed ?_
   refine ⟨⟨by omega, by omega⟩, acc_next [_, _] [] hlt trivial (by rw [hst]; rfl) ?_⟩
   with_reducible refine sx3 hwr hst ?_; trivial
 · obtain rfl : i = l.length := by omega
   have hf := strsN_flat (k := l.length) hl hp
   have g1 := elemS_len 48 (strsN l l.length)
   have g2 := elemS_len 27 [r.data.toList]
   have g3 : r.data.toList.length = r.size := by simp
   simp only [List.flatten_cons, List.flatten_nil, List.append_nil] at g2
   have g4 := wrapS_len 160 0 (elemS 48 (strsN l l.length))
   have g5 := wrapS_len 160 1 (elemS 27 [r.data.toList])
   refine si_freeze 1 rfl rfl (by omega) ?_ ?_ ?_
   · with_reducible refine sxE ?_; trivial
   · with_reducible refine sxE ?_
     exact Nat.le_refl _
   with_reducible refine sxE ?_
   rw [List.take_of_length_le (Nat.le_refl _)]
   refine goE mixed ?_
   refine ⟨fun h => absurd h hlt, fun _ => callR_pure (rseq_c _ (by omega) (by omega)) ?_⟩
   refine goE mixed ?_
   refine callR_pure (rtag_c 0 (by decide) _ (by omega)) ?_
   refine goE mixed ?_
   refine callR_pure (rstr_c r (by omega)) ?_
   refine goE mixed ?_
   refine callR_pure (rtag_c 1 (by decide) _ (by omega)) ?_
   refine goE mixed ?_
   refine callR_hand 2 (by decide) ?_
   with_reducible refine sxE ?_
   refine callR_pure (rseq_c _ (by simp) (by simp only [List.flatten_cons, List.flatten_nil, List.append_nil, List.length_append]; omega)) ?_
   refine goE mixed ?_
   exact hps.symm
theorem rkey_c (k : Key) (h1 : 0 ≤ k.1 ∧ k.1 ≤ 4611686018427387904) (h2 : 0 ≤ k.2.1 ∧ k.2.1 ≤ 4611686018427387904) (h3 : k.2.2.length ≤ 4096) : PC Tryz.prog 173 [.agg (KeyT.cells k)] (.isl .u8 (elemS 48 [wrapS 160 0 (intS k.1), wrapS 160 1 (intS k.2.1), wrapS 160 2 (elemS 4 [k.2.2])])) := by
 have g1 := intS_len k.1
 have g2 := intS_len k.2.1
 have g3 := elemS_len 4 [k.2.2]
 simp only [List.flatten_cons, List.flatten_nil, List.append_nil] at g3
 have g5 := wrapS_len 160 0 (intS k.1)
 have g6 := wrapS_len 160 1 (intS k.2.1)
 have g7 := wrapS_len 160 2 (elemS 4 [k.2.2])
 refine pc_seal rfl rfl ?_
 refine runE mixed fi173 ?_
 refine callR_pure (rint_i _ h1) ?_
 refine goE mixed ?_
 refine callR_pure (rtag_c 0 (by decide) _ (by omega)) ?_
 refine goE mixed ?_
 refine callR_pure (rint_i _ h2) ?_
 refine goE mixed ?_
 refine callR_pure (rtag_c 1 (by decide) _ (by omega)) ?_
 refine goE mixed ?_
 refine callR_pure (roct_c _ (by omega)) ?_
 refine goE mixed ?_
 refine callR_pure (rtag_c 2 (by decide) _ (by omega)) ?_
 refine goE mixed ?_
 refine callR_hand 1 (by decide) ?_
 with_reducible refine sxE ?_
 refine callR_pure (rseq_c _ (by simp) (by simp only [List.flatten_cons, List.flatten_nil, List.append_nil, List.length_append]; omega)) ?_
 refine goE mixed ?_; trivial
theorem rnumber_c (v : Int) (hv : 0 ≤ v ∧ v ≤ 4611686018427387904) : PC Tryz.prog 101 [rI v] (.isl .u8 (numO v)) := by
 refine pc_seal rfl rfl ?_
 refine runE mixed fi101 ?_
 refine callI_pure (rint_i _ hv) ?_
 refine goE mixed ?_
 refine callI_pure (runless_c _ _) ?_
 refine goE mixed ?_
 unfold numO
 by_cases h : v = 0 <;> simp [h]
theorem rtimeO_c (v : Int) (hv : 0 ≤ v ∧ v ≤ 1099511627776) : PC Tryz.prog 103 [rI v] (.isl .u8 (timO v)) := by
 refine pc_seal rfl rfl ?_
 refine runE mixed fi103 ?_
 refine callI_pure (rtime_c _ hv) ?_
 refine goE mixed ?_
 refine callI_pure (runless_c _ _) ?_
 refine goE mixed ?_
 unfold timO
 by_cases h : v = 0 <;> simp [h]
end Go.Proofs.YtddmkgibghohkaaGreatDoor
