/- Contracts: messages: reading the tickets of a request. -/
import Derived.Test.YtkbbkhmffmfliaaGreatDoorP27
import Derived.Test.YtkbbkhmffmfliaaGreatDoorP25
import Derived.Test.YtkbbkhmffmfliaaGreatDoorP23
import Derived.Test.YtkbbkhmffmfliaaGreatDoorP26
set_option linter.all false
namespace Go.Proofs.YtkbbkhmffmfliaaGreatDoor
open Go Go.Sx Go.Proofs
set_option maxRecDepth 100000
set_option maxHeartbeats 4000000
theorem j0d (b : List UInt8) (n : Nat) (hn : n ≤ b.length) (hb : b.length ≤ 1099511627776) :
 Eff Tryz.prog 164 [.agg [.ptr 0 0]] b n [] (fun t : Tick => .agg (TickT.cells t)) (fun _ => []) (tickP (b.drop n)) := by
 have hr := j2B b n hn hb
 cases hx : tickP (b.drop n) with
 | error e =>
  rw [hx] at hr
  have hr' : PE Tryz.prog 166 [.ptr 0 0] [rdr b n] (.ret (.tup [zTick, rI 6])) [rdr b n] := hr
  refine q0c (by simp) ?_
  refine rQ fi164 ?_
  refine eQ [0] (hr') ?_
  refine effP [] (z0w 6 (by decide)) ?_; trivial
 | ok x =>
  obtain ⟨t, k⟩ := x
  rw [hx] at hr
  have hr' : PE Tryz.prog 166 [.ptr 0 0] [rdr b n] (.ret (.tup [.agg (TickT.cells t), rI 0])) [rdr b (n + k)] := hr
  refine q0c (by simp) ?_
  refine rQ fi164 ?_
  refine eQ [0] (hr') ?_
  refine q0a (z6C _) ?_
  refine gQ ?_; trivial
theorem z0D (g : Nat) (p : PR (TickT).den) (hp : FitsP p) (b : List UInt8) (n : Nat) (hn : n ≤ b.length) (hb : b.length ≤ 1099511627776) (T T2 : TypeId)
 (hok : ∀ m v q, p (b.drop m) = .ok (v, q) → (TickT).ok v)
 (hg : ∀ m, m ≤ b.length → Eff Tryz.prog g [.agg [.ptr 0 0]] b m [] (fun x => (.agg (TickT.cells x))) (fun _ => []) (p (b.drop m))) :
 Eff Tryz.prog 213 [.agg [.ptr 0 0], .ptr 1 0, .ptr 2 0] b n [.cells T [.raw (.slice none 0 0)], .cells T2 [.fn g [] []]] (fun _ => .tup []) (fun l => [.cells T [.isl (TickT) l], .cells T2 [.fn g [] []]]) (listP p 16 (b.drop n)) := by
 refine q5S (fun _ => Nat.le_refl _) ?_
 generalize hx : listP p 16 (b.drop n) = X
 refine rQ fi213 ?_
 refine q2n 1 0 (TickT) rfl rfl rfl ?_
 with_reducible refine sxE ?_
 refine q1c (ι := Nat × List (TickT).den × List SObj) (fun s => []) (fun s => [rdr b s.1, .cells T [.bld (s.2.2.length + 4) (TickT) s.2.1.length], .cells T2 [.fn g [] []], .cells 72 [.ptr 0 0]] ++ s.2.2 ++ [.row (TickT) s.2.1]) (fun s => 2 * 17 - s.2.1.length) (fun s => s.2.1.length ≤ 16 ∧ n ≤ s.1 ∧ s.1 ≤ b.length ∧ X = tailP s.2.1 (s.1 - n) (listP p (16 - s.2.1.length) (b.drop s.1))) (n, [], []) ⟨Nat.zero_le _, Nat.le_refl _, hn, ?_⟩ rfl ?_ ?_
 · rw [Nat.sub_self, q6l]; exact hx.symm
 · with_reducible refine sxE ?_; trivial
 rintro ⟨k, xs, G⟩ ⟨h1, h2, h3, h4⟩
 dsimp only at h1 h2 h3 h4
 have hleft := q2f b k h3
 refine aQ ?_
 refine q0I [0] hleft rfl (by decide) ⟨rfl, rfl, trivial⟩ rfl rfl ?_
 simp only [afterO, Out.ren, SV.ren, mgA, sig, SObj.ren, SV.renL, List.cons_append, List.nil_append, List.append_assoc, List.set_cons_zero, List.set_cons_succ, List.set, List.map, List.append_nil]
 refine aQ ?_
 refine ⟨fun hp0 => q0g (fun hmo => ?_) (fun hmo => ?_), fun hp0 => ?_⟩
 · have hlt : xs.length < 16 := by have := of_decide_eq_true hmo; omega
   have hkl : k < b.length := by omega
   refine uQ 1 _ ?_
   with_reducible refine sxaE ?_
   refine q1w [1, 2, 3] mixed ?_
   refine aQ ?_
   cases hpk : p (b.drop k) with
   | error e =>
    have hg' := q0B (hg k h3) hpk
    have hX := h4.trans (q2Q hkl (by omega) hpk)
    rw [hX]
    refine q0f [0] hg' rfl (by decide) ⟨rfl, rfl, trivial⟩ rfl rfl ?_ ?_
    · simp (maxSteps := 3000000) only [mgA, sig, q0V, q1m, List.append_assoc, getA, getA0, setA, setA0, List.length_append, Nat.add_assoc, go_sem, ↓zA, ↓reduceIte, ↓reduceDIte] <;> try simp only [zB]
    simp only [afterR, Out.ren, SV.ren, mgA, sig, SObj.ren, SV.renL, List.cons_append, List.nil_append, List.append_assoc, List.set_cons_zero, List.set_cons_succ, List.set, List.map, List.append_nil, effO, effH]
    with_reducible refine sxaE ?_; trivial
   | ok y =>
    obtain ⟨v, m⟩ := y
    have hg' := q0x (hg k h3) hpk
    have hfit := hp _ _ _ hpk
    rw [List.length_drop] at hfit
    have hX := h4.trans (q4e hkl (by omega) hpk)
    refine q0f [0] hg' rfl (by decide) ⟨rfl, rfl, trivial⟩ rfl rfl ?_ ?_
    · simp (maxSteps := 3000000) only [mgA, sig, q0V, q1m, List.append_assoc, getA, getA0, setA, setA0, List.length_append, Nat.add_assoc, go_sem, ↓zA, ↓reduceIte, ↓reduceDIte] <;> try simp only [zB]
    refine rnE ?_
    refine aQ ?_
    have hob := hok _ _ _ hpk
    refine ⟨hob.1.2, ⟨by omega, by omega⟩, (k + m, xs ++ [v], G ++ [.dead, .row (TickT) [v]]), ⟨by simp; omega, by dsimp only; omega, by dsimp only; omega, ?_⟩, by simp; omega, ?_, ?_⟩
    · dsimp only
      rw [hX, List.length_append, List.length_singleton, Nat.sub_sub]
      congr 1
      omega
    · simp
    with_reducible refine sxaE ?_; trivial
 · have hlt : ¬ xs.length < 16 := by have := of_decide_eq_false hmo; omega
   have hm0 : 16 - xs.length = 0 := by omega
   rw [hm0] at h4
   have hX := h4.trans (q5w (by omega))
   rw [hX]
   simp (maxSteps := 3000000) only [effO, effH, List.append_assoc, getA, getA0, setA, setA0, List.length_append, Nat.add_assoc, go_sem, ↓zA, ↓reduceIte, ↓reduceDIte] <;> try simp only [zB]
 have hX := h4.trans (q5f (by omega))
 rw [hX]
 simp (maxSteps := 3000000) only [effO, effH, List.append_assoc, getA, getA0, setA, setA0, List.length_append, Nat.add_assoc, go_sem, ↓zA, ↓reduceIte, ↓reduceDIte] <;> try simp only [zB]
 rw [if_neg (by omega)]
 with_reducible refine sxE ?_
 refine ⟨congrArg (Value.int .i64) (by omega), ⟨Nat.le_refl _, by omega⟩, List.take_of_length_le (Nat.le_refl _)⟩
theorem q7D (g : Nat) (p : PR (TickT).den) (hp : FitsP p) (b : List UInt8) (n : Nat) (hn : n ≤ b.length) (hb : b.length ≤ 1099511627776)
 (hok : ∀ c v q, c.length ≤ 1099511627776 → p c = .ok (v, q) → (TickT).ok v)
 (hg : ∀ (c : List UInt8) m, m ≤ c.length → c.length ≤ 1099511627776 → Eff Tryz.prog g [.agg [.ptr 0 0]] c m [] (fun x => (.agg (TickT.cells x))) (fun _ => []) (p (c.drop m))) :
 Eff Tryz.prog 163 [.agg [.ptr 0 0], .fn g [] []] b n [] (fun l => .isl (TickT) l) (fun _ => []) (inP 48 (listP p 16) (b.drop n)) := by
 have h1 := fun T T2 => z0D g p hp (takeC (b.drop n)) 0 (Nat.zero_le _) (q0J hb) T T2 (fun m v q h => hok _ v q (by have := q0J (n := n) hb; rw [List.length_drop]; omega) h) (fun m hm => hg _ m hm (q0J hb))
 simp only [List.drop_zero] at h1
 have hs := fun T T2 => sequence2 213 b n hn hb T T2 [.raw (.slice none 0 0)] [.fn g [] []] (q0d q0C) (z3w q0C) (listP p 16) (q5v hp 16) (fun l => [.isl (TickT) l]) (fun _ => [.fn g [] []]) (fun _ => q0A q0C) (fun _ => z3w q0C) (h1 T T2)
 cases hx : inP 48 (listP p 16) (b.drop n) with
 | error e =>
  have hm' := fun T T2 => q0B (hs T T2) hx
  refine q0c (by simp) ?_
  refine rQ fi163 ?_
  refine effP [0, 3, 2] (hm' _ _) ?_; trivial
 | ok x =>
  obtain ⟨v, k⟩ := x
  have hm' := fun T T2 => q0x (hs T T2) hx
  refine q0c (by simp) ?_
  refine rQ fi163 ?_
  refine eQ [0, 3, 2] (hm' _ _) ?_; trivial
theorem j2T (k : Int) (pre : List Pre) (o : Int) (c : Prin) (s : Prin) (f t w m : Int) (pf : List Int) (ad : List Pre) (b : List UInt8) (n : Nat) (hn : n ≤ b.length) (hb : b.length ≤ 1099511627776) (T : TypeId) :
 Eff Tryz.prog 162 [.agg [.ptr 0 0], .ptr 1 0] b n [.cells T [.ptr 2 0], rqO [rI k, .isl PreT pre, mU o, .isl .str c.1, rS c.2, .isl .str s.1, rS s.2, rI f, rI t, rI w, rI m, .isl I64 pf, .isl PreT ad, .raw (.slice none 0 0)]] (fun _ => .tup []) (fun l : List Tick => [.cells T [.ptr 2 0], rqO [rI k, .isl PreT pre, mU o, .isl .str c.1, rS c.2, .isl .str s.1, rS s.2, rI f, rI t, rI w, rI m, .isl I64 pf, .isl PreT ad, .isl TickT l]]) (ticksP (b.drop n)) := by
 have hv := q7D 164 tickP q8w b n hn hb (fun c v q hc hp => q8R c v q hc hp) (fun c m hm hc => j0d c m hm hc)
 change Eff _ _ _ _ _ _ _ _ (ticksP (b.drop n)) at hv
 refine q5S (fun _ => Nat.le_refl _) ?_
 refine q1L fi162 (q0n mixed 4 _ ?_)
 with_reducible refine sxE ?_
 refine q1w [1, 2, 3] mixed ?_
 refine gQ ?_
 cases hx : ticksP (b.drop n) with
 | error e =>
  have hv' := q0B hv hx
  refine q0f [0] hv' rfl (by decide) ⟨rfl, rfl, trivial⟩ rfl rfl ?_ ?_
  · exact rsE
  refine rnE ?_
  with_reducible refine sxE ?_; trivial
 | ok x =>
  obtain ⟨l, q⟩ := x
  have hv' := q0x hv hx
  refine q0f [0] hv' rfl (by decide) ⟨rfl, rfl, trivial⟩ rfl rfl ?_ ?_
  · exact rsE
  refine rnE ?_
  refine gQ ?_; trivial
theorem j1a (k : Int) (pre : List Pre) (o : Int)  (s : Prin) (f t w m : Int) (pf : List Int) (ad : List Pre) (b : List UInt8) (n : Nat) (hn : n ≤ b.length) (hb : b.length ≤ 1099511627776) (T : TypeId) :
 Eff Tryz.prog 162 [.agg [.ptr 0 0], .ptr 1 0] b n [.cells T [.ptr 2 0], rqO [rI k, .isl PreT pre, mU o, .raw (.slice none 0 0), rS ⟨#[]⟩, .isl .str s.1, rS s.2, rI f, rI t, rI w, rI m, .isl I64 pf, .isl PreT ad, .raw (.slice none 0 0)]] (fun _ => .tup []) (fun l : List Tick => [.cells T [.ptr 2 0], rqO [rI k, .isl PreT pre, mU o, .raw (.slice none 0 0), rS ⟨#[]⟩, .isl .str s.1, rS s.2, rI f, rI t, rI w, rI m, .isl I64 pf, .isl PreT ad, .isl TickT l]]) (ticksP (b.drop n)) := by
 have hv := q7D 164 tickP q8w b n hn hb (fun c v q hc hp => q8R c v q hc hp) (fun c m hm hc => j0d c m hm hc)
 change Eff _ _ _ _ _ _ _ _ (ticksP (b.drop n)) at hv
 refine q5S (fun _ => Nat.le_refl _) ?_
 refine q1L fi162 (q0n mixed 4 _ ?_)
 with_reducible refine sxE ?_
 refine q1w [1, 2, 3] mixed ?_
 refine gQ ?_
 cases hx : ticksP (b.drop n) with
 | error e =>
  have hv' := q0B hv hx
  refine q0f [0] hv' rfl (by decide) ⟨rfl, rfl, trivial⟩ rfl rfl ?_ ?_
  · exact rsE
  refine rnE ?_
  with_reducible refine sxE ?_; trivial
 | ok x =>
  obtain ⟨l, q⟩ := x
  have hv' := q0x hv hx
  refine q0f [0] hv' rfl (by decide) ⟨rfl, rfl, trivial⟩ rfl rfl ?_ ?_
  · exact rsE
  refine rnE ?_
  refine gQ ?_; trivial
theorem j0C (k o f t w m : Int) (pre : List Pre) (c s : Prin) (pf : List Int) (ad : List Pre) {x : SV} (hx : Cln [x]) : Cln [rI k, .isl PreT pre, mU o, .isl .str c.1, rS c.2, .isl .str s.1, rS s.2, rI f, rI t, rI w, rI m, .isl I64 pf, .isl PreT ad, x] := q0d (q0A (q0d (q0A (q0d (q0A (q0d (q0d (q0d (q0d (q0d (q0A (q0A hx))))))))))))
theorem j0t (k o f t w m : Int) (pre : List Pre) (s : Prin) (pf : List Int) (ad : List Pre) {x : SV} (hx : Cln [x]) : Cln [rI k, .isl PreT pre, mU o, .raw (.slice none 0 0), rS ⟨#[]⟩, .isl .str s.1, rS s.2, rI f, rI t, rI w, rI m, .isl I64 pf, .isl PreT ad, x] := q0d (q0A (q0d (q0d (q0d (q0A (q0d (q0d (q0d (q0d (q0d (q0A (q0A hx))))))))))))
theorem allB : BodB fun c => c.length ≤ 1099511627776 where
 tk := fun r h => Nat.le_trans (q3e r) h
 dr := fun r n h => by rw [List.length_drop]; omega
 h := fun k pre b hb =>
  ⟨fun q hq h8 => z8Q b q hq hb h8,
   fun o c s f t w m pf ad q hq h9 => q7e 162 9 (by omega) b q hq hb 121 33 _ (j0C k o f t w m pre c s pf ad (q0d q0C)) ticksP q1E _ (fun l => j0C k o f t w m pre c s pf ad (q0A q0C)) (j2T k pre o c s f t w m pf ad (takeC (b.drop q)) 0 (Nat.zero_le _) (q0J hb) _) h9,
   fun o s f t w m pf ad q hq h9 => q7e 162 9 (by omega) b q hq hb 121 33 _ (j0t k o f t w m pre s pf ad (q0d q0C)) ticksP q1E _ (fun l => j0t k o f t w m pre s pf ad (q0A q0C)) (j1a k pre o s f t w m pf ad (takeC (b.drop q)) 0 (Nat.zero_le _) (q0J hb) _) h9⟩
theorem j0X : OkP adrP (Ty.slice PreT).ok := fun r v m hr h => z3v r v m hr (q9u (q := vAdrs) (x := dataP r) h).1
theorem j3d (k : Int) : OkP (cliP k) PrinT.ok := by
 unfold cliP
 split
 · exact q1J q6n
 exact q5y j0W
theorem j1N (k : Int) (pre : List Pre) (hp : (Ty.slice PreT).ok pre) : OkP (bodP k pre) fun r => ReqT.ok r ∧ optOk r ∧ r.2.2.2.2.2.2.2.2.2.2.2.length ≤ 16 :=
 q0U (q1J z9O) fun _ h0 => q0U (j3d k) fun _ h1 => q0U (q1J q6n) fun _ h2 => q0U (Q1 := fun _ => True) q1K fun _ _ => q0U (Q1 := fun _ => True) q1K fun _ _ => q0U (Q1 := fun _ => True) q1K fun _ _ => q0U (Q1 := fun _ => True) q1K fun _ _ =>
  q0U (q1J (j3Q (t := I64) 16 (by omega) (q9i q1K fun _ _ => trivial))) fun _ h7 => q0U (q9J q5V j0X) fun _ h8 => q0U (Q1 := fun l => (Ty.slice TickT).ok l ∧ l.length ≤ 16) (q9J ⟨q5V, Nat.zero_le _⟩ (q3n (q9i (q4X q8R 16) fun v hv => ⟨⟨by have := hv.1; omega, hv.2⟩, hv.1⟩))) fun _ h9 =>
   q5y ⟨⟨trivial, hp, trivial, h1, h2, trivial, trivial, trivial, trivial, h7, h8, h9.1⟩, ⟨Int.natCast_nonneg _, by show ((_ : Nat) : Int) ≤ 4294967295; omega⟩, h9.2⟩
theorem z7D (k : Nat) : OkP (reqP k) fun r => ReqT.ok r ∧ optOk r ∧ r.2.2.2.2.2.2.2.2.2.2.2.length ≤ 16 :=
 q3n (q3n (q0U (Q1 := fun _ => True) q1K fun _ _ => q0U (Q1 := fun _ => True) q1K fun _ _ => q0U (q9J q5V z3v) fun pre h2 => q0U (q1J (q3n (j1N _ pre h2))) fun _ h3 => q5y h3))
theorem j2O (o o' : SObj) (R : List SObj) (K : List SObj → Prop) (h : ∀ G, K (o :: o' :: (R ++ G))) : DCall Tryz.prog 103 [.ptr 1 0] none (o :: o' :: R) K := by
 refine recE mixed fi103 ?_
 exact h _
theorem z5J (k : Nat) (hk : k ≤ 30) (b : List UInt8) (hb : b.length ≤ 1099511627776) : PC Tryz.prog 33 [.isl .u8 b, .fn 31 [] [.iptr I64 (k : Nat) 0], .fn 26 [] [], .fn 28 [] []] (.tup [.agg (ReqT.cells ((decRq k b).getD ReqT.dflt)), rI (if (decRq k b).isSome then 0 else 6)]) := by
 have hnew := j4C b (by omega)
 have hread := q7P allB k hk b 0 (Nat.zero_le _) hb hb
 have hok : ∀ e m, reqP k b = .ok (e, m) → ReqT.ok e ∧ optOk e ∧ e.2.2.2.2.2.2.2.2.2.2.2.length ≤ 16 := fun e m h => z7D k b e m hb h
 rw [List.drop_zero] at hread
 refine q0e rfl rfl ?_
 refine defE mixed fi33 ?_
 refine gQ ?_
 refine eQ [] (hnew) ?_
 cases hx : reqP k b with
 | error e =>
  have hd : decRq k b = none := by unfold decRq allP; rw [hx]
  have hr := q0B hread hx
  rw [hd]
  refine effP [2] (hr) ?_
  refine ⟨by simp, q5F _ _ _ _ _ fun G => ?_⟩
  with_reducible refine sxE ?_
  exact ⟨⟨rfl, rfl, rfl, rfl, rfl, rfl, rfl, rfl, rfl, rfl, rfl, rfl, rfl, rfl⟩, rfl⟩
 | ok x =>
  obtain ⟨e, m⟩ := x
  have hr := q0x hread hx
  obtain ⟨heo, hopt, htk⟩ := hok e m hx
  have hC := reqC e heo hopt (by omega)
  rw [Nat.zero_add] at hr
  refine eQ [2] (hr) ?_
  have hfit : m ≤ b.length := q1E _ _ _ hx
  by_cases hm : m < b.length
  · have hd : decRq k b = none := by unfold decRq allP; rw [hx]; simp [hm]
    rw [hd]
    refine effP [2] (q5U b m hm) ?_
    refine ⟨by simp, q5F _ _ _ _ _ fun G => ?_⟩
    with_reducible refine sxE ?_
    exact ⟨⟨rfl, rfl, rfl, rfl, rfl, rfl, rfl, rfl, rfl, rfl, rfl, rfl, rfl, rfl⟩, rfl⟩
  refine eQ [2] (q7k b m (by omega)) ?_
  refine q0a (show PC _ _ _ (rB (sRq e)) from z2E e _ _ heo hC.va hC.vt) ?_
  cases hv : sRq e with
  | false =>
   have hd : decRq k b = none := by unfold decRq allP; rw [hx]; simp [hm, hv]
   rw [hd]
   refine gQ ?_
   refine q0g (fun h => absurd h (by decide)) fun _ => ?_
   with_reducible refine sxE ?_
   refine ⟨by simp, q5F _ _ _ _ _ fun G => ?_⟩
   with_reducible refine sxE ?_
   exact ⟨⟨rfl, rfl, rfl, rfl, rfl, rfl, rfl, rfl, rfl, rfl, rfl, rfl, rfl, rfl⟩, rfl⟩
  | true =>
   refine gQ ?_
   refine q0a (show PC _ _ _ (.isl .u8 (rqS e)) from z4X hC hv) ?_
   refine gQ ?_
   refine q0a (j1g _ _) ?_
   by_cases he : rqS e = b
   · have hd : decRq k b = some e := by unfold decRq allP; rw [hx]; simp [hm, hv, he]
     rw [hd, decide_eq_true he]
     refine gQ ?_
     refine q0a q2O ?_
     refine gQ ?_
     refine j2O _ _ _ _ fun G => ?_
     with_reducible refine sxE ?_
     exact ⟨⟨rfl, rfl, rfl, rfl, rfl, rfl, rfl, rfl, rfl, rfl, rfl, rfl, rfl, rfl⟩, rfl⟩
   have hd : decRq k b = none := by unfold decRq allP; rw [hx]; simp [hm, hv, he]
   rw [hd, decide_eq_false he]
   refine gQ ?_
   refine q0g (fun h => absurd h (by decide)) fun _ => ?_
   with_reducible refine sxE ?_
   refine ⟨by simp, q5F _ _ _ _ _ fun G => ?_⟩
   with_reducible refine sxE ?_
   exact ⟨⟨rfl, rfl, rfl, rfl, rfl, rfl, rfl, rfl, rfl, rfl, rfl, rfl, rfl, rfl⟩, rfl⟩
theorem z0n (b : List UInt8) (hb : b.length ≤ 1099511627776) : PC Tryz.prog 9 [.isl .u8 b] (.tup [.agg (ReqT.cells ((decReq b).getD ReqT.dflt)), rI (if (decReq b).isSome then 0 else 6)]) := by
 have hko := z3H b 0 (by omega)
 unfold decReq
 cases hK : kindB b 0 with
 | false =>
  rw [hK] at hko
  rw [if_neg (by decide)]
  refine q0e rfl rfl ?_
  refine rQ fi9 ?_
  refine q0a hko ?_
  refine gQ ?_
  exact ⟨⟨rfl, rfl, rfl, rfl, rfl, rfl, rfl, rfl, rfl, rfl, rfl, rfl, rfl, rfl⟩, rfl⟩
 | true =>
  rw [hK] at hko
  rw [if_pos rfl]
  have hV : vKind (kindV b 0) = true := by
   unfold kindB at hK
   simp only [Bool.and_eq_true] at hK
   exact hK.2.2
  obtain ⟨k, hk, hk2⟩ := q7s hV
  rw [hk] at hko
  rw [hk, Int.toNat_natCast]
  have hd := z5J k (by omega) b hb
  generalize (decRq k b).getD ReqT.dflt = q at *
  generalize (decRq k b).isSome = g at *
  refine q0e rfl rfl ?_
  refine rQ fi9 ?_
  refine q0a hko ?_
  refine uQ 6 _ ?_
  with_reducible refine sxE ?_
  refine q3t 4 1 (ty := I64) (x := ((k : Nat) : Int)) rfl trivial rfl rfl ?_
  refine gQ ?_
  refine q0a hd ?_
  refine gQ ?_; trivial
theorem z1g (l : List Pre) (hl : l.length ≤ 1125899906842624) : PC Tryz.prog 20 [.isl PreT l] (rB (fewB l)) := by
 refine q0D rfl rfl ?_
 refine rQ fi20 ?_
 refine q0G (fun i => [(3, .raw (.int .i64 ((i : Nat) : Int)))]) (l.length) (fun j => (s300 l) j = true) (by first | decide | simp) (fun i => rfl) ?_ fun i hi hall => ?_
 · (with_reducible refine sxE ?_ <;> try exact True.intro)
   all_goals (try rfl)
 have hwr := wsx i (by omega)
 refine gQ ?_
 have bad : i < (l.length) → (s300 l) i = false → allN (l.length) (s300 l) = false := fun hlt hv => q0i hlt hv
 have fin : ¬ i < (l.length) → allN (l.length) (s300 l) = true := fun h => q0l fun j hj => hall j (by omega)
 try dsimp only at bad fin hall
 refine ⟨fun hlt => ⟨⟨by omega, hlt⟩, fun h => ?_, fun h => ?_⟩, fun hge => ?_⟩
 · unfold fewB; rw [bad hlt (decide_eq_false (by omega))]; rfl
 · refine ⟨hlt, q0L hall (decide_eq_true (by omega)), ⟨[], rfl⟩, ?_⟩
   with_reducible refine sx1 hwr ?_; trivial
 unfold fewB; rw [fin hge]; rfl
def tk3At (l : List Tick) (j : Nat) : Bool := tick3 (l.getD j TickT.dflt)
def reqB (r : Req) : Bool := allN r.2.2.2.2.2.2.2.2.2.2.2.length (tk3At r.2.2.2.2.2.2.2.2.2.2.2) && (fewB r.2.1 && (shortB r.2.2.2.1 && (shortB r.2.2.2.2.1 && (decide ((r.2.2.2.2.2.2.2.2.2.1.length : Int) ≤ 20) && (fewB r.2.2.2.2.2.2.2.2.2.2.1 && decide ((r.2.2.2.2.2.2.2.2.2.2.2.length : Int) ≤ 20))))))
theorem j3I (r : Req) (ho : ReqT.ok r) : PC Tryz.prog 4 [.agg (ReqT.cells r)] (rB (reqB r)) := by
 obtain ⟨k, pre, o, c, s, f, t, w, n, pf, ad, tk⟩ := r
 obtain ⟨_, o2, _, o4, o5, _, _, _, _, o10, o11, o12⟩ := ho
 have hd : reqB (k, pre, o, c, s, f, t, w, n, pf, ad, tk) = (allN tk.length (tk3At tk) && (fewB pre && (shortB c && (shortB s && (decide ((pf.length : Int) ≤ 20) && (fewB ad && decide ((tk.length : Int) ≤ 20))))))) := rfl
 have l12 : tk.length ≤ 1125899906842624 := o12.1
 rw [hd]
 refine q0D rfl rfl ?_
 refine rQ fi4 ?_
 refine q0G (fun i => [(3, .raw (.int .i64 ((i : Nat) : Int)))]) (tk.length) (fun j => (tk3At tk) j = true) (by first | decide | simp) (fun i => rfl) ?_ fun i hi hall => ?_
 · (with_reducible refine sxE ?_ <;> try exact True.intro)
   all_goals (try rfl)
 have hwr := wsx i (by omega)
 refine gQ ?_
 have bad : i < (tk.length) → (tk3At tk) i = false → allN (tk.length) (tk3At tk) = false := fun hlt hv => q0i hlt hv
 have fin : ¬ i < (tk.length) → allN (tk.length) (tk3At tk) = true := fun h => q0l fun j hj => hall j (by omega)
 try dsimp only at bad fin hall
 refine ⟨fun hlt => ⟨⟨by omega, hlt⟩, q0a (j2L _ (o12.2 _ (q0K (d := TickT.dflt) hlt))) ?_⟩, fun hge => ?_⟩
 · have hq : tk3At tk i = tick3 (tk.getD i TickT.dflt) := rfl
   refine gQ ?_
   refine ⟨fun h1 => ?_, fun h1 => ⟨hlt, q0L hall (by rw [hq, h1]), ⟨[], rfl⟩, ?_⟩⟩
   · rw [bad hlt (by rw [hq, h1]), Bool.false_and]
   with_reducible refine sx1 hwr ?_; trivial
 rw [fin hge, Bool.true_and]
 clear bad fin hall hge hd
 repeat' (first
  | (refine q0a (j2y _ o2.1) ?_; refine uQ 600 _ ?_; simp (maxSteps := 3000000) only [go_sem, ↓zA, ↓reduceIte, ↓reduceDIte] <;> try simp only [zB])
  | (refine q0b (j2y _ o2.1) ?_; refine uQ 600 _ ?_; simp (maxSteps := 3000000) only [go_sem, ↓zA, ↓reduceIte, ↓reduceDIte] <;> try simp only [zB])
  | (refine q0q (j2y _ o2.1) ?_; refine uQ 600 _ ?_; simp (maxSteps := 3000000) only [go_sem, ↓zA, ↓reduceIte, ↓reduceDIte] <;> try simp only [zB])
  | (refine q0a (q2A _ o4) ?_; refine uQ 600 _ ?_; simp (maxSteps := 3000000) only [go_sem, ↓zA, ↓reduceIte, ↓reduceDIte] <;> try simp only [zB])
  | (refine q0b (q2A _ o4) ?_; refine uQ 600 _ ?_; simp (maxSteps := 3000000) only [go_sem, ↓zA, ↓reduceIte, ↓reduceDIte] <;> try simp only [zB])
  | (refine q0q (q2A _ o4) ?_; refine uQ 600 _ ?_; simp (maxSteps := 3000000) only [go_sem, ↓zA, ↓reduceIte, ↓reduceDIte] <;> try simp only [zB])
  | (refine q0a (q2A _ o5) ?_; refine uQ 600 _ ?_; simp (maxSteps := 3000000) only [go_sem, ↓zA, ↓reduceIte, ↓reduceDIte] <;> try simp only [zB])
  | (refine q0b (q2A _ o5) ?_; refine uQ 600 _ ?_; simp (maxSteps := 3000000) only [go_sem, ↓zA, ↓reduceIte, ↓reduceDIte] <;> try simp only [zB])
  | (refine q0q (q2A _ o5) ?_; refine uQ 600 _ ?_; simp (maxSteps := 3000000) only [go_sem, ↓zA, ↓reduceIte, ↓reduceDIte] <;> try simp only [zB])
  | (refine q0a (z1g _ o11.1) ?_; refine uQ 600 _ ?_; simp (maxSteps := 3000000) only [go_sem, ↓zA, ↓reduceIte, ↓reduceDIte] <;> try simp only [zB])
  | (refine q0b (z1g _ o11.1) ?_; refine uQ 600 _ ?_; simp (maxSteps := 3000000) only [go_sem, ↓zA, ↓reduceIte, ↓reduceDIte] <;> try simp only [zB])
  | (refine q0q (z1g _ o11.1) ?_; refine uQ 600 _ ?_; simp (maxSteps := 3000000) only [go_sem, ↓zA, ↓reduceIte, ↓reduceDIte] <;> try simp only [zB])
  | (with_reducible refine And.intro ?_ ?_)
  | (with_reducible intro _))
 all_goals ((simp_all <;> (intros; omega)))
theorem z8E {p : Prin} (h : shortB p = true) : shS p := by
 simp only [shortB, Bool.and_eq_true, decide_eq_true_eq] at h
 refine ⟨by omega, fun x hx => ?_, by omega⟩
 obtain ⟨j, hj, rfl⟩ := List.getElem_of_mem hx
 have := q1u.1 h.2 j hj
 simp only [s40, decide_eq_true_eq, List.getD_eq_getElem?_getD, List.getElem?_eq_getElem hj, Option.getD_some] at this
 omega
theorem j4g {l : List Pre} (h : fewB l = true) (hr : (Ty.slice PreT).inR l) : shE l := by
 refine ⟨j4A h hr, fun x hx => ?_⟩
 simp only [fewB, Bool.and_eq_true, decide_eq_true_eq] at h
 obtain ⟨j, hj, rfl⟩ := List.getElem_of_mem hx
 have := q1u.1 h.1 j hj
 simp only [s300, decide_eq_true_eq, List.getD_eq_getElem?_getD, List.getElem?_eq_getElem hj, Option.getD_some] at this
 omega
theorem j3z {r : Req} (h : reqB r = true) (hr : ReqT.inR r) : shQ r := by
 obtain ⟨k, pre, o, c, s, f, t, w, n, pf, ad, tk⟩ := r
 obtain ⟨r1, r2, r3, r4, r5, _, _, _, r9, r10, r11, r12⟩ := hr
 simp only [reqB, Bool.and_eq_true, decide_eq_true_eq] at h
 obtain ⟨h0, h1, h2, h3, h4, h5, h6⟩ := h
 refine ⟨r1, j4g h1 r2, r3, z3q h2, z3q h3, r9, ⟨by show pf.length ≤ 32; omega, r10⟩, j4g h5 r11, by show tk.length ≤ 32; omega, fun x hx => ?_⟩
 obtain ⟨j, hj, rfl⟩ := List.getElem_of_mem hx
 have := q1u.1 h0 j hj
 have hx2 := r12 _ hx
 simp only [tk3At, tick3, Bool.and_eq_true, decide_eq_true_eq, List.getD_eq_getElem?_getD, List.getElem?_eq_getElem hj, Option.getD_some] at this
 have hn : tk[j].2.2.2.length ≤ 300 := by have := this.2; omega
 exact ⟨z8E this.1, ⟨hx2.2.1, hx2.2.2.1, Nat.le_trans hn (by decide)⟩, Nat.le_trans hn (by decide)⟩
theorem z7K {b : List UInt8} (hb : b.length ≤ 1099511627776) : ReqT.ok ((decReq b).getD ReqT.dflt) := by
 cases h : decReq b with
 | none => exact ⟨trivial, q5V, trivial, j0W, j0W, trivial, trivial, trivial, trivial, q5V, q5V, q5V⟩
 | some r =>
  unfold decReq at h
  split at h
  · generalize (kindV b 0).toNat = k at h
    unfold decRq allP at h
    cases hx : reqP k b with
    | error e' => rw [hx] at h; cases h
    | ok y =>
     obtain ⟨u, m⟩ := y
     rw [hx] at h
     have := (z7D k b u m hb hx).1
     by_cases hm : m < b.length
     · simp [hm] at h
     simp [hm] at h
     exact h.2 ▸ this
  cases h
theorem z0p (r : Req) (ho : ReqT.ok r) (hr : ReqT.inR r) (b : List UInt8) : PC Tryz.prog 3 [.agg (ReqT.cells r), .isl .u8 b] (rB true) := by
 have cf := j3I r ho
 have hsh := fun h => j3z (r := r) h hr
 have hopt : optOk r := hr.2.2.1
 have hC := fun h : reqB r = true => reqC r ho hopt (by have := (hsh h).2.2.2.2.2.2.2.2.1; omega)
 have he := fun h : reqB r = true => fun hs : sRq r = true => show PC Tryz.prog 13 [.agg (ReqT.cells r)] (.isl .u8 (rqS r)) from by
  have := q6R r (hsh h)
  rwa [z6e hs hopt] at this
 have cv := fun h => z6u r ho hopt (he h)
 have ce := fun h => show PC Tryz.prog 7 [.agg (ReqT.cells r)] (.tup [.isl .u8 (if vRq r then rqS r else []), rI (if vRq r then 0 else 2)]) from z8S (hC h)
 have cb := fun h => show PC Tryz.prog 8 [.agg (ReqT.cells r)] (.tup [.isl .u8 (if vRq r then bodW r else []), rI (if vRq r then 0 else 2)]) from j0s (hC h)
 have cm := fun h => show PC Tryz.prog 11 [.agg (ReqT.cells r)] (rB (vRq r)) from q4m (hC h)
 have cd := fun hb => z0n b hb
 have cr := fun hb => z6j b hb
 have cs := fun hb => z4c _ (z7K (b := b) hb)
 have cw := fun h => q6R r (hsh h)
 have cy := fun h => z7B r (hsh h)
 have hw : vRq r = true → rqA r = rqS r ∧ bodA r = bodW r := fun h => by
  unfold vRq at h; rw [Bool.and_eq_true] at h; exact ⟨z6e h.1 hopt, z5R h.1⟩
 have cl : PC Tryz.prog 12 [.isl .u8 (if vRq r then rqS r else []), rI (if vRq r then 0 else 2), rB (vRq r), .isl .u8 (rqA r)] (rB true) := by
  have := z7o (if vRq r then rqS r else []) (rqA r) (if vRq r then 0 else 2) (vRq r)
  cases hv : vRq r with
  | false => rw [hv] at this; simpa using this
  | true => rw [hv, (hw hv).1] at this; rw [(hw hv).1]; simpa using this
 have cl2 : PC Tryz.prog 12 [.isl .u8 (if vRq r then bodW r else []), rI (if vRq r then 0 else 2), rB (vRq r), .isl .u8 (bodA r)] (rB true) := by
  have := z7o (if vRq r then bodW r else []) (bodA r) (if vRq r then 0 else 2) (vRq r)
  cases hv : vRq r with
  | false => rw [hv] at this; simpa using this
  | true => rw [hv, (hw hv).2] at this; rw [(hw hv).2]; simpa using this
 clear he hC hsh hw hopt
 generalize (decReq b).getD ReqT.dflt = q at *
 generalize (if (decReq b).isSome then (0 : Int) else 6) = g at *
 generalize reqB r = fb at *
 generalize rqA r = w at *
 generalize rqS r = w' at *
 generalize bodA r = y at *
 generalize bodW r = y' at *
 generalize vRq r = v at *
 obtain ⟨k, pre, o, c, s, f, t, x, n, pf, ad, tk⟩ := r
 refine q0D rfl rfl ?_
 refine rQ fi3 ?_
 refine q0a cf ?_
 refine gQ ?_
 refine ⟨fun hf => ⟨fun h => q0a q9G ?_, fun hle => q0a (cv hf) ?_⟩, fun hf => q0a q9G ?_⟩
 rotate_left
 rotate_left
 · refine gQ ?_; trivial
 · refine gQ ?_; trivial
 refine gQ ?_
 refine q0a (ce hf) ?_
 refine gQ ?_
 refine q0a (cb hf) ?_
 refine gQ ?_
 refine q0a (cd (by omega)) ?_
 refine gQ ?_
 refine q0a (cr (by omega)) ?_
 refine gQ ?_
 refine q0a (cm hf) ?_
 refine gQ ?_
 refine q0a (cw hf) ?_
 refine gQ ?_
 refine q0a cl ?_
 refine gQ ?_
 refine q0a (cy hf) ?_
 refine gQ ?_
 refine q0a cl2 ?_
 refine gQ ?_
 refine q0a (cs (by omega)) ?_
 refine gQ ?_
 refine q0a (q3S _) ?_
 refine gQ ?_
 refine q0a q9G ?_
 refine gQ ?_; trivial
end Go.Proofs.YtkbbkhmffmfliaaGreatDoor
