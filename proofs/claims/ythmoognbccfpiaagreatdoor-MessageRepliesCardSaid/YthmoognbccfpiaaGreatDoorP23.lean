/- Contracts: messages: pre-authentication data, lists of numbers. -/
import Derived.Test.YthmoognbccfpiaaGreatDoorP22
import Derived.Test.YthmoognbccfpiaaGreatDoorP21
set_option linter.unusedSimpArgs false
set_option linter.unusedVariables false
set_option linter.unusedSectionVars false
namespace Go.Proofs.YthmoognbccfpiaaGreatDoor
open Go Go.Sx Go.Proofs
set_option maxRecDepth 100000
set_option maxHeartbeats 4000000
set_option linter.unusedSimpArgs false

theorem mpre_cl (b : List UInt8) (n : Nat) (hn : n ≤ b.length) (hb : b.length ≤ 1099511627776) (T : TypeId) :
 Eff Tryz.prog 155 [.agg [.ptr 0 0], .ptr 1 0] b n [.cells T [.raw (.slice none 0 0)]] (fun _ => .tup []) (fun l : List Pre => [.cells T [.isl PreT l]]) (dataP (b.drop n)) := by
 have hr := drdata_c b n hn hb
 cases hx : dataP (b.drop n) with
 | error e =>
  have hr' := effR_er hr hx
  refine pe_seal (by simp) ?_
  refine runE mixed fi155 ?_
  refine effE mixed [0] (hr') ?_
  refine effP [] (take_er_data e (dataP_ne _ _ hx)) ?_; trivial
 | ok x =>
  obtain ⟨l, q⟩ := x
  have hr' := effR_ok hr hx
  have hl16 : l.length ≤ 16 := (okP_in (okP_list okP_true 16) _ l q (by rw [List.length_drop]; omega) hx).1
  refine pe_seal (by simp) ?_
  refine runE mixed fi155 ?_
  refine effE mixed [0] (hr') ?_
  refine callI_pure (take_data l) ?_
  refine goE mixed ?_
  refine si_nilcell 1 0 PreT rfl rfl rfl ?_
  with_reducible refine sxE ?_
  refine si_loopX (ι := Nat × List SObj) (fun s => [(12, rI s.1)]) (fun s => [rdr b (n + q), .cells T [.bld (s.2.length + 3) PreT (l.take s.1).length], .cells 79 [.ptr 0 0]] ++ s.2 ++ [.row PreT (l.take s.1)]) (fun s => l.length - s.1) (fun s => s.1 ≤ l.length) (0, []) (Nat.zero_le _) rfl ?_ ?_
  · with_reducible refine sxE ?_; trivial
  rintro ⟨i, G⟩ hi
  dsimp only at hi
  have hwr : IntKind.i64.wrap ((i : Int) + 1) = ((i + 1 : Nat) : Int) := wrap_succ (by omega)
  have hln : (l.take i).length = i := List.length_take_of_le hi
  refine run_sound mixed 600 _ ?_
  simp (maxSteps := 3000000) only [hln, List.append_assoc, getA, getA0, setA, setA0, List.length_append, Nat.add_assoc, go_sem, ↓zA, ↓reduceIte, ↓reduceDIte, reduceCtorEq, Nat.reduceAdd, Nat.reduceSub, Nat.reduceLeDiff, Nat.reduceLT, Nat.reduceEqDiff, Nat.reduceBEq, Nat.reduceMul, Int.reduceToNat, Int.reduceEq, Int.reduceLT, Int.reduceLE] <;> try simp only [zB]
  refine ⟨fun hlt => ⟨⟨by omega, hlt⟩, ⟨by omega, by omega⟩, (i + 1, G ++ [.dead, .cells 135 [rI (l.getD i PreT.dflt).1, .isl .u8 (l.getD i PreT.dflt).2], .row PreT [l.getD i PreT.dflt]]), hlt, by dsimp only; omega, ?_, ?_⟩, fun hge => ?_⟩
  · have hst := take_succ_getD (d := PreT.dflt) hlt
    simp [hst, hln]
  · simp (maxSteps := 3000000) only [hwr, List.append_assoc, getA, getA0, setA, setA0, List.length_append, Nat.add_assoc, go_sem, ↓zA, ↓reduceIte, ↓reduceDIte, reduceCtorEq, Nat.reduceAdd, Nat.reduceSub, Nat.reduceLeDiff, Nat.reduceLT, Nat.reduceEqDiff, Nat.reduceBEq, Nat.reduceMul, Int.reduceToNat, Int.reduceEq, Int.reduceLT, Int.reduceLE] <;> try simp only [zB]
  · obtain rfl : i = l.length := by omega
    rw [if_neg (by omega)]
    simp only [List.take_length]
    with_reducible refine sxE ?_
    omega
theorem mpre_c (i : Nat) (hi : i ≤ 30) (b : List UInt8) (n : Nat) (hn : n ≤ b.length) (hb : b.length ≤ 1099511627776) :
 Eff Tryz.prog 86 [.agg [.ptr 0 0], rI i] b n [] (fun l : List Pre => .isl PreT l) (fun _ => []) (dfltP [] i dataP (b.drop n)) := by
 have hc : Cln [.raw (.slice none 0 0)] := cln_raw cln_nil
 cases h : nextB i (b.drop n) with
 | false =>
  rw [dfltP_no h]
  have hm := fun T => maybe_no1 155 i hi b n hn T _ hc h
  refine pe_seal (by simp) ?_
  refine runE mixed fi86 ?_
  refine effE mixed [0, 2] (hm _) ?_
  rfl
 | true =>
  rw [dfltP_in h]
  have hg := fun T => mpre_cl (takeC (b.drop n)) 0 (Nat.zero_le _) (tkC_le hb) T
  simp only [List.drop_zero] at hg
  have hm := fun T => maybe_in1 155 i hi b n hn hb T _ hc dataP inP_fits (fun l : List Pre => [.isl PreT l]) (fun v => cln_isl cln_nil) (hg T) h
  cases hx : inP (tagB i) dataP (b.drop n) with
  | error e =>
   have hm' := fun T => eff_er (hm T) hx
   refine pe_seal (by simp) ?_
   refine runE mixed fi86 ?_
   refine effP [0, 2] (hm' _) ?_; trivial
  | ok x =>
   obtain ⟨v, k⟩ := x
   have hm' := fun T => eff_ok (hm T) hx
   refine pe_seal (by simp) ?_
   refine runE mixed fi86 ?_
   refine effE mixed [0, 2] (hm' _) ?_; trivial
theorem values1_int (g : Nat) (p : PR (I64).den) (hp : FitsP p) (b : List UInt8) (n : Nat) (hn : n ≤ b.length) (hb : b.length ≤ 1099511627776) (T T2 : TypeId)
 (hok : ∀ m v q, p (b.drop m) = .ok (v, q) → (I64).ok v)
 (hg : ∀ m, m ≤ b.length → Eff Tryz.prog g [.agg [.ptr 0 0]] b m [] (fun x => rI x) (fun _ => []) (p (b.drop m))) :
 Eff Tryz.prog 233 [.agg [.ptr 0 0], .ptr 1 0, .ptr 2 0] b n [.cells T [.raw (.slice none 0 0)], .cells T2 [.fn g [] []]] (fun _ => .tup []) (fun l => [.cells T [.isl (I64) l], .cells T2 [.fn g [] []]]) (listP p 16 (b.drop n)) := by
 refine eff_of (fun _ => Nat.le_refl _) ?_
 generalize hx : listP p 16 (b.drop n) = X
 refine runE mixed fi233 ?_
 refine si_nilcell 1 0 (I64) rfl rfl rfl ?_
 with_reducible refine sxE ?_
 refine si_loopX (ι := Nat × List (I64).den × List SObj) (fun s => []) (fun s => [rdr b s.1, .cells T [.bld (s.2.2.length + 4) (I64) s.2.1.length], .cells T2 [.fn g [] []], .cells 79 [.ptr 0 0]] ++ s.2.2 ++ [.row (I64) s.2.1]) (fun s => 2 * 17 - s.2.1.length) (fun s => s.2.1.length ≤ 16 ∧ n ≤ s.1 ∧ s.1 ≤ b.length ∧ X = tailP s.2.1 (s.1 - n) (listP p (16 - s.2.1.length) (b.drop s.1))) (n, [], []) ⟨Nat.zero_le _, Nat.le_refl _, hn, ?_⟩ rfl ?_ ?_
 · rw [Nat.sub_self, tailP_id]; exact hx.symm
 · with_reducible refine sxE ?_; trivial
 rintro ⟨k, xs, G⟩ ⟨h1, h2, h3, h4⟩
 dsimp only at h1 h2 h3 h4
 have hleft := left_c b k h3
 refine goaE mixed ?_
 refine callI_eff [0] hleft rfl (by decide) ⟨rfl, rfl, trivial⟩ rfl rfl ?_
 simp only [afterO, Out.ren, SV.ren, mgA, sig, SObj.ren, SV.renL, List.cons_append, List.nil_append, List.append_assoc, List.set_cons_zero, List.set_cons_succ, List.set, List.map, List.append_nil]
 refine goaE mixed ?_
 refine ⟨fun hp0 => callI_require (fun hmo => ?_) (fun hmo => ?_), fun hp0 => ?_⟩
 · have hlt : xs.length < 16 := by have := of_decide_eq_true hmo; omega
   have hkl : k < b.length := by omega
   refine run_sound mixed 1 _ ?_
   with_reducible refine sxaE ?_
   refine si_drw [1, 2, 3] mixed ?_
   refine goaE mixed ?_
   cases hpk : p (b.drop k) with
   | error e =>
    have hg' := eff_er (hg k h3) hpk
    have hX := h4.trans (listP_bad hkl (by omega) hpk)
    rw [hX]
    refine callR_eff [0] hg' rfl (by decide) ⟨rfl, rfl, trivial⟩ rfl rfl ?_ ?_
    · simp (maxSteps := 3000000) only [mgA, sig, sameG_cons, sameG_nil, List.append_assoc, getA, getA0, setA, setA0, List.length_append, Nat.add_assoc, go_sem, ↓zA, ↓reduceIte, ↓reduceDIte, reduceCtorEq, Nat.reduceAdd, Nat.reduceSub, Nat.reduceLeDiff, Nat.reduceLT, Nat.reduceEqDiff, Nat.reduceBEq, Nat.reduceMul, Int.reduceToNat, Int.reduceEq, Int.reduceLT, Int.reduceLE] <;> try simp only [zB]
    · simp only [afterR, Out.ren, SV.ren, mgA, sig, SObj.ren, SV.renL, List.cons_append, List.nil_append, List.append_assoc, List.set_cons_zero, List.set_cons_succ, List.set, List.map, List.append_nil, effO, effH]
      with_reducible refine sxaE ?_; trivial
   | ok y =>
    obtain ⟨v, m⟩ := y
    have hg' := eff_ok (hg k h3) hpk
    have hfit := hp _ _ _ hpk
    rw [List.length_drop] at hfit
    have hX := h4.trans (listP_step hkl (by omega) hpk)
    refine callR_eff [0] hg' rfl (by decide) ⟨rfl, rfl, trivial⟩ rfl rfl ?_ ?_
    · simp (maxSteps := 3000000) only [mgA, sig, sameG_cons, sameG_nil, List.append_assoc, getA, getA0, setA, setA0, List.length_append, Nat.add_assoc, go_sem, ↓zA, ↓reduceIte, ↓reduceDIte, reduceCtorEq, Nat.reduceAdd, Nat.reduceSub, Nat.reduceLeDiff, Nat.reduceLT, Nat.reduceEqDiff, Nat.reduceBEq, Nat.reduceMul, Int.reduceToNat, Int.reduceEq, Int.reduceLT, Int.reduceLE] <;> try simp only [zB]
    · simp only [afterR, Out.ren, SV.ren, mgA, sig, SObj.ren, SV.renL, List.cons_append, List.nil_append, List.append_assoc, List.set_cons_zero, List.set_cons_succ, List.set, List.map, List.append_nil]
      refine goaE mixed ?_
      have hob := hok _ _ _ hpk
      skip
      refine ⟨⟨by omega, by omega⟩, (k + m, xs ++ [v], G ++ [.dead, .row (I64) [v]]), ⟨by simp; omega, by dsimp only; omega, by dsimp only; omega, ?_⟩, by simp; omega, ?_, ?_⟩
      · dsimp only
        rw [hX, List.length_append, List.length_singleton, Nat.sub_sub]
        congr 1
        omega
      · simp
      · with_reducible refine sxaE ?_; trivial
 · have hlt : ¬ xs.length < 16 := by have := of_decide_eq_false hmo; omega
   have hm0 : 16 - xs.length = 0 := by omega
   rw [hm0] at h4
   have hX := h4.trans (listP_full (by omega))
   rw [hX]
   simp (maxSteps := 3000000) only [effO, effH, List.append_assoc, getA, getA0, setA, setA0, List.length_append, Nat.add_assoc, go_sem, ↓zA, ↓reduceIte, ↓reduceDIte, reduceCtorEq, Nat.reduceAdd, Nat.reduceSub, Nat.reduceLeDiff, Nat.reduceLT, Nat.reduceEqDiff, Nat.reduceBEq, Nat.reduceMul, Int.reduceToNat, Int.reduceEq, Int.reduceLT, Int.reduceLE] <;> try simp only [zB]
 · have hX := h4.trans (listP_end (by omega))
   rw [hX]
   simp (maxSteps := 3000000) only [effO, effH, List.append_assoc, getA, getA0, setA, setA0, List.length_append, Nat.add_assoc, go_sem, ↓zA, ↓reduceIte, ↓reduceDIte, reduceCtorEq, Nat.reduceAdd, Nat.reduceSub, Nat.reduceLeDiff, Nat.reduceLT, Nat.reduceEqDiff, Nat.reduceBEq, Nat.reduceMul, Int.reduceToNat, Int.reduceEq, Int.reduceLT, Int.reduceLE] <;> try simp only [zB]
   rw [if_neg (by omega)]
   with_reducible refine sxE ?_
   refine ⟨congrArg (Value.int .i64) (by omega), ⟨Nat.le_refl _, by omega⟩, List.take_of_length_le (Nat.le_refl _)⟩
theorem values_int (g : Nat) (p : PR (I64).den) (hp : FitsP p) (b : List UInt8) (n : Nat) (hn : n ≤ b.length) (hb : b.length ≤ 1099511627776)
 (hok : ∀ c v q, c.length ≤ 1099511627776 → p c = .ok (v, q) → (I64).ok v)
 (hg : ∀ (c : List UInt8) m, m ≤ c.length → c.length ≤ 1099511627776 → Eff Tryz.prog g [.agg [.ptr 0 0]] c m [] (fun x => rI x) (fun _ => []) (p (c.drop m))) :
 Eff Tryz.prog 182 [.agg [.ptr 0 0], .fn g [] []] b n [] (fun l => .isl (I64) l) (fun _ => []) (inP 48 (listP p 16) (b.drop n)) := by
 have h1 := fun T T2 => values1_int g p hp (takeC (b.drop n)) 0 (Nat.zero_le _) (tkC_le hb) T T2 (fun m v q h => hok _ v q (by have := tkC_le (n := n) hb; rw [List.length_drop]; omega) h) (fun m hm => hg _ m hm (tkC_le hb))
 simp only [List.drop_zero] at h1
 have hs := fun T T2 => sequence2 233 b n hn hb T T2 [.raw (.slice none 0 0)] [.fn g [] []] (cln_raw cln_nil) (cln_fn cln_nil) (listP p 16) (listP_fits hp 16) (fun l => [.isl (I64) l]) (fun _ => [.fn g [] []]) (fun _ => cln_isl cln_nil) (fun _ => cln_fn cln_nil) (h1 T T2)
 cases hx : inP 48 (listP p 16) (b.drop n) with
 | error e =>
  have hm' := fun T T2 => eff_er (hs T T2) hx
  refine pe_seal (by simp) ?_
  refine runE mixed fi182 ?_
  refine effP [0, 3, 2] (hm' _ _) ?_; trivial
 | ok x =>
  obtain ⟨v, k⟩ := x
  have hm' := fun T T2 => eff_ok (hs T T2) hx
  refine pe_seal (by simp) ?_
  refine runE mixed fi182 ?_
  refine effE mixed [0, 3, 2] (hm' _ _) ?_; trivial
end Go.Proofs.YthmoognbccfpiaaGreatDoor

/- Contracts: reading lists that may be absent. -/
namespace Go.Proofs.YthmoognbccfpiaaGreatDoor
open Go Go.Sx Go.Proofs
set_option maxRecDepth 100000
set_option maxHeartbeats 4000000
set_option linter.unusedSimpArgs false

end Go.Proofs.YthmoognbccfpiaaGreatDoor

/- Contracts: reading a key set. -/
namespace Go.Proofs.YthmoognbccfpiaaGreatDoor
open Go Go.Sx Go.Proofs
set_option maxRecDepth 100000
set_option maxHeartbeats 4000000
set_option linter.unusedSimpArgs false

theorem bind_xe {α β : Type} {p : PR α} {f : α → PR β} {b : List UInt8} {n N : Nat} {X : Except Nat (β × Nat)} {e : Nat} (hX : X = shiftP N (bindP p f (b.drop n))) (h : p (b.drop n) = .error e) : X = .error e := by
 rw [hX, bindP_er h]; rfl
theorem bind_xo {α β : Type} {p : PR α} {f : α → PR β} {b : List UInt8} {n N : Nat} {X : Except Nat (β × Nat)} {v : α} {k : Nat} (hX : X = shiftP N (bindP p f (b.drop n))) (h : p (b.drop n) = .ok (v, k)) : X = shiftP (N + k) (f v (b.drop (n + k))) := by
 rw [hX, bindP_st h]
 cases f v (b.drop (n + k)) with
 | error e => rfl
 | ok y => obtain ⟨u, m⟩ := y; simp only [shiftP, Nat.add_assoc]
theorem bind_x0 {α : Type} {p : PR α} {b : List UInt8} {n : Nat} : p (b.drop n) = shiftP 0 (p (b.drop n)) := by
 cases p (b.drop n) with
 | error e => rfl
 | ok y => obtain ⟨u, m⟩ := y; simp only [shiftP, Nat.zero_add]
end Go.Proofs.YthmoognbccfpiaaGreatDoor

/- Contracts: messages: reading the body of a request. -/
namespace Go.Proofs.YthmoognbccfpiaaGreatDoor
open Go Go.Sx Go.Proofs
set_option maxRecDepth 100000
set_option maxHeartbeats 4000000
set_option linter.unusedSimpArgs false

def visA (l : List UInt8) : Bool := allN l.length fun j => decide (33 ≤ ((l.getD j Ty.u8.dflt).toNat : Int)) && decide (((l.getD j Ty.u8.dflt).toNat : Int) ≤ 126)
def vAdr (a : Pre) : Bool := (decide (a.1 = 2) && decide ((a.2.length : Int) = 4)) || ((decide (a.1 = 20) && (decide (1 ≤ (a.2.length : Int)) && (decide ((a.2.length : Int) ≤ 16) && visA a.2))) || (decide (a.1 = 24) && decide ((a.2.length : Int) = 16)))
def adrAt (l : List Pre) (j : Nat) : Bool := vAdr (l.getD j PreT.dflt)
def vAdrs (l : List Pre) : Bool := decide ((l.length : Int) ≤ 16) && allN l.length (adrAt l)
def adrP : PR (List Pre) := fun r => chkP vAdrs (dataP r)
def vSeal (s : Key) : Bool := decide (keyLen s.1 ≠ 0) && (mIn 0 65535 s.2.1 && decide ((s.2.2.length : Int) ≤ 65536))
def vTick (t : Tick) : Bool := vPrin t.1 && vSeal t.2
def tickIn : PR Tick := bindP (needP 0 (cstP 5)) fun _ => bindP (needP 1 nameP) fun s => bindP (needP 2 keyP) fun e => retP ((s, e) : Tick)
def tickP : PR Tick := fun r => chkP vTick (inP (appB 1) (inP 48 tickIn) r)
def ticksP : PR (List Tick) := inP 48 (listP tickP 16)
def cliP (k : Int) : PR Prin := if k = 10 then needP 1 nameP else retP (([], ⟨#[]⟩) : Prin)
def bodP (k : Int) (pre : List Pre) : PR Req := bindP (needP 0 bitsP) fun o => bindP (cliP k) fun c => bindP (needP 2 nameP) fun s => bindP (dfltP (0 : Nat) 3 timeP) fun f => bindP (needP 4 timeP) fun t => bindP (dfltP (0 : Nat) 5 timeP) fun w => bindP (needP 6 intP) fun n =>
 bindP (needP 7 (inP 48 (listP intP 16))) fun pf => bindP (dfltP [] 8 adrP) fun a => bindP (dfltP [] 9 ticksP) fun tk => retP ((k, pre, (o : Int), c, s, (f : Int), (t : Int), (w : Int), n, pf, a, tk) : Req)
@[go_sem] abbrev rqO (cs : List SV) : SObj := .cells 58 cs
@[go_sem] abbrev mU (o : Int) : SV := .raw (.int .u32 o)
theorem mint1_c (b : List UInt8) (n : Nat) (hn : n ≤ b.length) (hb : b.length ≤ 1099511627776) :
 Eff Tryz.prog 183 [.agg [.ptr 0 0]] b n [] (fun x => rI x) (fun _ => []) (intP (b.drop n)) := by
 cases hx : intP (b.drop n) with
 | error e =>
  have hr := rint_er b n hn hb hx
  refine pe_seal (by simp) ?_
  refine runE mixed fi183 ?_
  refine effE mixed [0] (hr) ?_
  refine effP [] (take_er_int _ e (rdP_ne hx)) ?_; trivial
 | ok x =>
  obtain ⟨v, k⟩ := x
  have hr := rint_ok b n hn hb hx
  refine pe_seal (by simp) ?_
  refine runE mixed fi183 ?_
  refine effE mixed [0] (hr) ?_
  refine callI_pure (take_int _) ?_
  refine goE mixed ?_; trivial
def numsP : PR (List Int) := inP 48 (listP intP 16)
theorem body1_c (k : Int) (pre : List Pre) (o : Int) (c : Prin) (s : Prin) (f t w m : Int) (b : List UInt8) (n : Nat) (hn : n ≤ b.length) (hb : b.length ≤ 1099511627776) (T : TypeId) :
 Eff Tryz.prog 181 [.agg [.ptr 0 0], .ptr 1 0] b n [.cells T [.ptr 2 0], rqO [rI k, .isl PreT pre, mU o, .isl .str c.1, rS c.2, .isl .str s.1, rS s.2, rI f, rI t, rI w, rI m, .raw (.slice none 0 0), .raw (.slice none 0 0), .raw (.slice none 0 0)]] (fun _ => .tup []) (fun l : List Int => [.cells T [.ptr 2 0], rqO [rI k, .isl PreT pre, mU o, .isl .str c.1, rS c.2, .isl .str s.1, rS s.2, rI f, rI t, rI w, rI m, .isl I64 l, .raw (.slice none 0 0), .raw (.slice none 0 0)]]) (numsP (b.drop n)) := by
 have hv := values_int 183 intP rdP_fits b n hn hb (fun _ _ _ _ _ => trivial) (fun c m hm hc => mint1_c c m hm hc)
 change Eff _ _ _ _ _ _ _ _ (numsP (b.drop n)) at hv
 refine eff_of (fun _ => Nat.le_refl _) ?_
 refine vc_fi fi181 (run_sound mixed 4 _ ?_)
 with_reducible refine sxE ?_
 refine si_drw [1, 2, 3] mixed ?_
 refine goE mixed ?_
 cases hx : numsP (b.drop n) with
 | error e =>
  have hv' := eff_er hv hx
  refine callR_eff [0] hv' rfl (by decide) ⟨rfl, rfl, trivial⟩ rfl rfl ?_ ?_
  · simp (maxSteps := 3000000) only [mgA, sig, sameG_cons, sameG_nil, go_sem, ↓zA, ↓reduceIte, ↓reduceDIte, reduceCtorEq, Nat.reduceAdd, Nat.reduceSub, Nat.reduceLeDiff, Nat.reduceLT, Nat.reduceEqDiff, Nat.reduceBEq, Nat.reduceMul, Int.reduceToNat, Int.reduceEq, Int.reduceLT, Int.reduceLE] <;> try simp only [zB]
  · simp only [afterR, Out.ren, SV.ren, mgA, sig, SObj.ren, SV.renL, List.cons_append, List.nil_append, List.append_assoc, List.set_cons_zero, List.set_cons_succ, List.set, List.map, List.append_nil]
    with_reducible refine sxE ?_; trivial
 | ok x =>
  obtain ⟨l, q⟩ := x
  have hv' := eff_ok hv hx
  refine callR_eff [0] hv' rfl (by decide) ⟨rfl, rfl, trivial⟩ rfl rfl ?_ ?_
  · simp (maxSteps := 3000000) only [mgA, sig, sameG_cons, sameG_nil, go_sem, ↓zA, ↓reduceIte, ↓reduceDIte, reduceCtorEq, Nat.reduceAdd, Nat.reduceSub, Nat.reduceLeDiff, Nat.reduceLT, Nat.reduceEqDiff, Nat.reduceBEq, Nat.reduceMul, Int.reduceToNat, Int.reduceEq, Int.reduceLT, Int.reduceLE] <;> try simp only [zB]
  · simp only [afterR, Out.ren, SV.ren, mgA, sig, SObj.ren, SV.renL, List.cons_append, List.nil_append, List.append_assoc, List.set_cons_zero, List.set_cons_succ, List.set, List.map, List.append_nil]
    refine goE mixed ?_; trivial
theorem body1_z (k : Int) (pre : List Pre) (o : Int)  (s : Prin) (f t w m : Int) (b : List UInt8) (n : Nat) (hn : n ≤ b.length) (hb : b.length ≤ 1099511627776) (T : TypeId) :
 Eff Tryz.prog 181 [.agg [.ptr 0 0], .ptr 1 0] b n [.cells T [.ptr 2 0], rqO [rI k, .isl PreT pre, mU o, .raw (.slice none 0 0), rS ⟨#[]⟩, .isl .str s.1, rS s.2, rI f, rI t, rI w, rI m, .raw (.slice none 0 0), .raw (.slice none 0 0), .raw (.slice none 0 0)]] (fun _ => .tup []) (fun l : List Int => [.cells T [.ptr 2 0], rqO [rI k, .isl PreT pre, mU o, .raw (.slice none 0 0), rS ⟨#[]⟩, .isl .str s.1, rS s.2, rI f, rI t, rI w, rI m, .isl I64 l, .raw (.slice none 0 0), .raw (.slice none 0 0)]]) (numsP (b.drop n)) := by
 have hv := values_int 183 intP rdP_fits b n hn hb (fun _ _ _ _ _ => trivial) (fun c m hm hc => mint1_c c m hm hc)
 change Eff _ _ _ _ _ _ _ _ (numsP (b.drop n)) at hv
 refine eff_of (fun _ => Nat.le_refl _) ?_
 refine vc_fi fi181 (run_sound mixed 4 _ ?_)
 with_reducible refine sxE ?_
 refine si_drw [1, 2, 3] mixed ?_
 refine goE mixed ?_
 cases hx : numsP (b.drop n) with
 | error e =>
  have hv' := eff_er hv hx
  refine callR_eff [0] hv' rfl (by decide) ⟨rfl, rfl, trivial⟩ rfl rfl ?_ ?_
  · simp (maxSteps := 3000000) only [mgA, sig, sameG_cons, sameG_nil, go_sem, ↓zA, ↓reduceIte, ↓reduceDIte, reduceCtorEq, Nat.reduceAdd, Nat.reduceSub, Nat.reduceLeDiff, Nat.reduceLT, Nat.reduceEqDiff, Nat.reduceBEq, Nat.reduceMul, Int.reduceToNat, Int.reduceEq, Int.reduceLT, Int.reduceLE] <;> try simp only [zB]
  · simp only [afterR, Out.ren, SV.ren, mgA, sig, SObj.ren, SV.renL, List.cons_append, List.nil_append, List.append_assoc, List.set_cons_zero, List.set_cons_succ, List.set, List.map, List.append_nil]
    with_reducible refine sxE ?_; trivial
 | ok x =>
  obtain ⟨l, q⟩ := x
  have hv' := eff_ok hv hx
  refine callR_eff [0] hv' rfl (by decide) ⟨rfl, rfl, trivial⟩ rfl rfl ?_ ?_
  · simp (maxSteps := 3000000) only [mgA, sig, sameG_cons, sameG_nil, go_sem, ↓zA, ↓reduceIte, ↓reduceDIte, reduceCtorEq, Nat.reduceAdd, Nat.reduceSub, Nat.reduceLeDiff, Nat.reduceLT, Nat.reduceEqDiff, Nat.reduceBEq, Nat.reduceMul, Int.reduceToNat, Int.reduceEq, Int.reduceLT, Int.reduceLE] <;> try simp only [zB]
  · simp only [afterR, Out.ren, SV.ren, mgA, sig, SObj.ren, SV.renL, List.cons_append, List.nil_append, List.append_assoc, List.set_cons_zero, List.set_cons_succ, List.set, List.map, List.append_nil]
    refine goE mixed ?_; trivial
theorem maddr_no (i : Nat) (hi : i ≤ 30) (b : List UInt8) (n : Nat) (hn : n ≤ b.length) (h : nextB i (b.drop n) = false) :
 PE Tryz.prog 184 [.agg [.ptr 0 0], rI i] [rdr b n] (.ret (.isl PreT [])) [rdr b n] := by
 have hc : Cln [.raw (.slice none 0 0)] := cln_raw cln_nil
 have hm := fun T => maybe_no1 234 i hi b n hn T _ hc h
 refine pe_seal (by simp) ?_
 refine runE mixed fi184 ?_
 refine effE mixed [0, 2] (hm _) ?_; trivial
theorem mbody_c (k : Int) (pre : List Pre) (b : List UInt8) (n : Nat) (hn : n ≤ b.length) (hb : b.length ≤ 1099511627776)
 (hA : ∀ q, q ≤ b.length → nextB 8 (b.drop q) = true → Eff Tryz.prog 184 [.agg [.ptr 0 0], rI 8] b q [] (fun l : List Pre => .isl PreT l) (fun _ => []) (inP (tagB 8) adrP (b.drop q)))
 (hTc : ∀ (o : Int) (c s : Prin) (f t w m : Int) (pf : List Int) (ad : List Pre) (q : Nat), q ≤ b.length → nextB 9 (b.drop q) = true → Eff Tryz.prog 154 [.agg [.ptr 0 0], rI 9, .fn 185 [] [.ptr 1 0]] b q [.cells 157 [.ptr 2 0], rqO [rI k, .isl PreT pre, mU o, .isl .str c.1, rS c.2, .isl .str s.1, rS s.2, rI f, rI t, rI w, rI m, .isl I64 pf, .isl PreT ad, .raw (.slice none 0 0)]] (fun _ => rB true) (fun l : List Tick => [.cells 157 [.ptr 2 0], rqO [rI k, .isl PreT pre, mU o, .isl .str c.1, rS c.2, .isl .str s.1, rS s.2, rI f, rI t, rI w, rI m, .isl I64 pf, .isl PreT ad, .isl TickT l]]) (inP (tagB 9) ticksP (b.drop q)))
 (hTz : ∀ (o : Int) (s : Prin) (f t w m : Int) (pf : List Int) (ad : List Pre) (q : Nat), q ≤ b.length → nextB 9 (b.drop q) = true → Eff Tryz.prog 154 [.agg [.ptr 0 0], rI 9, .fn 185 [] [.ptr 1 0]] b q [.cells 157 [.ptr 2 0], rqO [rI k, .isl PreT pre, mU o, .raw (.slice none 0 0), rS ⟨#[]⟩, .isl .str s.1, rS s.2, rI f, rI t, rI w, rI m, .isl I64 pf, .isl PreT ad, .raw (.slice none 0 0)]] (fun _ => rB true) (fun l : List Tick => [.cells 157 [.ptr 2 0], rqO [rI k, .isl PreT pre, mU o, .raw (.slice none 0 0), rS ⟨#[]⟩, .isl .str s.1, rS s.2, rI f, rI t, rI w, rI m, .isl I64 pf, .isl PreT ad, .isl TickT l]]) (inP (tagB 9) ticksP (b.drop q))) :
 Eff Tryz.prog 132 [.agg [.ptr 0 0], .ptr 1 0] b n [rqO [rI k, .isl PreT pre, .raw (.int .u32 0), .raw (.slice none 0 0), rS ⟨#[]⟩, .raw (.slice none 0 0), rS ⟨#[]⟩, rI 0, rI 0, rI 0, rI 0, .raw (.slice none 0 0), .raw (.slice none 0 0), .raw (.slice none 0 0)]] (fun _ => .tup []) (fun r => [rqO (ReqT.cells r)]) (bodP k pre (b.drop n)) := by
 refine eff_of (fun _ => Nat.le_refl _) ?_
 obtain ⟨X, hX0⟩ : ∃ X, X = bodP k pre (b.drop n) := ⟨_, rfl⟩
 rw [← hX0]
 have hX := hX0.trans bind_x0
 clear hX0
 unfold bodP at hX
 have hA' : ∀ q, q ≤ b.length → Eff Tryz.prog 184 [.agg [.ptr 0 0], rI 8] b q [] (fun l : List Pre => .isl PreT l) (fun _ => []) (dfltP [] 8 adrP (b.drop q)) := fun q hq => by
  cases h8 : nextB 8 (b.drop q) with
  | false => rw [dfltP_no h8]; exact maddr_no 8 (by omega) b q hq h8
  | true => rw [dfltP_in h8]; exact hA q hq h8
 clear hA
 refine vc_fi fi132 (run_sound mixed 6 _ ?_)
 with_reducible refine sxE ?_
 refine si_drw [1, 2, 3] mixed ?_
 refine goE mixed ?_
 have c1 := mrbits_c 0 (by omega) b (n) hn hb
 rcases h1 : needP 0 bitsP (b.drop (n)) with e | ⟨v1, k1⟩
 · have c1' := eff_er c1 h1
   obtain rfl := bind_xe hX h1
   refine callR_eff [0] c1' rfl (by decide) ⟨rfl, rfl, trivial⟩ rfl rfl ?_ ?_
   · simp (maxSteps := 3000000) only [mgA, sig, sameG_cons, sameG_nil, go_sem, ↓zA, ↓reduceIte, ↓reduceDIte, reduceCtorEq, Nat.reduceAdd, Nat.reduceSub, Nat.reduceLeDiff, Nat.reduceLT, Nat.reduceEqDiff, Nat.reduceBEq, Nat.reduceMul, Int.reduceToNat, Int.reduceEq, Int.reduceLT, Int.reduceLE] <;> try simp only [zB]
   · simp only [afterR, Out.ren, SV.ren, mgA, sig, SObj.ren, SV.renL, List.cons_append, List.nil_append, List.append_assoc, List.set_cons_zero, List.set_cons_succ, List.set, List.map, List.append_nil]
     with_reducible refine sxE ?_; trivial
 replace hX := bind_xo hX h1
 have c1' := eff_ok c1 h1
 have f1 := fits_at needP_fits hn h1
 refine callR_eff [0] c1' rfl (by decide) ⟨rfl, rfl, trivial⟩ rfl rfl ?_ ?_
 · simp (maxSteps := 3000000) only [mgA, sig, sameG_cons, sameG_nil, go_sem, ↓zA, ↓reduceIte, ↓reduceDIte, reduceCtorEq, Nat.reduceAdd, Nat.reduceSub, Nat.reduceLeDiff, Nat.reduceLT, Nat.reduceEqDiff, Nat.reduceBEq, Nat.reduceMul, Int.reduceToNat, Int.reduceEq, Int.reduceLT, Int.reduceLE] <;> try simp only [zB]
 simp only [afterR, Out.ren, SV.ren, mgA, sig, SObj.ren, SV.renL, List.cons_append, List.nil_append, List.append_assoc, List.set_cons_zero, List.set_cons_succ, List.set, List.map, List.append_nil]
 refine run_sound mixed 5 _ ?_
 with_reducible refine sxE ?_
 by_cases hk : k = 10
 · have hcl : cliP k = needP 1 nameP := if_pos hk
   rw [hcl] at hX
   refine run_sound mixed 9 _ ?_
   with_reducible refine sxE ?_
   refine ⟨fun _ => ?_, fun h => absurd hk h⟩
   refine si_drw [1, 2, 3] mixed ?_
   refine goE mixed ?_
   have c2 := mrprin_c 1 (by omega) b (n + k1) f1 hb
   rcases h2 : needP 1 nameP (b.drop (n + k1)) with e | ⟨v2, k2⟩
   · have c2' := eff_er c2 h2
     obtain rfl := bind_xe hX h2
     refine callR_eff [0] c2' rfl (by decide) ⟨rfl, rfl, trivial⟩ rfl rfl ?_ ?_
     · simp (maxSteps := 3000000) only [mgA, sig, sameG_cons, sameG_nil, go_sem, ↓zA, ↓reduceIte, ↓reduceDIte, reduceCtorEq, Nat.reduceAdd, Nat.reduceSub, Nat.reduceLeDiff, Nat.reduceLT, Nat.reduceEqDiff, Nat.reduceBEq, Nat.reduceMul, Int.reduceToNat, Int.reduceEq, Int.reduceLT, Int.reduceLE] <;> try simp only [zB]
     · simp only [afterR, Out.ren, SV.ren, mgA, sig, SObj.ren, SV.renL, List.cons_append, List.nil_append, List.append_assoc, List.set_cons_zero, List.set_cons_succ, List.set, List.map, List.append_nil]
       with_reducible refine sxE ?_; trivial
   replace hX := bind_xo hX h2
   have c2' := eff_ok c2 h2
   have f2 := fits_at needP_fits f1 h2
   refine callR_eff [0] c2' rfl (by decide) ⟨rfl, rfl, trivial⟩ rfl rfl ?_ ?_
   · simp (maxSteps := 3000000) only [mgA, sig, sameG_cons, sameG_nil, go_sem, ↓zA, ↓reduceIte, ↓reduceDIte, reduceCtorEq, Nat.reduceAdd, Nat.reduceSub, Nat.reduceLeDiff, Nat.reduceLT, Nat.reduceEqDiff, Nat.reduceBEq, Nat.reduceMul, Int.reduceToNat, Int.reduceEq, Int.reduceLT, Int.reduceLE] <;> try simp only [zB]
   simp only [afterR, Out.ren, SV.ren, mgA, sig, SObj.ren, SV.renL, List.cons_append, List.nil_append, List.append_assoc, List.set_cons_zero, List.set_cons_succ, List.set, List.map, List.append_nil]
   refine run_sound mixed 5 _ ?_
   with_reducible refine sxE ?_
   refine si_drw [1, 2, 3] mixed ?_
   refine goE mixed ?_
   have c3 := mrprin_c 2 (by omega) b (n + k1 + k2) f2 hb
   rcases h3 : needP 2 nameP (b.drop (n + k1 + k2)) with e | ⟨v3, k3⟩
   · have c3' := eff_er c3 h3
     obtain rfl := bind_xe hX h3
     refine callR_eff [0] c3' rfl (by decide) ⟨rfl, rfl, trivial⟩ rfl rfl ?_ ?_
     · simp (maxSteps := 3000000) only [mgA, sig, sameG_cons, sameG_nil, go_sem, ↓zA, ↓reduceIte, ↓reduceDIte, reduceCtorEq, Nat.reduceAdd, Nat.reduceSub, Nat.reduceLeDiff, Nat.reduceLT, Nat.reduceEqDiff, Nat.reduceBEq, Nat.reduceMul, Int.reduceToNat, Int.reduceEq, Int.reduceLT, Int.reduceLE] <;> try simp only [zB]
     · simp only [afterR, Out.ren, SV.ren, mgA, sig, SObj.ren, SV.renL, List.cons_append, List.nil_append, List.append_assoc, List.set_cons_zero, List.set_cons_succ, List.set, List.map, List.append_nil]
       with_reducible refine sxE ?_; trivial
   replace hX := bind_xo hX h3
   have c3' := eff_ok c3 h3
   have f3 := fits_at needP_fits f2 h3
   refine callR_eff [0] c3' rfl (by decide) ⟨rfl, rfl, trivial⟩ rfl rfl ?_ ?_
   · simp (maxSteps := 3000000) only [mgA, sig, sameG_cons, sameG_nil, go_sem, ↓zA, ↓reduceIte, ↓reduceDIte, reduceCtorEq, Nat.reduceAdd, Nat.reduceSub, Nat.reduceLeDiff, Nat.reduceLT, Nat.reduceEqDiff, Nat.reduceBEq, Nat.reduceMul, Int.reduceToNat, Int.reduceEq, Int.reduceLT, Int.reduceLE] <;> try simp only [zB]
   simp only [afterR, Out.ren, SV.ren, mgA, sig, SObj.ren, SV.renL, List.cons_append, List.nil_append, List.append_assoc, List.set_cons_zero, List.set_cons_succ, List.set, List.map, List.append_nil]
   refine run_sound mixed 5 _ ?_
   with_reducible refine sxE ?_
   refine si_drw [1, 2, 3] mixed ?_
   refine goE mixed ?_
   have c4 := mmtime_c 3 (by omega) b (n + k1 + k2 + k3) f3 hb
   rcases h4 : dfltP (0 : Nat) 3 timeP (b.drop (n + k1 + k2 + k3)) with e | ⟨v4, k4⟩
   · have c4' := eff_er c4 h4
     obtain rfl := bind_xe hX h4
     refine callR_eff [0] c4' rfl (by decide) ⟨rfl, rfl, trivial⟩ rfl rfl ?_ ?_
     · simp (maxSteps := 3000000) only [mgA, sig, sameG_cons, sameG_nil, go_sem, ↓zA, ↓reduceIte, ↓reduceDIte, reduceCtorEq, Nat.reduceAdd, Nat.reduceSub, Nat.reduceLeDiff, Nat.reduceLT, Nat.reduceEqDiff, Nat.reduceBEq, Nat.reduceMul, Int.reduceToNat, Int.reduceEq, Int.reduceLT, Int.reduceLE] <;> try simp only [zB]
     · simp only [afterR, Out.ren, SV.ren, mgA, sig, SObj.ren, SV.renL, List.cons_append, List.nil_append, List.append_assoc, List.set_cons_zero, List.set_cons_succ, List.set, List.map, List.append_nil]
       with_reducible refine sxE ?_; trivial
   replace hX := bind_xo hX h4
   have c4' := eff_ok c4 h4
   have f4 := fits_at dfltP_fits f3 h4
   refine callR_eff [0] c4' rfl (by decide) ⟨rfl, rfl, trivial⟩ rfl rfl ?_ ?_
   · simp (maxSteps := 3000000) only [mgA, sig, sameG_cons, sameG_nil, go_sem, ↓zA, ↓reduceIte, ↓reduceDIte, reduceCtorEq, Nat.reduceAdd, Nat.reduceSub, Nat.reduceLeDiff, Nat.reduceLT, Nat.reduceEqDiff, Nat.reduceBEq, Nat.reduceMul, Int.reduceToNat, Int.reduceEq, Int.reduceLT, Int.reduceLE] <;> try simp only [zB]
   simp only [afterR, Out.ren, SV.ren, mgA, sig, SObj.ren, SV.renL, List.cons_append, List.nil_append, List.append_assoc, List.set_cons_zero, List.set_cons_succ, List.set, List.map, List.append_nil]
   refine run_sound mixed 5 _ ?_
   with_reducible refine sxE ?_
   refine si_drw [1, 2, 3] mixed ?_
   refine goE mixed ?_
   have c5 := mrtime_c 4 (by omega) b (n + k1 + k2 + k3 + k4) f4 hb
   rcases h5 : needP 4 timeP (b.drop (n + k1 + k2 + k3 + k4)) with e | ⟨v5, k5⟩
   · have c5' := eff_er c5 h5
     obtain rfl := bind_xe hX h5
     refine callR_eff [0] c5' rfl (by decide) ⟨rfl, rfl, trivial⟩ rfl rfl ?_ ?_
     · simp (maxSteps := 3000000) only [mgA, sig, sameG_cons, sameG_nil, go_sem, ↓zA, ↓reduceIte, ↓reduceDIte, reduceCtorEq, Nat.reduceAdd, Nat.reduceSub, Nat.reduceLeDiff, Nat.reduceLT, Nat.reduceEqDiff, Nat.reduceBEq, Nat.reduceMul, Int.reduceToNat, Int.reduceEq, Int.reduceLT, Int.reduceLE] <;> try simp only [zB]
     · simp only [afterR, Out.ren, SV.ren, mgA, sig, SObj.ren, SV.renL, List.cons_append, List.nil_append, List.append_assoc, List.set_cons_zero, List.set_cons_succ, List.set, List.map, List.append_nil]
       with_reducible refine sxE ?_; trivial
   replace hX := bind_xo hX h5
   have c5' := eff_ok c5 h5
   have f5 := fits_at needP_fits f4 h5
   refine callR_eff [0] c5' rfl (by decide) ⟨rfl, rfl, trivial⟩ rfl rfl ?_ ?_
   · simp (maxSteps := 3000000) only [mgA, sig, sameG_cons, sameG_nil, go_sem, ↓zA, ↓reduceIte, ↓reduceDIte, reduceCtorEq, Nat.reduceAdd, Nat.reduceSub, Nat.reduceLeDiff, Nat.reduceLT, Nat.reduceEqDiff, Nat.reduceBEq, Nat.reduceMul, Int.reduceToNat, Int.reduceEq, Int.reduceLT, Int.reduceLE] <;> try simp only [zB]
   simp only [afterR, Out.ren, SV.ren, mgA, sig, SObj.ren, SV.renL, List.cons_append, List.nil_append, List.append_assoc, List.set_cons_zero, List.set_cons_succ, List.set, List.map, List.append_nil]
   refine run_sound mixed 5 _ ?_
   with_reducible refine sxE ?_
   refine si_drw [1, 2, 3] mixed ?_
   refine goE mixed ?_
   have c6 := mmtime_c 5 (by omega) b (n + k1 + k2 + k3 + k4 + k5) f5 hb
   rcases h6 : dfltP (0 : Nat) 5 timeP (b.drop (n + k1 + k2 + k3 + k4 + k5)) with e | ⟨v6, k6⟩
   · have c6' := eff_er c6 h6
     obtain rfl := bind_xe hX h6
     refine callR_eff [0] c6' rfl (by decide) ⟨rfl, rfl, trivial⟩ rfl rfl ?_ ?_
     · simp (maxSteps := 3000000) only [mgA, sig, sameG_cons, sameG_nil, go_sem, ↓zA, ↓reduceIte, ↓reduceDIte, reduceCtorEq, Nat.reduceAdd, Nat.reduceSub, Nat.reduceLeDiff, Nat.reduceLT, Nat.reduceEqDiff, Nat.reduceBEq, Nat.reduceMul, Int.reduceToNat, Int.reduceEq, Int.reduceLT, Int.reduceLE] <;> try simp only [zB]
     · simp only [afterR, Out.ren, SV.ren, mgA, sig, SObj.ren, SV.renL, List.cons_append, List.nil_append, List.append_assoc, List.set_cons_zero, List.set_cons_succ, List.set, List.map, List.append_nil]
       with_reducible refine sxE ?_; trivial
   replace hX := bind_xo hX h6
   have c6' := eff_ok c6 h6
   have f6 := fits_at dfltP_fits f5 h6
   refine callR_eff [0] c6' rfl (by decide) ⟨rfl, rfl, trivial⟩ rfl rfl ?_ ?_
   · simp (maxSteps := 3000000) only [mgA, sig, sameG_cons, sameG_nil, go_sem, ↓zA, ↓reduceIte, ↓reduceDIte, reduceCtorEq, Nat.reduceAdd, Nat.reduceSub, Nat.reduceLeDiff, Nat.reduceLT, Nat.reduceEqDiff, Nat.reduceBEq, Nat.reduceMul, Int.reduceToNat, Int.reduceEq, Int.reduceLT, Int.reduceLE] <;> try simp only [zB]
   simp only [afterR, Out.ren, SV.ren, mgA, sig, SObj.ren, SV.renL, List.cons_append, List.nil_append, List.append_assoc, List.set_cons_zero, List.set_cons_succ, List.set, List.map, List.append_nil]
   refine run_sound mixed 5 _ ?_
   with_reducible refine sxE ?_
   refine si_drw [1, 2, 3] mixed ?_
   refine goE mixed ?_
   have c7 := mrint_c 6 (by omega) b (n + k1 + k2 + k3 + k4 + k5 + k6) f6 hb
   rcases h7 : needP 6 intP (b.drop (n + k1 + k2 + k3 + k4 + k5 + k6)) with e | ⟨v7, k7⟩
   · have c7' := eff_er c7 h7
     obtain rfl := bind_xe hX h7
     refine callR_eff [0] c7' rfl (by decide) ⟨rfl, rfl, trivial⟩ rfl rfl ?_ ?_
     · simp (maxSteps := 3000000) only [mgA, sig, sameG_cons, sameG_nil, go_sem, ↓zA, ↓reduceIte, ↓reduceDIte, reduceCtorEq, Nat.reduceAdd, Nat.reduceSub, Nat.reduceLeDiff, Nat.reduceLT, Nat.reduceEqDiff, Nat.reduceBEq, Nat.reduceMul, Int.reduceToNat, Int.reduceEq, Int.reduceLT, Int.reduceLE] <;> try simp only [zB]
     · simp only [afterR, Out.ren, SV.ren, mgA, sig, SObj.ren, SV.renL, List.cons_append, List.nil_append, List.append_assoc, List.set_cons_zero, List.set_cons_succ, List.set, List.map, List.append_nil]
       with_reducible refine sxE ?_; trivial
   replace hX := bind_xo hX h7
   have c7' := eff_ok c7 h7
   have f7 := fits_at needP_fits f6 h7
   refine callR_eff [0] c7' rfl (by decide) ⟨rfl, rfl, trivial⟩ rfl rfl ?_ ?_
   · simp (maxSteps := 3000000) only [mgA, sig, sameG_cons, sameG_nil, go_sem, ↓zA, ↓reduceIte, ↓reduceDIte, reduceCtorEq, Nat.reduceAdd, Nat.reduceSub, Nat.reduceLeDiff, Nat.reduceLT, Nat.reduceEqDiff, Nat.reduceBEq, Nat.reduceMul, Int.reduceToNat, Int.reduceEq, Int.reduceLT, Int.reduceLE] <;> try simp only [zB]
   simp only [afterR, Out.ren, SV.ren, mgA, sig, SObj.ren, SV.renL, List.cons_append, List.nil_append, List.append_assoc, List.set_cons_zero, List.set_cons_succ, List.set, List.map, List.append_nil]
   refine run_sound mixed 5 _ ?_
   with_reducible refine sxE ?_
   refine goE mixed ?_
   have c8 := needp 181 7 (by omega) b (n + k1 + k2 + k3 + k4 + k5 + k6 + k7) f7 hb 157 58 _ (cln_raw (cln_isl (cln_raw (cln_isl (cln_raw (cln_isl (cln_raw (cln_raw (cln_raw (cln_raw (cln_raw (cln_raw (cln_raw (cln_raw cln_nil)))))))))))))) numsP inP_fits _ (fun l => (cln_raw (cln_isl (cln_raw (cln_isl (cln_raw (cln_isl (cln_raw (cln_raw (cln_raw (cln_raw (cln_raw (cln_isl (cln_raw (cln_raw cln_nil))))))))))))))) (body1_c k pre v1 v2 v3 v4 v5 v6 v7 (takeC (b.drop _)) 0 (Nat.zero_le _) (tkC_le hb) _)
   rcases h8 : needP 7 numsP (b.drop (n + k1 + k2 + k3 + k4 + k5 + k6 + k7)) with e | ⟨v8, k8⟩
   · have c8' := eff_er c8 h8
     obtain rfl := bind_xe hX h8
     refine effP [0, 3, 1] (c8') ?_; trivial
   replace hX := bind_xo hX h8
   have c8' := eff_ok c8 h8
   have f8 := fits_at needP_fits f7 h8
   refine callI_eff [0, 3, 1] (c8') rfl (by decide) (by repeat first | exact trivial | exact rfl | refine And.intro ?_ ?_) rfl rfl ?_
   simp only [afterO, Out.ren, SV.ren, mgA, sig, SObj.ren, SV.renL, List.set, List.map, List.append_nil]
   refine run_sound mixed 2 _ ?_
   with_reducible refine sxE ?_
   refine si_drw [1, 2, 3] mixed ?_
   refine goE mixed ?_
   have c9 := hA' (n + k1 + k2 + k3 + k4 + k5 + k6 + k7 + k8) f8
   rcases h9 : dfltP [] 8 adrP (b.drop (n + k1 + k2 + k3 + k4 + k5 + k6 + k7 + k8)) with e | ⟨v9, k9⟩
   · have c9' := eff_er c9 h9
     obtain rfl := bind_xe hX h9
     refine callR_eff [0] c9' rfl (by decide) ⟨rfl, rfl, trivial⟩ rfl rfl ?_ ?_
     · simp (maxSteps := 3000000) only [mgA, sig, sameG_cons, sameG_nil, go_sem, ↓zA, ↓reduceIte, ↓reduceDIte, reduceCtorEq, Nat.reduceAdd, Nat.reduceSub, Nat.reduceLeDiff, Nat.reduceLT, Nat.reduceEqDiff, Nat.reduceBEq, Nat.reduceMul, Int.reduceToNat, Int.reduceEq, Int.reduceLT, Int.reduceLE] <;> try simp only [zB]
     · simp only [afterR, Out.ren, SV.ren, mgA, sig, SObj.ren, SV.renL, List.cons_append, List.nil_append, List.append_assoc, List.set_cons_zero, List.set_cons_succ, List.set, List.map, List.append_nil]
       with_reducible refine sxE ?_; trivial
   replace hX := bind_xo hX h9
   have c9' := eff_ok c9 h9
   have f9 := fits_at dfltP_fits f8 h9
   refine callR_eff [0] c9' rfl (by decide) ⟨rfl, rfl, trivial⟩ rfl rfl ?_ ?_
   · simp (maxSteps := 3000000) only [mgA, sig, sameG_cons, sameG_nil, go_sem, ↓zA, ↓reduceIte, ↓reduceDIte, reduceCtorEq, Nat.reduceAdd, Nat.reduceSub, Nat.reduceLeDiff, Nat.reduceLT, Nat.reduceEqDiff, Nat.reduceBEq, Nat.reduceMul, Int.reduceToNat, Int.reduceEq, Int.reduceLT, Int.reduceLE] <;> try simp only [zB]
   simp only [afterR, Out.ren, SV.ren, mgA, sig, SObj.ren, SV.renL, List.cons_append, List.nil_append, List.append_assoc, List.set_cons_zero, List.set_cons_succ, List.set, List.map, List.append_nil]
   refine goE mixed ?_
   cases hn9 : nextB 9 (b.drop (n + k1 + k2 + k3 + k4 + k5 + k6 + k7 + k8 + k9)) with
   | false =>
    replace hX := bind_xo hX (dfltP_no (d := ([] : List Tick)) (p := ticksP) hn9)
    have c10 := maybe_nop 185 9 (by omega) b (n + k1 + k2 + k3 + k4 + k5 + k6 + k7 + k8 + k9) f9 157 58 [rI k, .isl PreT pre, mU (v1 : Nat), .isl .str v2.1, rS v2.2, .isl .str v3.1, rS v3.2, rI (v4 : Nat), rI (v5 : Nat), rI (v6 : Nat), rI v7, .isl I64 v8, .isl PreT v9, .raw (.slice none 0 0)] (cln_raw (cln_isl (cln_raw (cln_isl (cln_raw (cln_isl (cln_raw (cln_raw (cln_raw (cln_raw (cln_raw (cln_isl (cln_isl (cln_raw cln_nil)))))))))))))) hn9
    refine effE mixed [0, 3, 1] (c10) ?_
    subst hX
    simp only [shiftP, retP]
    with_reducible refine sxE ?_
    exact congrArg (Value.int .i64) (by omega)
   | true =>
    have c10 := hTc v1 v2 v3 v4 v5 v6 v7 v8 v9 (n + k1 + k2 + k3 + k4 + k5 + k6 + k7 + k8 + k9) f9 hn9
    rcases h10 : inP (tagB 9) ticksP (b.drop (n + k1 + k2 + k3 + k4 + k5 + k6 + k7 + k8 + k9)) with e | ⟨v10, k10⟩
    · have c10' := eff_er c10 h10
      obtain rfl := bind_xe hX ((dfltP_in hn9).trans h10)
      refine effP [0, 3, 1] (c10') ?_; trivial
    replace hX := bind_xo hX ((dfltP_in hn9).trans h10)
    have c10' := eff_ok c10 h10
    refine effE mixed [0, 3, 1] (c10') ?_
    subst hX
    simp only [shiftP, retP]
    with_reducible refine sxE ?_
    exact congrArg (Value.int .i64) (by omega)
 · have hcl : cliP k = retP (([], ⟨#[]⟩) : Prin) := if_neg hk
   rw [hcl] at hX
   replace hX := bind_xo hX (show retP (([], ⟨#[]⟩) : Prin) (b.drop (n + k1)) = .ok (([], ⟨#[]⟩), 0) from rfl)
   rw [Nat.add_zero, Nat.add_zero] at hX
   refine run_sound mixed 9 _ ?_
   with_reducible refine sxE ?_
   refine ⟨fun h => absurd h hk, fun _ => ?_⟩
   refine run_sound mixed 2 _ ?_
   with_reducible refine sxE ?_
   refine si_drw [1, 2, 3] mixed ?_
   refine goE mixed ?_
   have c3 := mrprin_c 2 (by omega) b (n + k1) f1 hb
   rcases h3 : needP 2 nameP (b.drop (n + k1)) with e | ⟨v3, k3⟩
   · have c3' := eff_er c3 h3
     obtain rfl := bind_xe hX h3
     refine callR_eff [0] c3' rfl (by decide) ⟨rfl, rfl, trivial⟩ rfl rfl ?_ ?_
     · simp (maxSteps := 3000000) only [mgA, sig, sameG_cons, sameG_nil, go_sem, ↓zA, ↓reduceIte, ↓reduceDIte, reduceCtorEq, Nat.reduceAdd, Nat.reduceSub, Nat.reduceLeDiff, Nat.reduceLT, Nat.reduceEqDiff, Nat.reduceBEq, Nat.reduceMul, Int.reduceToNat, Int.reduceEq, Int.reduceLT, Int.reduceLE] <;> try simp only [zB]
     · simp only [afterR, Out.ren, SV.ren, mgA, sig, SObj.ren, SV.renL, List.cons_append, List.nil_append, List.append_assoc, List.set_cons_zero, List.set_cons_succ, List.set, List.map, List.append_nil]
       with_reducible refine sxE ?_; trivial
   replace hX := bind_xo hX h3
   have c3' := eff_ok c3 h3
   have f3 := fits_at needP_fits f1 h3
   refine callR_eff [0] c3' rfl (by decide) ⟨rfl, rfl, trivial⟩ rfl rfl ?_ ?_
   · simp (maxSteps := 3000000) only [mgA, sig, sameG_cons, sameG_nil, go_sem, ↓zA, ↓reduceIte, ↓reduceDIte, reduceCtorEq, Nat.reduceAdd, Nat.reduceSub, Nat.reduceLeDiff, Nat.reduceLT, Nat.reduceEqDiff, Nat.reduceBEq, Nat.reduceMul, Int.reduceToNat, Int.reduceEq, Int.reduceLT, Int.reduceLE] <;> try simp only [zB]
   simp only [afterR, Out.ren, SV.ren, mgA, sig, SObj.ren, SV.renL, List.cons_append, List.nil_append, List.append_assoc, List.set_cons_zero, List.set_cons_succ, List.set, List.map, List.append_nil]
   refine run_sound mixed 5 _ ?_
   with_reducible refine sxE ?_
   refine si_drw [1, 2, 3] mixed ?_
   refine goE mixed ?_
   have c4 := mmtime_c 3 (by omega) b (n + k1 + k3) f3 hb
   rcases h4 : dfltP (0 : Nat) 3 timeP (b.drop (n + k1 + k3)) with e | ⟨v4, k4⟩
   · have c4' := eff_er c4 h4
     obtain rfl := bind_xe hX h4
     refine callR_eff [0] c4' rfl (by decide) ⟨rfl, rfl, trivial⟩ rfl rfl ?_ ?_
     · simp (maxSteps := 3000000) only [mgA, sig, sameG_cons, sameG_nil, go_sem, ↓zA, ↓reduceIte, ↓reduceDIte, reduceCtorEq, Nat.reduceAdd, Nat.reduceSub, Nat.reduceLeDiff, Nat.reduceLT, Nat.reduceEqDiff, Nat.reduceBEq, Nat.reduceMul, Int.reduceToNat, Int.reduceEq, Int.reduceLT, Int.reduceLE] <;> try simp only [zB]
     · simp only [afterR, Out.ren, SV.ren, mgA, sig, SObj.ren, SV.renL, List.cons_append, List.nil_append, List.append_assoc, List.set_cons_zero, List.set_cons_succ, List.set, List.map, List.append_nil]
       with_reducible refine sxE ?_; trivial
   replace hX := bind_xo hX h4
   have c4' := eff_ok c4 h4
   have f4 := fits_at dfltP_fits f3 h4
   refine callR_eff [0] c4' rfl (by decide) ⟨rfl, rfl, trivial⟩ rfl rfl ?_ ?_
   · simp (maxSteps := 3000000) only [mgA, sig, sameG_cons, sameG_nil, go_sem, ↓zA, ↓reduceIte, ↓reduceDIte, reduceCtorEq, Nat.reduceAdd, Nat.reduceSub, Nat.reduceLeDiff, Nat.reduceLT, Nat.reduceEqDiff, Nat.reduceBEq, Nat.reduceMul, Int.reduceToNat, Int.reduceEq, Int.reduceLT, Int.reduceLE] <;> try simp only [zB]
   simp only [afterR, Out.ren, SV.ren, mgA, sig, SObj.ren, SV.renL, List.cons_append, List.nil_append, List.append_assoc, List.set_cons_zero, List.set_cons_succ, List.set, List.map, List.append_nil]
   refine run_sound mixed 5 _ ?_
   with_reducible refine sxE ?_
   refine si_drw [1, 2, 3] mixed ?_
   refine goE mixed ?_
   have c5 := mrtime_c 4 (by omega) b (n + k1 + k3 + k4) f4 hb
   rcases h5 : needP 4 timeP (b.drop (n + k1 + k3 + k4)) with e | ⟨v5, k5⟩
   · have c5' := eff_er c5 h5
     obtain rfl := bind_xe hX h5
     refine callR_eff [0] c5' rfl (by decide) ⟨rfl, rfl, trivial⟩ rfl rfl ?_ ?_
     · simp (maxSteps := 3000000) only [mgA, sig, sameG_cons, sameG_nil, go_sem, ↓zA, ↓reduceIte, ↓reduceDIte, reduceCtorEq, Nat.reduceAdd, Nat.reduceSub, Nat.reduceLeDiff, Nat.reduceLT, Nat.reduceEqDiff, Nat.reduceBEq, Nat.reduceMul, Int.reduceToNat, Int.reduceEq, Int.reduceLT, Int.reduceLE] <;> try simp only [zB]
     · simp only [afterR, Out.ren, SV.ren, mgA, sig, SObj.ren, SV.renL, List.cons_append, List.nil_append, List.append_assoc, List.set_cons_zero, List.set_cons_succ, List.set, List.map, List.append_nil]
       with_reducible refine sxE ?_; trivial
   replace hX := bind_xo hX h5
   have c5' := eff_ok c5 h5
   have f5 := fits_at needP_fits f4 h5
   refine callR_eff [0] c5' rfl (by decide) ⟨rfl, rfl, trivial⟩ rfl rfl ?_ ?_
   · simp (maxSteps := 3000000) only [mgA, sig, sameG_cons, sameG_nil, go_sem, ↓zA, ↓reduceIte, ↓reduceDIte, reduceCtorEq, Nat.reduceAdd, Nat.reduceSub, Nat.reduceLeDiff, Nat.reduceLT, Nat.reduceEqDiff, Nat.reduceBEq, Nat.reduceMul, Int.reduceToNat, Int.reduceEq, Int.reduceLT, Int.reduceLE] <;> try simp only [zB]
   simp only [afterR, Out.ren, SV.ren, mgA, sig, SObj.ren, SV.renL, List.cons_append, List.nil_append, List.append_assoc, List.set_cons_zero, List.set_cons_succ, List.set, List.map, List.append_nil]
   refine run_sound mixed 5 _ ?_
   with_reducible refine sxE ?_
   refine si_drw [1, 2, 3] mixed ?_
   refine goE mixed ?_
   have c6 := mmtime_c 5 (by omega) b (n + k1 + k3 + k4 + k5) f5 hb
   rcases h6 : dfltP (0 : Nat) 5 timeP (b.drop (n + k1 + k3 + k4 + k5)) with e | ⟨v6, k6⟩
   · have c6' := eff_er c6 h6
     obtain rfl := bind_xe hX h6
     refine callR_eff [0] c6' rfl (by decide) ⟨rfl, rfl, trivial⟩ rfl rfl ?_ ?_
     · simp (maxSteps := 3000000) only [mgA, sig, sameG_cons, sameG_nil, go_sem, ↓zA, ↓reduceIte, ↓reduceDIte, reduceCtorEq, Nat.reduceAdd, Nat.reduceSub, Nat.reduceLeDiff, Nat.reduceLT, Nat.reduceEqDiff, Nat.reduceBEq, Nat.reduceMul, Int.reduceToNat, Int.reduceEq, Int.reduceLT, Int.reduceLE] <;> try simp only [zB]
     · simp only [afterR, Out.ren, SV.ren, mgA, sig, SObj.ren, SV.renL, List.cons_append, List.nil_append, List.append_assoc, List.set_cons_zero, List.set_cons_succ, List.set, List.map, List.append_nil]
       with_reducible refine sxE ?_; trivial
   replace hX := bind_xo hX h6
   have c6' := eff_ok c6 h6
   have f6 := fits_at dfltP_fits f5 h6
   refine callR_eff [0] c6' rfl (by decide) ⟨rfl, rfl, trivial⟩ rfl rfl ?_ ?_
   · simp (maxSteps := 3000000) only [mgA, sig, sameG_cons, sameG_nil, go_sem, ↓zA, ↓reduceIte, ↓reduceDIte, reduceCtorEq, Nat.reduceAdd, Nat.reduceSub, Nat.reduceLeDiff, Nat.reduceLT, Nat.reduceEqDiff, Nat.reduceBEq, Nat.reduceMul, Int.reduceToNat, Int.reduceEq, Int.reduceLT, Int.reduceLE] <;> try simp only [zB]
   simp only [afterR, Out.ren, SV.ren, mgA, sig, SObj.ren, SV.renL, List.cons_append, List.nil_append, List.append_assoc, List.set_cons_zero, List.set_cons_succ, List.set, List.map, List.append_nil]
   refine run_sound mixed 5 _ ?_
   with_reducible refine sxE ?_
   refine si_drw [1, 2, 3] mixed ?_
   refine goE mixed ?_
   have c7 := mrint_c 6 (by omega) b (n + k1 + k3 + k4 + k5 + k6) f6 hb
   rcases h7 : needP 6 intP (b.drop (n + k1 + k3 + k4 + k5 + k6)) with e | ⟨v7, k7⟩
   · have c7' := eff_er c7 h7
     obtain rfl := bind_xe hX h7
     refine callR_eff [0] c7' rfl (by decide) ⟨rfl, rfl, trivial⟩ rfl rfl ?_ ?_
     · simp (maxSteps := 3000000) only [mgA, sig, sameG_cons, sameG_nil, go_sem, ↓zA, ↓reduceIte, ↓reduceDIte, reduceCtorEq, Nat.reduceAdd, Nat.reduceSub, Nat.reduceLeDiff, Nat.reduceLT, Nat.reduceEqDiff, Nat.reduceBEq, Nat.reduceMul, Int.reduceToNat, Int.reduceEq, Int.reduceLT, Int.reduceLE] <;> try simp only [zB]
     · simp only [afterR, Out.ren, SV.ren, mgA, sig, SObj.ren, SV.renL, List.cons_append, List.nil_append, List.append_assoc, List.set_cons_zero, List.set_cons_succ, List.set, List.map, List.append_nil]
       with_reducible refine sxE ?_; trivial
   replace hX := bind_xo hX h7
   have c7' := eff_ok c7 h7
   have f7 := fits_at needP_fits f6 h7
   refine callR_eff [0] c7' rfl (by decide) ⟨rfl, rfl, trivial⟩ rfl rfl ?_ ?_
   · simp (maxSteps := 3000000) only [mgA, sig, sameG_cons, sameG_nil, go_sem, ↓zA, ↓reduceIte, ↓reduceDIte, reduceCtorEq, Nat.reduceAdd, Nat.reduceSub, Nat.reduceLeDiff, Nat.reduceLT, Nat.reduceEqDiff, Nat.reduceBEq, Nat.reduceMul, Int.reduceToNat, Int.reduceEq, Int.reduceLT, Int.reduceLE] <;> try simp only [zB]
   simp only [afterR, Out.ren, SV.ren, mgA, sig, SObj.ren, SV.renL, List.cons_append, List.nil_append, List.append_assoc, List.set_cons_zero, List.set_cons_succ, List.set, List.map, List.append_nil]
   refine run_sound mixed 5 _ ?_
   with_reducible refine sxE ?_
   refine goE mixed ?_
   have c8 := needp 181 7 (by omega) b (n + k1 + k3 + k4 + k5 + k6 + k7) f7 hb 157 58 _ (cln_raw (cln_isl (cln_raw (cln_raw (cln_raw (cln_isl (cln_raw (cln_raw (cln_raw (cln_raw (cln_raw (cln_raw (cln_raw (cln_raw cln_nil)))))))))))))) numsP inP_fits _ (fun l => (cln_raw (cln_isl (cln_raw (cln_raw (cln_raw (cln_isl (cln_raw (cln_raw (cln_raw (cln_raw (cln_raw (cln_isl (cln_raw (cln_raw cln_nil))))))))))))))) (body1_z k pre v1 v3 v4 v5 v6 v7 (takeC (b.drop _)) 0 (Nat.zero_le _) (tkC_le hb) _)
   rcases h8 : needP 7 numsP (b.drop (n + k1 + k3 + k4 + k5 + k6 + k7)) with e | ⟨v8, k8⟩
   · have c8' := eff_er c8 h8
     obtain rfl := bind_xe hX h8
     refine effP [0, 3, 1] (c8') ?_; trivial
   replace hX := bind_xo hX h8
   have c8' := eff_ok c8 h8
   have f8 := fits_at needP_fits f7 h8
   refine callI_eff [0, 3, 1] (c8') rfl (by decide) (by repeat first | exact trivial | exact rfl | refine And.intro ?_ ?_) rfl rfl ?_
   simp only [afterO, Out.ren, SV.ren, mgA, sig, SObj.ren, SV.renL, List.set, List.map, List.append_nil]
   refine run_sound mixed 2 _ ?_
   with_reducible refine sxE ?_
   refine si_drw [1, 2, 3] mixed ?_
   refine goE mixed ?_
   have c9 := hA' (n + k1 + k3 + k4 + k5 + k6 + k7 + k8) f8
   rcases h9 : dfltP [] 8 adrP (b.drop (n + k1 + k3 + k4 + k5 + k6 + k7 + k8)) with e | ⟨v9, k9⟩
   · have c9' := eff_er c9 h9
     obtain rfl := bind_xe hX h9
     refine callR_eff [0] c9' rfl (by decide) ⟨rfl, rfl, trivial⟩ rfl rfl ?_ ?_
     · simp (maxSteps := 3000000) only [mgA, sig, sameG_cons, sameG_nil, go_sem, ↓zA, ↓reduceIte, ↓reduceDIte, reduceCtorEq, Nat.reduceAdd, Nat.reduceSub, Nat.reduceLeDiff, Nat.reduceLT, Nat.reduceEqDiff, Nat.reduceBEq, Nat.reduceMul, Int.reduceToNat, Int.reduceEq, Int.reduceLT, Int.reduceLE] <;> try simp only [zB]
     · simp only [afterR, Out.ren, SV.ren, mgA, sig, SObj.ren, SV.renL, List.cons_append, List.nil_append, List.append_assoc, List.set_cons_zero, List.set_cons_succ, List.set, List.map, List.append_nil]
       with_reducible refine sxE ?_; trivial
   replace hX := bind_xo hX h9
   have c9' := eff_ok c9 h9
   have f9 := fits_at dfltP_fits f8 h9
   refine callR_eff [0] c9' rfl (by decide) ⟨rfl, rfl, trivial⟩ rfl rfl ?_ ?_
   · simp (maxSteps := 3000000) only [mgA, sig, sameG_cons, sameG_nil, go_sem, ↓zA, ↓reduceIte, ↓reduceDIte, reduceCtorEq, Nat.reduceAdd, Nat.reduceSub, Nat.reduceLeDiff, Nat.reduceLT, Nat.reduceEqDiff, Nat.reduceBEq, Nat.reduceMul, Int.reduceToNat, Int.reduceEq, Int.reduceLT, Int.reduceLE] <;> try simp only [zB]
   simp only [afterR, Out.ren, SV.ren, mgA, sig, SObj.ren, SV.renL, List.cons_append, List.nil_append, List.append_assoc, List.set_cons_zero, List.set_cons_succ, List.set, List.map, List.append_nil]
   refine goE mixed ?_
   cases hn9 : nextB 9 (b.drop (n + k1 + k3 + k4 + k5 + k6 + k7 + k8 + k9)) with
   | false =>
    replace hX := bind_xo hX (dfltP_no (d := ([] : List Tick)) (p := ticksP) hn9)
    have c10 := maybe_nop 185 9 (by omega) b (n + k1 + k3 + k4 + k5 + k6 + k7 + k8 + k9) f9 157 58 [rI k, .isl PreT pre, mU (v1 : Nat), .raw (.slice none 0 0), rS ⟨#[]⟩, .isl .str v3.1, rS v3.2, rI (v4 : Nat), rI (v5 : Nat), rI (v6 : Nat), rI v7, .isl I64 v8, .isl PreT v9, .raw (.slice none 0 0)] (cln_raw (cln_isl (cln_raw (cln_raw (cln_raw (cln_isl (cln_raw (cln_raw (cln_raw (cln_raw (cln_raw (cln_isl (cln_isl (cln_raw cln_nil)))))))))))))) hn9
    refine effE mixed [0, 3, 1] (c10) ?_
    subst hX
    simp only [shiftP, retP]
    with_reducible refine sxE ?_
    exact congrArg (Value.int .i64) (by omega)
   | true =>
    have c10 := hTz v1 v3 v4 v5 v6 v7 v8 v9 (n + k1 + k3 + k4 + k5 + k6 + k7 + k8 + k9) f9 hn9
    rcases h10 : inP (tagB 9) ticksP (b.drop (n + k1 + k3 + k4 + k5 + k6 + k7 + k8 + k9)) with e | ⟨v10, k10⟩
    · have c10' := eff_er c10 h10
      obtain rfl := bind_xe hX ((dfltP_in hn9).trans h10)
      refine effP [0, 3, 1] (c10') ?_; trivial
    replace hX := bind_xo hX ((dfltP_in hn9).trans h10)
    have c10' := eff_ok c10 h10
    refine effE mixed [0, 3, 1] (c10') ?_
    subst hX
    simp only [shiftP, retP]
    with_reducible refine sxE ?_
    exact congrArg (Value.int .i64) (by omega)
end Go.Proofs.YthmoognbccfpiaaGreatDoor

/- Contracts: messages: reading an error message. -/
namespace Go.Proofs.YthmoognbccfpiaaGreatDoor
open Go Go.Sx Go.Proofs
set_option maxRecDepth 100000
set_option maxHeartbeats 4000000
set_option linter.unusedSimpArgs false

@[go_sem] abbrev faO (cs : List SV) : SObj := .cells 60 cs
def zP : Prin := ([], ⟨#[]⟩)
@[go_sem] abbrev fa0 : List SV := [rI 0, rI 0, rI 0, .raw (.slice none 0 0), rS ⟨#[]⟩, .raw (.slice none 0 0), rS ⟨#[]⟩, rS ⟨#[]⟩, .raw (.slice none 0 0)]
end Go.Proofs.YthmoognbccfpiaaGreatDoor

/- Contracts: reading an entry. -/
namespace Go.Proofs.YthmoognbccfpiaaGreatDoor
open Go Go.Sx Go.Proofs
set_option maxRecDepth 100000
set_option maxHeartbeats 4000000
set_option linter.unusedSimpArgs false

end Go.Proofs.YthmoognbccfpiaaGreatDoor

/- Contracts: decoding an entry. -/
namespace Go.Proofs.YthmoognbccfpiaaGreatDoor
open Go Go.Sx Go.Proofs
set_option maxRecDepth 100000
set_option maxHeartbeats 4000000
set_option linter.unusedSimpArgs false

end Go.Proofs.YthmoognbccfpiaaGreatDoor

/- Contracts: messages: decoding an error message. -/
namespace Go.Proofs.YthmoognbccfpiaaGreatDoor
open Go Go.Sx Go.Proofs
set_option maxRecDepth 100000
set_option maxHeartbeats 4000000
set_option linter.unusedSimpArgs false

theorem okP_dat : OkP datP PreT.ok := okP_in (okP_bind (Q1 := fun _ => True) okP_true fun _ _ => okP_bind (okP_need okP_oct) fun _ hc => okP_ret ⟨trivial, hc⟩)
theorem okP_data : OkP dataP (Ty.slice PreT).ok := okP_l (t := PreT) 16 (by omega) okP_dat
theorem zP_ok : PrinT.ok zP := ⟨nil_ok, estr_ok⟩
end Go.Proofs.YthmoognbccfpiaaGreatDoor

