/- Contracts: messages: reading the body of a request. -/
import Derived.Test.YtoeieekegmmdkaaGreatDoorP20
import Derived.Test.YtoeieekegmmdkaaGreatDoorP16
set_option linter.unusedSimpArgs false
set_option linter.unusedVariables false
set_option linter.unusedSectionVars false
namespace Go.Proofs.YtoeieekegmmdkaaGreatDoor
open Go Go.Sx Go.Proofs
set_option maxRecDepth 100000
set_option maxHeartbeats 4000000
set_option linter.unusedSimpArgs false

def visA (l : List UInt8) : Bool := allN l.length fun j => decide (33 ≤ ((l.getD j Ty.u8.dflt).toNat : Int)) && decide (((l.getD j Ty.u8.dflt).toNat : Int) ≤ 126)
def vAdr (a : Pre) : Bool := (decide (a.1 = 2) && decide ((a.2.length : Int) = 4)) || ((decide (a.1 = 20) && (decide (1 ≤ (a.2.length : Int)) && (decide ((a.2.length : Int) ≤ 16) && visA a.2))) || (decide (a.1 = 24) && decide ((a.2.length : Int) = 16)))
def adrAt (l : List Pre) (j : Nat) : Bool := vAdr (l.getD j PreT.dflt)
def vAdrs (l : List Pre) : Bool := decide ((l.length : Int) ≤ 16) && allN l.length (adrAt l)
def adrP : PR (List Pre) := fun r => chkP vAdrs (dataP r)
def vSeal (s : Key) : Bool := decide (keyLen s.1 ≠ 0) && (mIn 0 65535 s.2.1 && decide ((s.2.2.length : Int) ≤ 65536))
def vTick (t : Tick) : Bool := vPrin t.1 && vSeal t.2
def tickIn : PR Tick := bindP (needP 0 (cstP 5)) fun _ => bindP (needP 1 nameP) fun s => bindP (needP 2 keyP) fun e => retP ((s, e) : Tick)
def tickP : PR Tick := fun r => chkP vTick (inP (appB 1) (inP 48 tickIn) r)
def ticksP : PR (List Tick) := inP 48 (listP tickP 16)
def cliP (k : Int) : PR Prin := if k = 10 then needP 1 nameP else retP (([], ⟨#[]⟩) : Prin)
def bodP (k : Int) (pre : List Pre) : PR Req := bindP (needP 0 bitsP) fun o => bindP (cliP k) fun c => bindP (needP 2 nameP) fun s => bindP (dfltP (0 : Nat) 3 timeP) fun f => bindP (needP 4 timeP) fun t => bindP (dfltP (0 : Nat) 5 timeP) fun w => bindP (needP 6 intP) fun n =>
 bindP (needP 7 (inP 48 (listP intP 16))) fun pf => bindP (dfltP [] 8 adrP) fun a => bindP (dfltP [] 9 ticksP) fun tk => retP ((k, pre, (o : Int), c, s, (f : Int), (t : Int), (w : Int), n, pf, a, tk) : Req)
@[go_sem] abbrev rqO (cs : List SV) : SObj := .cells 48 cs
@[go_sem] abbrev mU (o : Int) : SV := .raw (.int .u32 o)
theorem mint1_c (b : List UInt8) (n : Nat) (hn : n ≤ b.length) (hb : b.length ≤ 1099511627776) :
 Eff Tryz.prog 105 [.agg [.ptr 0 0]] b n [] (fun x => rI x) (fun _ => []) (intP (b.drop n)) := by
 cases hx : intP (b.drop n) with
 | error e =>
  have hr := rint_er b n hn hb hx
  refine pe_seal (by simp) ?_
  refine runE mixed fi105 ?_
  refine effE mixed [0] (hr) ?_
  refine effP [] (take_er_int _ e (rdP_ne hx)) ?_; trivial
 | ok x =>
  obtain ⟨v, k⟩ := x
  have hr := rint_ok b n hn hb hx
  refine pe_seal (by simp) ?_
  refine runE mixed fi105 ?_
  refine effE mixed [0] (hr) ?_
  refine callI_pure (take_int _) ?_
  refine goE mixed ?_; trivial
def numsP : PR (List Int) := inP 48 (listP intP 16)
theorem body1_c (k : Int) (pre : List Pre) (o : Int) (c : Prin) (s : Prin) (f t w m : Int) (b : List UInt8) (n : Nat) (hn : n ≤ b.length) (hb : b.length ≤ 1099511627776) (T : TypeId) :
 Eff Tryz.prog 103 [.agg [.ptr 0 0], .ptr 1 0] b n [.cells T [.ptr 2 0], rqO [rI k, .isl PreT pre, mU o, .isl .str c.1, rS c.2, .isl .str s.1, rS s.2, rI f, rI t, rI w, rI m, .raw (.slice none 0 0), .raw (.slice none 0 0), .raw (.slice none 0 0)]] (fun _ => .tup []) (fun l : List Int => [.cells T [.ptr 2 0], rqO [rI k, .isl PreT pre, mU o, .isl .str c.1, rS c.2, .isl .str s.1, rS s.2, rI f, rI t, rI w, rI m, .isl I64 l, .raw (.slice none 0 0), .raw (.slice none 0 0)]]) (numsP (b.drop n)) := by
 have hv := values_int 105 intP rdP_fits b n hn hb (fun _ _ _ _ _ => trivial) (fun c m hm hc => mint1_c c m hm hc)
 change Eff _ _ _ _ _ _ _ _ (numsP (b.drop n)) at hv
 refine eff_of (fun _ => Nat.le_refl _) ?_
 refine vc_fi fi103 (run_sound mixed 4 _ ?_)
 with_reducible refine sxE ?_
 refine si_drw [1, 2, 3] mixed ?_
 refine goE mixed ?_
 cases hx : numsP (b.drop n) with
 | error e =>
  have hv' := eff_er hv hx
  refine callR_eff [0] hv' rfl (by decide) ⟨rfl, rfl, trivial⟩ rfl rfl ?_ ?_
  · simp (maxSteps := 3000000) only [mgA, sig, sameG_cons, sameG_nil, go_sem, ↓zA, ↓reduceIte, ↓reduceDIte, reduceCtorEq, Nat.reduceAdd, Nat.reduceSub, Nat.reduceLeDiff, Nat.reduceLT, Nat.reduceEqDiff, Nat.reduceBEq, Nat.reduceMul, Int.reduceToNat, Int.reduceEq, Int.reduceLT, Int.reduceLE] <;> try simp only [zB]
  · simp only [afterR, Out.ren, SV.ren, mgA, sig, SObj.ren, SV.renL, List.cons_append, List.nil_append, List.append_assoc, List.set_cons_zero, List.set_cons_succ, List.set, List.map, List.append_nil]
    with_reducible refine sxE ?_; trivial
 | ok x =>
  obtain ⟨l, q⟩ := x
  have hv' := eff_ok hv hx
  refine callR_eff [0] hv' rfl (by decide) ⟨rfl, rfl, trivial⟩ rfl rfl ?_ ?_
  · simp (maxSteps := 3000000) only [mgA, sig, sameG_cons, sameG_nil, go_sem, ↓zA, ↓reduceIte, ↓reduceDIte, reduceCtorEq, Nat.reduceAdd, Nat.reduceSub, Nat.reduceLeDiff, Nat.reduceLT, Nat.reduceEqDiff, Nat.reduceBEq, Nat.reduceMul, Int.reduceToNat, Int.reduceEq, Int.reduceLT, Int.reduceLE] <;> try simp only [zB]
  · simp only [afterR, Out.ren, SV.ren, mgA, sig, SObj.ren, SV.renL, List.cons_append, List.nil_append, List.append_assoc, List.set_cons_zero, List.set_cons_succ, List.set, List.map, List.append_nil]
    refine goE mixed ?_; trivial
theorem body1_z (k : Int) (pre : List Pre) (o : Int)  (s : Prin) (f t w m : Int) (b : List UInt8) (n : Nat) (hn : n ≤ b.length) (hb : b.length ≤ 1099511627776) (T : TypeId) :
 Eff Tryz.prog 103 [.agg [.ptr 0 0], .ptr 1 0] b n [.cells T [.ptr 2 0], rqO [rI k, .isl PreT pre, mU o, .raw (.slice none 0 0), rS ⟨#[]⟩, .isl .str s.1, rS s.2, rI f, rI t, rI w, rI m, .raw (.slice none 0 0), .raw (.slice none 0 0), .raw (.slice none 0 0)]] (fun _ => .tup []) (fun l : List Int => [.cells T [.ptr 2 0], rqO [rI k, .isl PreT pre, mU o, .raw (.slice none 0 0), rS ⟨#[]⟩, .isl .str s.1, rS s.2, rI f, rI t, rI w, rI m, .isl I64 l, .raw (.slice none 0 0), .raw (.slice none 0 0)]]) (numsP (b.drop n)) := by
 have hv := values_int 105 intP rdP_fits b n hn hb (fun _ _ _ _ _ => trivial) (fun c m hm hc => mint1_c c m hm hc)
 change Eff _ _ _ _ _ _ _ _ (numsP (b.drop n)) at hv
 refine eff_of (fun _ => Nat.le_refl _) ?_
 refine vc_fi fi103 (run_sound mixed 4 _ ?_)
 with_reducible refine sxE ?_
 refine si_drw [1, 2, 3] mixed ?_
 refine goE mixed ?_
 cases hx : numsP (b.drop n) with
 | error e =>
  have hv' := eff_er hv hx
  refine callR_eff [0] hv' rfl (by decide) ⟨rfl, rfl, trivial⟩ rfl rfl ?_ ?_
  · simp (maxSteps := 3000000) only [mgA, sig, sameG_cons, sameG_nil, go_sem, ↓zA, ↓reduceIte, ↓reduceDIte, reduceCtorEq, Nat.reduceAdd, Nat.reduceSub, Nat.reduceLeDiff, Nat.reduceLT, Nat.reduceEqDiff, Nat.reduceBEq, Nat.reduceMul, Int.reduceToNat, Int.reduceEq, Int.reduceLT, Int.reduceLE] <;> try simp only [zB]
  · simp only [afterR, Out.ren, SV.ren, mgA, sig, SObj.ren, SV.renL, List.cons_append, List.nil_append, List.append_assoc, List.set_cons_zero, List.set_cons_succ, List.set, List.map, List.append_nil]
    with_reducible refine sxE ?_; trivial
 | ok x =>
  obtain ⟨l, q⟩ := x
  have hv' := eff_ok hv hx
  refine callR_eff [0] hv' rfl (by decide) ⟨rfl, rfl, trivial⟩ rfl rfl ?_ ?_
  · simp (maxSteps := 3000000) only [mgA, sig, sameG_cons, sameG_nil, go_sem, ↓zA, ↓reduceIte, ↓reduceDIte, reduceCtorEq, Nat.reduceAdd, Nat.reduceSub, Nat.reduceLeDiff, Nat.reduceLT, Nat.reduceEqDiff, Nat.reduceBEq, Nat.reduceMul, Int.reduceToNat, Int.reduceEq, Int.reduceLT, Int.reduceLE] <;> try simp only [zB]
  · simp only [afterR, Out.ren, SV.ren, mgA, sig, SObj.ren, SV.renL, List.cons_append, List.nil_append, List.append_assoc, List.set_cons_zero, List.set_cons_succ, List.set, List.map, List.append_nil]
    refine goE mixed ?_; trivial
theorem maddr_no (i : Nat) (hi : i ≤ 30) (b : List UInt8) (n : Nat) (hn : n ≤ b.length) (h : nextB i (b.drop n) = false) :
 PE Tryz.prog 106 [.agg [.ptr 0 0], rI i] [rdr b n] (.ret (.isl PreT [])) [rdr b n] := by
 have hc : Cln [.raw (.slice none 0 0)] := cln_raw cln_nil
 have hm := fun T => maybe_no1 150 i hi b n hn T _ hc h
 refine pe_seal (by simp) ?_
 refine runE mixed fi106 ?_
 refine effE mixed [0, 2] (hm _) ?_; trivial
theorem mbody_c (k : Int) (pre : List Pre) (b : List UInt8) (n : Nat) (hn : n ≤ b.length) (hb : b.length ≤ 1099511627776)
 (hA : ∀ q, q ≤ b.length → nextB 8 (b.drop q) = true → Eff Tryz.prog 106 [.agg [.ptr 0 0], rI 8] b q [] (fun l : List Pre => .isl PreT l) (fun _ => []) (inP (tagB 8) adrP (b.drop q)))
 (hTc : ∀ (o : Int) (c s : Prin) (f t w m : Int) (pf : List Int) (ad : List Pre) (q : Nat), q ≤ b.length → nextB 9 (b.drop q) = true → Eff Tryz.prog 93 [.agg [.ptr 0 0], rI 9, .fn 107 [] [.ptr 1 0]] b q [.cells 102 [.ptr 2 0], rqO [rI k, .isl PreT pre, mU o, .isl .str c.1, rS c.2, .isl .str s.1, rS s.2, rI f, rI t, rI w, rI m, .isl I64 pf, .isl PreT ad, .raw (.slice none 0 0)]] (fun _ => rB true) (fun l : List Tick => [.cells 102 [.ptr 2 0], rqO [rI k, .isl PreT pre, mU o, .isl .str c.1, rS c.2, .isl .str s.1, rS s.2, rI f, rI t, rI w, rI m, .isl I64 pf, .isl PreT ad, .isl TickT l]]) (inP (tagB 9) ticksP (b.drop q)))
 (hTz : ∀ (o : Int) (s : Prin) (f t w m : Int) (pf : List Int) (ad : List Pre) (q : Nat), q ≤ b.length → nextB 9 (b.drop q) = true → Eff Tryz.prog 93 [.agg [.ptr 0 0], rI 9, .fn 107 [] [.ptr 1 0]] b q [.cells 102 [.ptr 2 0], rqO [rI k, .isl PreT pre, mU o, .raw (.slice none 0 0), rS ⟨#[]⟩, .isl .str s.1, rS s.2, rI f, rI t, rI w, rI m, .isl I64 pf, .isl PreT ad, .raw (.slice none 0 0)]] (fun _ => rB true) (fun l : List Tick => [.cells 102 [.ptr 2 0], rqO [rI k, .isl PreT pre, mU o, .raw (.slice none 0 0), rS ⟨#[]⟩, .isl .str s.1, rS s.2, rI f, rI t, rI w, rI m, .isl I64 pf, .isl PreT ad, .isl TickT l]]) (inP (tagB 9) ticksP (b.drop q))) :
 Eff Tryz.prog 64 [.agg [.ptr 0 0], .ptr 1 0] b n [rqO [rI k, .isl PreT pre, .raw (.int .u32 0), .raw (.slice none 0 0), rS ⟨#[]⟩, .raw (.slice none 0 0), rS ⟨#[]⟩, rI 0, rI 0, rI 0, rI 0, .raw (.slice none 0 0), .raw (.slice none 0 0), .raw (.slice none 0 0)]] (fun _ => .tup []) (fun r => [rqO (ReqT.cells r)]) (bodP k pre (b.drop n)) := by
 refine eff_of (fun _ => Nat.le_refl _) ?_
 obtain ⟨X, hX0⟩ : ∃ X, X = bodP k pre (b.drop n) := ⟨_, rfl⟩
 rw [← hX0]
 have hX := hX0.trans bind_x0
 clear hX0
 unfold bodP at hX
 have hA' : ∀ q, q ≤ b.length → Eff Tryz.prog 106 [.agg [.ptr 0 0], rI 8] b q [] (fun l : List Pre => .isl PreT l) (fun _ => []) (dfltP [] 8 adrP (b.drop q)) := fun q hq => by
  cases h8 : nextB 8 (b.drop q) with
  | false => rw [dfltP_no h8]; exact maddr_no 8 (by omega) b q hq h8
  | true => rw [dfltP_in h8]; exact hA q hq h8
 clear hA
 refine vc_fi fi64 (run_sound mixed 6 _ ?_)
 with_reducible refine sxE ?_
 refine si_drw [1, 2, 3] mixed ?_
 refine goE mixed ?_
 have c1 := mrbits_c 0 (by omega) b (n) hn hb
 rcases h1 : needP 0 bitsP (b.drop (n)) with e | ⟨v1, k1⟩
 · have c1' := eff_er c1 h1
   obtain rfl := bind_xe hX h1
   refine callR_eff [0] c1' rfl (by decide) ⟨rfl, rfl, trivial⟩ rfl rfl ?_ ?_
   · simp (maxSteps := 3000000) only [mgA, sig, sameG_cons, sameG_nil, go_sem, ↓zA, ↓reduceIte, ↓reduceDIte, reduceCtorEq, Nat.reduceAdd, Nat.reduceSub, Nat.reduceLeDiff, Nat.reduceLT, Nat.reduceEqDiff, Nat.reduceBEq, Nat.reduceMul, Int.reduceToNat, Int.reduceEq, Int.reduceLT, Int.reduceLE] <;> try simp only [zB]
   · simp only [afterR, Out.ren, SV.ren, mgA, sig, SObj.ren, SV.renL, List.cons_append, List.nil_append, List.append_assoc, List.set_cons_zero, List.set_cons_succ, List.set, List.map, List.append_nil]
     with_reducible refine sxE ?_; trivial
 replace hX := bind_xo hX h1
 have c1' := eff_ok c1 h1
 have f1 := fits_at needP_fits hn h1
 refine callR_eff [0] c1' rfl (by decide) ⟨rfl, rfl, trivial⟩ rfl rfl ?_ ?_
 · simp (maxSteps := 3000000) only [mgA, sig, sameG_cons, sameG_nil, go_sem, ↓zA, ↓reduceIte, ↓reduceDIte, reduceCtorEq, Nat.reduceAdd, Nat.reduceSub, Nat.reduceLeDiff, Nat.reduceLT, Nat.reduceEqDiff, Nat.reduceBEq, Nat.reduceMul, Int.reduceToNat, Int.reduceEq, Int.reduceLT, Int.reduceLE] <;> try simp only [zB]
 simp only [afterR, Out.ren, SV.ren, mgA, sig, SObj.ren, SV.renL, List.cons_append, List.nil_append, List.append_assoc, List.set_cons_zero, List.set_cons_succ, List.set, List.map, List.append_nil]
 refine run_sound mixed 5 _ ?_
 with_reducible refine sxE ?_
 by_cases hk : k = 10
 · have hcl : cliP k = needP 1 nameP := if_pos hk
   rw [hcl] at hX
   refine run_sound mixed 9 _ ?_
   with_reducible refine sxE ?_
   refine ⟨fun _ => ?_, fun h => absurd hk h⟩
   refine si_drw [1, 2, 3] mixed ?_
   refine goE mixed ?_
   have c2 := mrprin_c 1 (by omega) b (n + k1) f1 hb
   rcases h2 : needP 1 nameP (b.drop (n + k1)) with e | ⟨v2, k2⟩
   · have c2' := eff_er c2 h2
     obtain rfl := bind_xe hX h2
     refine callR_eff [0] c2' rfl (by decide) ⟨rfl, rfl, trivial⟩ rfl rfl ?_ ?_
     · simp (maxSteps := 3000000) only [mgA, sig, sameG_cons, sameG_nil, go_sem, ↓zA, ↓reduceIte, ↓reduceDIte, reduceCtorEq, Nat.reduceAdd, Nat.reduceSub, Nat.reduceLeDiff, Nat.reduceLT, Nat.reduceEqDiff, Nat.reduceBEq, Nat.reduceMul, Int.reduceToNat, Int.reduceEq, Int.reduceLT, Int.reduceLE] <;> try simp only [zB]
     · simp only [afterR, Out.ren, SV.ren, mgA, sig, SObj.ren, SV.renL, List.cons_append, List.nil_append, List.append_assoc, List.set_cons_zero, List.set_cons_succ, List.set, List.map, List.append_nil]
       with_reducible refine sxE ?_; trivial
   replace hX := bind_xo hX h2
   have c2' := eff_ok c2 h2
   have f2 := fits_at needP_fits f1 h2
   refine callR_eff [0] c2' rfl (by decide) ⟨rfl, rfl, trivial⟩ rfl rfl ?_ ?_
   · simp (maxSteps := 3000000) only [mgA, sig, sameG_cons, sameG_nil, go_sem, ↓zA, ↓reduceIte, ↓reduceDIte, reduceCtorEq, Nat.reduceAdd, Nat.reduceSub, Nat.reduceLeDiff, Nat.reduceLT, Nat.reduceEqDiff, Nat.reduceBEq, Nat.reduceMul, Int.reduceToNat, Int.reduceEq, Int.reduceLT, Int.reduceLE] <;> try simp only [zB]
   simp only [afterR, Out.ren, SV.ren, mgA, sig, SObj.ren, SV.renL, List.cons_append, List.nil_append, List.append_assoc, List.set_cons_zero, List.set_cons_succ, List.set, List.map, List.append_nil]
   refine run_sound mixed 5 _ ?_
   with_reducible refine sxE ?_
   refine si_drw [1, 2, 3] mixed ?_
   refine goE mixed ?_
   have c3 := mrprin_c 2 (by omega) b (n + k1 + k2) f2 hb
   rcases h3 : needP 2 nameP (b.drop (n + k1 + k2)) with e | ⟨v3, k3⟩
   · have c3' := eff_er c3 h3
     obtain rfl := bind_xe hX h3
     refine callR_eff [0] c3' rfl (by decide) ⟨rfl, rfl, trivial⟩ rfl rfl ?_ ?_
     · simp (maxSteps := 3000000) only [mgA, sig, sameG_cons, sameG_nil, go_sem, ↓zA, ↓reduceIte, ↓reduceDIte, reduceCtorEq, Nat.reduceAdd, Nat.reduceSub, Nat.reduceLeDiff, Nat.reduceLT, Nat.reduceEqDiff, Nat.reduceBEq, Nat.reduceMul, Int.reduceToNat, Int.reduceEq, Int.reduceLT, Int.reduceLE] <;> try simp only [zB]
     · simp only [afterR, Out.ren, SV.ren, mgA, sig, SObj.ren, SV.renL, List.cons_append, List.nil_append, List.append_assoc, List.set_cons_zero, List.set_cons_succ, List.set, List.map, List.append_nil]
       with_reducible refine sxE ?_; trivial
   replace hX := bind_xo hX h3
   have c3' := eff_ok c3 h3
   have f3 := fits_at needP_fits f2 h3
   refine callR_eff [0] c3' rfl (by decide) ⟨rfl, rfl, trivial⟩ rfl rfl ?_ ?_
   · simp (maxSteps := 3000000) only [mgA, sig, sameG_cons, sameG_nil, go_sem, ↓zA, ↓reduceIte, ↓reduceDIte, reduceCtorEq, Nat.reduceAdd, Nat.reduceSub, Nat.reduceLeDiff, Nat.reduceLT, Nat.reduceEqDiff, Nat.reduceBEq, Nat.reduceMul, Int.reduceToNat, Int.reduceEq, Int.reduceLT, Int.reduceLE] <;> try simp only [zB]
   simp only [afterR, Out.ren, SV.ren, mgA, sig, SObj.ren, SV.renL, List.cons_append, List.nil_append, List.append_assoc, List.set_cons_zero, List.set_cons_succ, List.set, List.map, List.append_nil]
   refine run_sound mixed 5 _ ?_
   with_reducible refine sxE ?_
   refine si_drw [1, 2, 3] mixed ?_
   refine goE mixed ?_
   have c4 := mmtime_c 3 (by omega) b (n + k1 + k2 + k3) f3 hb
   rcases h4 : dfltP (0 : Nat) 3 timeP (b.drop (n + k1 + k2 + k3)) with e | ⟨v4, k4⟩
   · have c4' := eff_er c4 h4
     obtain rfl := bind_xe hX h4
     refine callR_eff [0] c4' rfl (by decide) ⟨rfl, rfl, trivial⟩ rfl rfl ?_ ?_
     · simp (maxSteps := 3000000) only [mgA, sig, sameG_cons, sameG_nil, go_sem, ↓zA, ↓reduceIte, ↓reduceDIte, reduceCtorEq, Nat.reduceAdd, Nat.reduceSub, Nat.reduceLeDiff, Nat.reduceLT, Nat.reduceEqDiff, Nat.reduceBEq, Nat.reduceMul, Int.reduceToNat, Int.reduceEq, Int.reduceLT, Int.reduceLE] <;> try simp only [zB]
     · simp only [afterR, Out.ren, SV.ren, mgA, sig, SObj.ren, SV.renL, List.cons_append, List.nil_append, List.append_assoc, List.set_cons_zero, List.set_cons_succ, List.set, List.map, List.append_nil]
       with_reducible refine sxE ?_; trivial
   replace hX := bind_xo hX h4
   have c4' := eff_ok c4 h4
   have f4 := fits_at dfltP_fits f3 h4
   refine callR_eff [0] c4' rfl (by decide) ⟨rfl, rfl, trivial⟩ rfl rfl ?_ ?_
   · simp (maxSteps := 3000000) only [mgA, sig, sameG_cons, sameG_nil, go_sem, ↓zA, ↓reduceIte, ↓reduceDIte, reduceCtorEq, Nat.reduceAdd, Nat.reduceSub, Nat.reduceLeDiff, Nat.reduceLT, Nat.reduceEqDiff, Nat.reduceBEq, Nat.reduceMul, Int.reduceToNat, Int.reduceEq, Int.reduceLT, Int.reduceLE] <;> try simp only [zB]
   simp only [afterR, Out.ren, SV.ren, mgA, sig, SObj.ren, SV.renL, List.cons_append, List.nil_append, List.append_assoc, List.set_cons_zero, List.set_cons_succ, List.set, List.map, List.append_nil]
   refine run_sound mixed 5 _ ?_
   with_reducible refine sxE ?_
   refine si_drw [1, 2, 3] mixed ?_
   refine goE mixed ?_
   have c5 := mrtime_c 4 (by omega) b (n + k1 + k2 + k3 + k4) f4 hb
   rcases h5 : needP 4 timeP (b.drop (n + k1 + k2 + k3 + k4)) with e | ⟨v5, k5⟩
   · have c5' := eff_er c5 h5
     obtain rfl := bind_xe hX h5
     refine callR_eff [0] c5' rfl (by decide) ⟨rfl, rfl, trivial⟩ rfl rfl ?_ ?_
     · simp (maxSteps := 3000000) only [mgA, sig, sameG_cons, sameG_nil, go_sem, ↓zA, ↓reduceIte, ↓reduceDIte, reduceCtorEq, Nat.reduceAdd, Nat.reduceSub, Nat.reduceLeDiff, Nat.reduceLT, Nat.reduceEqDiff, Nat.reduceBEq, Nat.reduceMul, Int.reduceToNat, Int.reduceEq, Int.reduceLT, Int.reduceLE] <;> try simp only [zB]
     · simp only [afterR, Out.ren, SV.ren, mgA, sig, SObj.ren, SV.renL, List.cons_append, List.nil_append, List.append_assoc, List.set_cons_zero, List.set_cons_succ, List.set, List.map, List.append_nil]
       with_reducible refine sxE ?_; trivial
   replace hX := bind_xo hX h5
   have c5' := eff_ok c5 h5
   have f5 := fits_at needP_fits f4 h5
   refine callR_eff [0] c5' rfl (by decide) ⟨rfl, rfl, trivial⟩ rfl rfl ?_ ?_
   · simp (maxSteps := 3000000) only [mgA, sig, sameG_cons, sameG_nil, go_sem, ↓zA, ↓reduceIte, ↓reduceDIte, reduceCtorEq, Nat.reduceAdd, Nat.reduceSub, Nat.reduceLeDiff, Nat.reduceLT, Nat.reduceEqDiff, Nat.reduceBEq, Nat.reduceMul, Int.reduceToNat, Int.reduceEq, Int.reduceLT, Int.reduceLE] <;> try simp only [zB]
   simp only [afterR, Out.ren, SV.ren, mgA, sig, SObj.ren, SV.renL, List.cons_append, List.nil_append, List.append_assoc, List.set_cons_zero, List.set_cons_succ, List.set, List.map, List.append_nil]
   refine run_sound mixed 5 _ ?_
   with_reducible refine sxE ?_
   refine si_drw [1, 2, 3] mixed ?_
   refine goE mixed ?_
   have c6 := mmtime_c 5 (by omega) b (n + k1 + k2 + k3 + k4 + k5) f5 hb
   rcases h6 : dfltP (0 : Nat) 5 timeP (b.drop (n + k1 + k2 + k3 + k4 + k5)) with e | ⟨v6, k6⟩
   · have c6' := eff_er c6 h6
     obtain rfl := bind_xe hX h6
     refine callR_eff [0] c6' rfl (by decide) ⟨rfl, rfl, trivial⟩ rfl rfl ?_ ?_
     · simp (maxSteps := 3000000) only [mgA, sig, sameG_cons, sameG_nil, go_sem, ↓zA, ↓reduceIte, ↓reduceDIte, reduceCtorEq, Nat.reduceAdd, Nat.reduceSub, Nat.reduceLeDiff, Nat.reduceLT, Nat.reduceEqDiff, Nat.reduceBEq, Nat.reduceMul, Int.reduceToNat, Int.reduceEq, Int.reduceLT, Int.reduceLE] <;> try simp only [zB]
     · simp only [afterR, Out.ren, SV.ren, mgA, sig, SObj.ren, SV.renL, List.cons_append, List.nil_append, List.append_assoc, List.set_cons_zero, List.set_cons_succ, List.set, List.map, List.append_nil]
       with_reducible refine sxE ?_; trivial
   replace hX := bind_xo hX h6
   have c6' := eff_ok c6 h6
   have f6 := fits_at dfltP_fits f5 h6
   refine callR_eff [0] c6' rfl (by decide) ⟨rfl, rfl, trivial⟩ rfl rfl ?_ ?_
   · simp (maxSteps := 3000000) only [mgA, sig, sameG_cons, sameG_nil, go_sem, ↓zA, ↓reduceIte, ↓reduceDIte, reduceCtorEq, Nat.reduceAdd, Nat.reduceSub, Nat.reduceLeDiff, Nat.reduceLT, Nat.reduceEqDiff, Nat.reduceBEq, Nat.reduceMul, Int.reduceToNat, Int.reduceEq, Int.reduceLT, Int.reduceLE] <;> try simp only [zB]
   simp only [afterR, Out.ren, SV.ren, mgA, sig, SObj.ren, SV.renL, List.cons_append, List.nil_append, List.append_assoc, List.set_cons_zero, List.set_cons_succ, List.set, List.map, List.append_nil]
   refine run_sound mixed 5 _ ?_
   with_reducible refine sxE ?_
   refine si_drw [1, 2, 3] mixed ?_
   refine goE mixed ?_
   have c7 := mrint_c 6 (by omega) b (n + k1 + k2 + k3 + k4 + k5 + k6) f6 hb
   rcases h7 : needP 6 intP (b.drop (n + k1 + k2 + k3 + k4 + k5 + k6)) with e | ⟨v7, k7⟩
   · have c7' := eff_er c7 h7
     obtain rfl := bind_xe hX h7
     refine callR_eff [0] c7' rfl (by decide) ⟨rfl, rfl, trivial⟩ rfl rfl ?_ ?_
     · simp (maxSteps := 3000000) only [mgA, sig, sameG_cons, sameG_nil, go_sem, ↓zA, ↓reduceIte, ↓reduceDIte, reduceCtorEq, Nat.reduceAdd, Nat.reduceSub, Nat.reduceLeDiff, Nat.reduceLT, Nat.reduceEqDiff, Nat.reduceBEq, Nat.reduceMul, Int.reduceToNat, Int.reduceEq, Int.reduceLT, Int.reduceLE] <;> try simp only [zB]
     · simp only [afterR, Out.ren, SV.ren, mgA, sig, SObj.ren, SV.renL, List.cons_append, List.nil_append, List.append_assoc, List.set_cons_zero, List.set_cons_succ, List.set, List.map, List.append_nil]
       with_reducible refine sxE ?_; trivial
   replace hX := bind_xo hX h7
   have c7' := eff_ok c7 h7
   have f7 := fits_at needP_fits f6 h7
   refine callR_eff [0] c7' rfl (by decide) ⟨rfl, rfl, trivial⟩ rfl rfl ?_ ?_
   · simp (maxSteps := 3000000) only [mgA, sig, sameG_cons, sameG_nil, go_sem, ↓zA, ↓reduceIte, ↓reduceDIte, reduceCtorEq, Nat.reduceAdd, Nat.reduceSub, Nat.reduceLeDiff, Nat.reduceLT, Nat.reduceEqDiff, Nat.reduceBEq, Nat.reduceMul, Int.reduceToNat, Int.reduceEq, Int.reduceLT, Int.reduceLE] <;> try simp only [zB]
   simp only [afterR, Out.ren, SV.ren, mgA, sig, SObj.ren, SV.renL, List.cons_append, List.nil_append, List.append_assoc, List.set_cons_zero, List.set_cons_succ, List.set, List.map, List.append_nil]
   refine run_sound mixed 5 _ ?_
   with_reducible refine sxE ?_
   refine goE mixed ?_
   have c8 := needp 103 7 (by omega) b (n + k1 + k2 + k3 + k4 + k5 + k6 + k7) f7 hb 102 48 _ (cln_raw (cln_isl (cln_raw (cln_isl (cln_raw (cln_isl (cln_raw (cln_raw (cln_raw (cln_raw (cln_raw (cln_raw (cln_raw (cln_raw cln_nil)))))))))))))) numsP inP_fits _ (fun l => (cln_raw (cln_isl (cln_raw (cln_isl (cln_raw (cln_isl (cln_raw (cln_raw (cln_raw (cln_raw (cln_raw (cln_isl (cln_raw (cln_raw cln_nil))))))))))))))) (body1_c k pre v1 v2 v3 v4 v5 v6 v7 (takeC (b.drop _)) 0 (Nat.zero_le _) (tkC_le hb) _)
   rcases h8 : needP 7 numsP (b.drop (n + k1 + k2 + k3 + k4 + k5 + k6 + k7)) with e | ⟨v8, k8⟩
   · have c8' := eff_er c8 h8
     obtain rfl := bind_xe hX h8
     refine effP [0, 3, 1] (c8') ?_; trivial
   replace hX := bind_xo hX h8
   have c8' := eff_ok c8 h8
   have f8 := fits_at needP_fits f7 h8
   refine callI_eff [0, 3, 1] (c8') rfl (by decide) (by repeat first | exact trivial | exact rfl | refine And.intro ?_ ?_) rfl rfl ?_
   simp only [afterO, Out.ren, SV.ren, mgA, sig, SObj.ren, SV.renL, List.set, List.map, List.append_nil]
   refine run_sound mixed 2 _ ?_
   with_reducible refine sxE ?_
   refine si_drw [1, 2, 3] mixed ?_
   refine goE mixed ?_
   have c9 := hA' (n + k1 + k2 + k3 + k4 + k5 + k6 + k7 + k8) f8
   rcases h9 : dfltP [] 8 adrP (b.drop (n + k1 + k2 + k3 + k4 + k5 + k6 + k7 + k8)) with e | ⟨v9, k9⟩
   · have c9' := eff_er c9 h9
     obtain rfl := bind_xe hX h9
     refine callR_eff [0] c9' rfl (by decide) ⟨rfl, rfl, trivial⟩ rfl rfl ?_ ?_
     · simp (maxSteps := 3000000) only [mgA, sig, sameG_cons, sameG_nil, go_sem, ↓zA, ↓reduceIte, ↓reduceDIte, reduceCtorEq, Nat.reduceAdd, Nat.reduceSub, Nat.reduceLeDiff, Nat.reduceLT, Nat.reduceEqDiff, Nat.reduceBEq, Nat.reduceMul, Int.reduceToNat, Int.reduceEq, Int.reduceLT, Int.reduceLE] <;> try simp only [zB]
     · simp only [afterR, Out.ren, SV.ren, mgA, sig, SObj.ren, SV.renL, List.cons_append, List.nil_append, List.append_assoc, List.set_cons_zero, List.set_cons_succ, List.set, List.map, List.append_nil]
       with_reducible refine sxE ?_; trivial
   replace hX := bind_xo hX h9
   have c9' := eff_ok c9 h9
   have f9 := fits_at dfltP_fits f8 h9
   refine callR_eff [0] c9' rfl (by decide) ⟨rfl, rfl, trivial⟩ rfl rfl ?_ ?_
   · simp (maxSteps := 3000000) only [mgA, sig, sameG_cons, sameG_nil, go_sem, ↓zA, ↓reduceIte, ↓reduceDIte, reduceCtorEq, Nat.reduceAdd, Nat.reduceSub, Nat.reduceLeDiff, Nat.reduceLT, Nat.reduceEqDiff, Nat.reduceBEq, Nat.reduceMul, Int.reduceToNat, Int.reduceEq, Int.reduceLT, Int.reduceLE] <;> try simp only [zB]
   simp only [afterR, Out.ren, SV.ren, mgA, sig, SObj.ren, SV.renL, List.cons_append, List.nil_append, List.append_assoc, List.set_cons_zero, List.set_cons_succ, List.set, List.map, List.append_nil]
   refine goE mixed ?_
   cases hn9 : nextB 9 (b.drop (n + k1 + k2 + k3 + k4 + k5 + k6 + k7 + k8 + k9)) with
   | false =>
    replace hX := bind_xo hX (dfltP_no (d := ([] : List Tick)) (p := ticksP) hn9)
    have c10 := maybe_nop 107 9 (by omega) b (n + k1 + k2 + k3 + k4 + k5 + k6 + k7 + k8 + k9) f9 102 48 [rI k, .isl PreT pre, mU (v1 : Nat), .isl .str v2.1, rS v2.2, .isl .str v3.1, rS v3.2, rI (v4 : Nat), rI (v5 : Nat), rI (v6 : Nat), rI v7, .isl I64 v8, .isl PreT v9, .raw (.slice none 0 0)] (cln_raw (cln_isl (cln_raw (cln_isl (cln_raw (cln_isl (cln_raw (cln_raw (cln_raw (cln_raw (cln_raw (cln_isl (cln_isl (cln_raw cln_nil)))))))))))))) hn9
    refine effE mixed [0, 3, 1] (c10) ?_
    subst hX
    simp only [shiftP, retP]
    with_reducible refine sxE ?_
    exact congrArg (Value.int .i64) (by omega)
   | true =>
    have c10 := hTc v1 v2 v3 v4 v5 v6 v7 v8 v9 (n + k1 + k2 + k3 + k4 + k5 + k6 + k7 + k8 + k9) f9 hn9
    rcases h10 : inP (tagB 9) ticksP (b.drop (n + k1 + k2 + k3 + k4 + k5 + k6 + k7 + k8 + k9)) with e | ⟨v10, k10⟩
    · have c10' := eff_er c10 h10
      obtain rfl := bind_xe hX ((dfltP_in hn9).trans h10)
      refine effP [0, 3, 1] (c10') ?_; trivial
    replace hX := bind_xo hX ((dfltP_in hn9).trans h10)
    have c10' := eff_ok c10 h10
    refine effE mixed [0, 3, 1] (c10') ?_
    subst hX
    simp only [shiftP, retP]
    with_reducible refine sxE ?_
    exact congrArg (Value.int .i64) (by omega)
 · have hcl : cliP k = retP (([], ⟨#[]⟩) : Prin) := if_neg hk
   rw [hcl] at hX
   replace hX := bind_xo hX (show retP (([], ⟨#[]⟩) : Prin) (b.drop (n + k1)) = .ok (([], ⟨#[]⟩), 0) from rfl)
   rw [Nat.add_zero, Nat.add_zero] at hX
   refine run_sound mixed 9 _ ?_
   with_reducible refine sxE ?_
   refine ⟨fun h => absurd h hk, fun _ => ?_⟩
   refine run_sound mixed 2 _ ?_
   with_reducible refine sxE ?_
   refine si_drw [1, 2, 3] mixed ?_
   refine goE mixed ?_
   have c3 := mrprin_c 2 (by omega) b (n + k1) f1 hb
   rcases h3 : needP 2 nameP (b.drop (n + k1)) with e | ⟨v3, k3⟩
   · have c3' := eff_er c3 h3
     obtain rfl := bind_xe hX h3
     refine callR_eff [0] c3' rfl (by decide) ⟨rfl, rfl, trivial⟩ rfl rfl ?_ ?_
     · simp (maxSteps := 3000000) only [mgA, sig, sameG_cons, sameG_nil, go_sem, ↓zA, ↓reduceIte, ↓reduceDIte, reduceCtorEq, Nat.reduceAdd, Nat.reduceSub, Nat.reduceLeDiff, Nat.reduceLT, Nat.reduceEqDiff, Nat.reduceBEq, Nat.reduceMul, Int.reduceToNat, Int.reduceEq, Int.reduceLT, Int.reduceLE] <;> try simp only [zB]
     · simp only [afterR, Out.ren, SV.ren, mgA, sig, SObj.ren, SV.renL, List.cons_append, List.nil_append, List.append_assoc, List.set_cons_zero, List.set_cons_succ, List.set, List.map, List.append_nil]
       with_reducible refine sxE ?_; trivial
   replace hX := bind_xo hX h3
   have c3' := eff_ok c3 h3
   have f3 := fits_at needP_fits f1 h3
   refine callR_eff [0] c3' rfl (by decide) ⟨rfl, rfl, trivial⟩ rfl rfl ?_ ?_
   · simp (maxSteps := 3000000) only [mgA, sig, sameG_cons, sameG_nil, go_sem, ↓zA, ↓reduceIte, ↓reduceDIte, reduceCtorEq, Nat.reduceAdd, Nat.reduceSub, Nat.reduceLeDiff, Nat.reduceLT, Nat.reduceEqDiff, Nat.reduceBEq, Nat.reduceMul, Int.reduceToNat, Int.reduceEq, Int.reduceLT, Int.reduceLE] <;> try simp only [zB]
   simp only [afterR, Out.ren, SV.ren, mgA, sig, SObj.ren, SV.renL, List.cons_append, List.nil_append, List.append_assoc, List.set_cons_zero, List.set_cons_succ, List.set, List.map, List.append_nil]
   refine run_sound mixed 5 _ ?_
   with_reducible refine sxE ?_
   refine si_drw [1, 2, 3] mixed ?_
   refine goE mixed ?_
   have c4 := mmtime_c 3 (by omega) b (n + k1 + k3) f3 hb
   rcases h4 : dfltP (0 : Nat) 3 timeP (b.drop (n + k1 + k3)) with e | ⟨v4, k4⟩
   · have c4' := eff_er c4 h4
     obtain rfl := bind_xe hX h4
     refine callR_eff [0] c4' rfl (by decide) ⟨rfl, rfl, trivial⟩ rfl rfl ?_ ?_
     · simp (maxSteps := 3000000) only [mgA, sig, sameG_cons, sameG_nil, go_sem, ↓zA, ↓reduceIte, ↓reduceDIte, reduceCtorEq, Nat.reduceAdd, Nat.reduceSub, Nat.reduceLeDiff, Nat.reduceLT, Nat.reduceEqDiff, Nat.reduceBEq, Nat.reduceMul, Int.reduceToNat, Int.reduceEq, Int.reduceLT, Int.reduceLE] <;> try simp only [zB]
     · simp only [afterR, Out.ren, SV.ren, mgA, sig, SObj.ren, SV.renL, List.cons_append, List.nil_append, List.append_assoc, List.set_cons_zero, List.set_cons_succ, List.set, List.map, List.append_nil]
       with_reducible refine sxE ?_; trivial
   replace hX := bind_xo hX h4
   have c4' := eff_ok c4 h4
   have f4 := fits_at dfltP_fits f3 h4
   refine callR_eff [0] c4' rfl (by decide) ⟨rfl, rfl, trivial⟩ rfl rfl ?_ ?_
   · simp (maxSteps := 3000000) only [mgA, sig, sameG_cons, sameG_nil, go_sem, ↓zA, ↓reduceIte, ↓reduceDIte, reduceCtorEq, Nat.reduceAdd, Nat.reduceSub, Nat.reduceLeDiff, Nat.reduceLT, Nat.reduceEqDiff, Nat.reduceBEq, Nat.reduceMul, Int.reduceToNat, Int.reduceEq, Int.reduceLT, Int.reduceLE] <;> try simp only [zB]
   simp only [afterR, Out.ren, SV.ren, mgA, sig, SObj.ren, SV.renL, List.cons_append, List.nil_append, List.append_assoc, List.set_cons_zero, List.set_cons_succ, List.set, List.map, List.append_nil]
   refine run_sound mixed 5 _ ?_
   with_reducible refine sxE ?_
   refine si_drw [1, 2, 3] mixed ?_
   refine goE mixed ?_
   have c5 := mrtime_c 4 (by omega) b (n + k1 + k3 + k4) f4 hb
   rcases h5 : needP 4 timeP (b.drop (n + k1 + k3 + k4)) with e | ⟨v5, k5⟩
   · have c5' := eff_er c5 h5
     obtain rfl := bind_xe hX h5
     refine callR_eff [0] c5' rfl (by decide) ⟨rfl, rfl, trivial⟩ rfl rfl ?_ ?_
     · simp (maxSteps := 3000000) only [mgA, sig, sameG_cons, sameG_nil, go_sem, ↓zA, ↓reduceIte, ↓reduceDIte, reduceCtorEq, Nat.reduceAdd, Nat.reduceSub, Nat.reduceLeDiff, Nat.reduceLT, Nat.reduceEqDiff, Nat.reduceBEq, Nat.reduceMul, Int.reduceToNat, Int.reduceEq, Int.reduceLT, Int.reduceLE] <;> try simp only [zB]
     · simp only [afterR, Out.ren, SV.ren, mgA, sig, SObj.ren, SV.renL, List.cons_append, List.nil_append, List.append_assoc, List.set_cons_zero, List.set_cons_succ, List.set, List.map, List.append_nil]
       with_reducible refine sxE ?_; trivial
   replace hX := bind_xo hX h5
   have c5' := eff_ok c5 h5
   have f5 := fits_at needP_fits f4 h5
   refine callR_eff [0] c5' rfl (by decide) ⟨rfl, rfl, trivial⟩ rfl rfl ?_ ?_
   · simp (maxSteps := 3000000) only [mgA, sig, sameG_cons, sameG_nil, go_sem, ↓zA, ↓reduceIte, ↓reduceDIte, reduceCtorEq, Nat.reduceAdd, Nat.reduceSub, Nat.reduceLeDiff, Nat.reduceLT, Nat.reduceEqDiff, Nat.reduceBEq, Nat.reduceMul, Int.reduceToNat, Int.reduceEq, Int.reduceLT, Int.reduceLE] <;> try simp only [zB]
   simp only [afterR, Out.ren, SV.ren, mgA, sig, SObj.ren, SV.renL, List.cons_append, List.nil_append, List.append_assoc, List.set_cons_zero, List.set_cons_succ, List.set, List.map, List.append_nil]
   refine run_sound mixed 5 _ ?_
   with_reducible refine sxE ?_
   refine si_drw [1, 2, 3] mixed ?_
   refine goE mixed ?_
   have c6 := mmtime_c 5 (by omega) b (n + k1 + k3 + k4 + k5) f5 hb
   rcases h6 : dfltP (0 : Nat) 5 timeP (b.drop (n + k1 + k3 + k4 + k5)) with e | ⟨v6, k6⟩
   · have c6' := eff_er c6 h6
     obtain rfl := bind_xe hX h6
     refine callR_eff [0] c6' rfl (by decide) ⟨rfl, rfl, trivial⟩ rfl rfl ?_ ?_
     · simp (maxSteps := 3000000) only [mgA, sig, sameG_cons, sameG_nil, go_sem, ↓zA, ↓reduceIte, ↓reduceDIte, reduceCtorEq, Nat.reduceAdd, Nat.reduceSub, Nat.reduceLeDiff, Nat.reduceLT, Nat.reduceEqDiff, Nat.reduceBEq, Nat.reduceMul, Int.reduceToNat, Int.reduceEq, Int.reduceLT, Int.reduceLE] <;> try simp only [zB]
     · simp only [afterR, Out.ren, SV.ren, mgA, sig, SObj.ren, SV.renL, List.cons_append, List.nil_append, List.append_assoc, List.set_cons_zero, List.set_cons_succ, List.set, List.map, List.append_nil]
       with_reducible refine sxE ?_; trivial
   replace hX := bind_xo hX h6
   have c6' := eff_ok c6 h6
   have f6 := fits_at dfltP_fits f5 h6
   refine callR_eff [0] c6' rfl (by decide) ⟨rfl, rfl, trivial⟩ rfl rfl ?_ ?_
   · simp (maxSteps := 3000000) only [mgA, sig, sameG_cons, sameG_nil, go_sem, ↓zA, ↓reduceIte, ↓reduceDIte, reduceCtorEq, Nat.reduceAdd, Nat.reduceSub, Nat.reduceLeDiff, Nat.reduceLT, Nat.reduceEqDiff, Nat.reduceBEq, Nat.reduceMul, Int.reduceToNat, Int.reduceEq, Int.reduceLT, Int.reduceLE] <;> try simp only [zB]
   simp only [afterR, Out.ren, SV.ren, mgA, sig, SObj.ren, SV.renL, List.cons_append, List.nil_append, List.append_assoc, List.set_cons_zero, List.set_cons_succ, List.set, List.map, List.append_nil]
   refine run_sound mixed 5 _ ?_
   with_reducible refine sxE ?_
   refine si_drw [1, 2, 3] mixed ?_
   refine goE mixed ?_
   have c7 := mrint_c 6 (by omega) b (n + k1 + k3 + k4 + k5 + k6) f6 hb
   rcases h7 : needP 6 intP (b.drop (n + k1 + k3 + k4 + k5 + k6)) with e | ⟨v7, k7⟩
   · have c7' := eff_er c7 h7
     obtain rfl := bind_xe hX h7
     refine callR_eff [0] c7' rfl (by decide) ⟨rfl, rfl, trivial⟩ rfl rfl ?_ ?_
     · simp (maxSteps := 3000000) only [mgA, sig, sameG_cons, sameG_nil, go_sem, ↓zA, ↓reduceIte, ↓reduceDIte, reduceCtorEq, Nat.reduceAdd, Nat.reduceSub, Nat.reduceLeDiff, Nat.reduceLT, Nat.reduceEqDiff, Nat.reduceBEq, Nat.reduceMul, Int.reduceToNat, Int.reduceEq, Int.reduceLT, Int.reduceLE] <;> try simp only [zB]
     · simp only [afterR, Out.ren, SV.ren, mgA, sig, SObj.ren, SV.renL, List.cons_append, List.nil_append, List.append_assoc, List.set_cons_zero, List.set_cons_succ, List.set, List.map, List.append_nil]
       with_reducible refine sxE ?_; trivial
   replace hX := bind_xo hX h7
   have c7' := eff_ok c7 h7
   have f7 := fits_at needP_fits f6 h7
   refine callR_eff [0] c7' rfl (by decide) ⟨rfl, rfl, trivial⟩ rfl rfl ?_ ?_
   · simp (maxSteps := 3000000) only [mgA, sig, sameG_cons, sameG_nil, go_sem, ↓zA, ↓reduceIte, ↓reduceDIte, reduceCtorEq, Nat.reduceAdd, Nat.reduceSub, Nat.reduceLeDiff, Nat.reduceLT, Nat.reduceEqDiff, Nat.reduceBEq, Nat.reduceMul, Int.reduceToNat, Int.reduceEq, Int.reduceLT, Int.reduceLE] <;> try simp only [zB]
   simp only [afterR, Out.ren, SV.ren, mgA, sig, SObj.ren, SV.renL, List.cons_append, List.nil_append, List.append_assoc, List.set_cons_zero, List.set_cons_succ, List.set, List.map, List.append_nil]
   refine run_sound mixed 5 _ ?_
   with_reducible refine sxE ?_
   refine goE mixed ?_
   have c8 := needp 103 7 (by omega) b (n + k1 + k3 + k4 + k5 + k6 + k7) f7 hb 102 48 _ (cln_raw (cln_isl (cln_raw (cln_raw (cln_raw (cln_isl (cln_raw (cln_raw (cln_raw (cln_raw (cln_raw (cln_raw (cln_raw (cln_raw cln_nil)))))))))))))) numsP inP_fits _ (fun l => (cln_raw (cln_isl (cln_raw (cln_raw (cln_raw (cln_isl (cln_raw (cln_raw (cln_raw (cln_raw (cln_raw (cln_isl (cln_raw (cln_raw cln_nil))))))))))))))) (body1_z k pre v1 v3 v4 v5 v6 v7 (takeC (b.drop _)) 0 (Nat.zero_le _) (tkC_le hb) _)
   rcases h8 : needP 7 numsP (b.drop (n + k1 + k3 + k4 + k5 + k6 + k7)) with e | ⟨v8, k8⟩
   · have c8' := eff_er c8 h8
     obtain rfl := bind_xe hX h8
     refine effP [0, 3, 1] (c8') ?_; trivial
   replace hX := bind_xo hX h8
   have c8' := eff_ok c8 h8
   have f8 := fits_at needP_fits f7 h8
   refine callI_eff [0, 3, 1] (c8') rfl (by decide) (by repeat first | exact trivial | exact rfl | refine And.intro ?_ ?_) rfl rfl ?_
   simp only [afterO, Out.ren, SV.ren, mgA, sig, SObj.ren, SV.renL, List.set, List.map, List.append_nil]
   refine run_sound mixed 2 _ ?_
   with_reducible refine sxE ?_
   refine si_drw [1, 2, 3] mixed ?_
   refine goE mixed ?_
   have c9 := hA' (n + k1 + k3 + k4 + k5 + k6 + k7 + k8) f8
   rcases h9 : dfltP [] 8 adrP (b.drop (n + k1 + k3 + k4 + k5 + k6 + k7 + k8)) with e | ⟨v9, k9⟩
   · have c9' := eff_er c9 h9
     obtain rfl := bind_xe hX h9
     refine callR_eff [0] c9' rfl (by decide) ⟨rfl, rfl, trivial⟩ rfl rfl ?_ ?_
     · simp (maxSteps := 3000000) only [mgA, sig, sameG_cons, sameG_nil, go_sem, ↓zA, ↓reduceIte, ↓reduceDIte, reduceCtorEq, Nat.reduceAdd, Nat.reduceSub, Nat.reduceLeDiff, Nat.reduceLT, Nat.reduceEqDiff, Nat.reduceBEq, Nat.reduceMul, Int.reduceToNat, Int.reduceEq, Int.reduceLT, Int.reduceLE] <;> try simp only [zB]
     · simp only [afterR, Out.ren, SV.ren, mgA, sig, SObj.ren, SV.renL, List.cons_append, List.nil_append, List.append_assoc, List.set_cons_zero, List.set_cons_succ, List.set, List.map, List.append_nil]
       with_reducible refine sxE ?_; trivial
   replace hX := bind_xo hX h9
   have c9' := eff_ok c9 h9
   have f9 := fits_at dfltP_fits f8 h9
   refine callR_eff [0] c9' rfl (by decide) ⟨rfl, rfl, trivial⟩ rfl rfl ?_ ?_
   · simp (maxSteps := 3000000) only [mgA, sig, sameG_cons, sameG_nil, go_sem, ↓zA, ↓reduceIte, ↓reduceDIte, reduceCtorEq, Nat.reduceAdd, Nat.reduceSub, Nat.reduceLeDiff, Nat.reduceLT, Nat.reduceEqDiff, Nat.reduceBEq, Nat.reduceMul, Int.reduceToNat, Int.reduceEq, Int.reduceLT, Int.reduceLE] <;> try simp only [zB]
   simp only [afterR, Out.ren, SV.ren, mgA, sig, SObj.ren, SV.renL, List.cons_append, List.nil_append, List.append_assoc, List.set_cons_zero, List.set_cons_succ, List.set, List.map, List.append_nil]
   refine goE mixed ?_
   cases hn9 : nextB 9 (b.drop (n + k1 + k3 + k4 + k5 + k6 + k7 + k8 + k9)) with
   | false =>
    replace hX := bind_xo hX (dfltP_no (d := ([] : List Tick)) (p := ticksP) hn9)
    have c10 := maybe_nop 107 9 (by omega) b (n + k1 + k3 + k4 + k5 + k6 + k7 + k8 + k9) f9 102 48 [rI k, .isl PreT pre, mU (v1 : Nat), .raw (.slice none 0 0), rS ⟨#[]⟩, .isl .str v3.1, rS v3.2, rI (v4 : Nat), rI (v5 : Nat), rI (v6 : Nat), rI v7, .isl I64 v8, .isl PreT v9, .raw (.slice none 0 0)] (cln_raw (cln_isl (cln_raw (cln_raw (cln_raw (cln_isl (cln_raw (cln_raw (cln_raw (cln_raw (cln_raw (cln_isl (cln_isl (cln_raw cln_nil)))))))))))))) hn9
    refine effE mixed [0, 3, 1] (c10) ?_
    subst hX
    simp only [shiftP, retP]
    with_reducible refine sxE ?_
    exact congrArg (Value.int .i64) (by omega)
   | true =>
    have c10 := hTz v1 v3 v4 v5 v6 v7 v8 v9 (n + k1 + k3 + k4 + k5 + k6 + k7 + k8 + k9) f9 hn9
    rcases h10 : inP (tagB 9) ticksP (b.drop (n + k1 + k3 + k4 + k5 + k6 + k7 + k8 + k9)) with e | ⟨v10, k10⟩
    · have c10' := eff_er c10 h10
      obtain rfl := bind_xe hX ((dfltP_in hn9).trans h10)
      refine effP [0, 3, 1] (c10') ?_; trivial
    replace hX := bind_xo hX ((dfltP_in hn9).trans h10)
    have c10' := eff_ok c10 h10
    refine effE mixed [0, 3, 1] (c10') ?_
    subst hX
    simp only [shiftP, retP]
    with_reducible refine sxE ?_
    exact congrArg (Value.int .i64) (by omega)
end Go.Proofs.YtoeieekegmmdkaaGreatDoor

/- Contracts: messages: reading a request. -/
namespace Go.Proofs.YtoeieekegmmdkaaGreatDoor
open Go Go.Sx Go.Proofs
set_option maxRecDepth 100000
set_option maxHeartbeats 4000000
set_option linter.unusedSimpArgs false

structure BodH (k : Int) (pre : List Pre) (b : List UInt8) : Prop where
 a : ∀ q, q ≤ b.length → nextB 8 (b.drop q) = true → Eff Tryz.prog 106 [.agg [.ptr 0 0], rI 8] b q [] (fun l : List Pre => .isl PreT l) (fun _ => []) (inP (tagB 8) adrP (b.drop q))
 c : ∀ (o : Int) (c s : Prin) (f t w m : Int) (pf : List Int) (ad : List Pre) (q : Nat), q ≤ b.length → nextB 9 (b.drop q) = true → Eff Tryz.prog 93 [.agg [.ptr 0 0], rI 9, .fn 107 [] [.ptr 1 0]] b q [.cells 102 [.ptr 2 0], rqO [rI k, .isl PreT pre, mU o, .isl .str c.1, rS c.2, .isl .str s.1, rS s.2, rI f, rI t, rI w, rI m, .isl I64 pf, .isl PreT ad, .raw (.slice none 0 0)]] (fun _ => rB true) (fun l : List Tick => [.cells 102 [.ptr 2 0], rqO [rI k, .isl PreT pre, mU o, .isl .str c.1, rS c.2, .isl .str s.1, rS s.2, rI f, rI t, rI w, rI m, .isl I64 pf, .isl PreT ad, .isl TickT l]]) (inP (tagB 9) ticksP (b.drop q))
 z : ∀ (o : Int) (s : Prin) (f t w m : Int) (pf : List Int) (ad : List Pre) (q : Nat), q ≤ b.length → nextB 9 (b.drop q) = true → Eff Tryz.prog 93 [.agg [.ptr 0 0], rI 9, .fn 107 [] [.ptr 1 0]] b q [.cells 102 [.ptr 2 0], rqO [rI k, .isl PreT pre, mU o, .raw (.slice none 0 0), rS ⟨#[]⟩, .isl .str s.1, rS s.2, rI f, rI t, rI w, rI m, .isl I64 pf, .isl PreT ad, .raw (.slice none 0 0)]] (fun _ => rB true) (fun l : List Tick => [.cells 102 [.ptr 2 0], rqO [rI k, .isl PreT pre, mU o, .raw (.slice none 0 0), rS ⟨#[]⟩, .isl .str s.1, rS s.2, rI f, rI t, rI w, rI m, .isl I64 pf, .isl PreT ad, .isl TickT l]]) (inP (tagB 9) ticksP (b.drop q))
structure BodB (B : List UInt8 → Prop) : Prop where
 tk : ∀ r, B r → B (takeC r)
 dr : ∀ r n, B r → B (r.drop n)
 h : ∀ k pre c, B c → BodH k pre c
@[go_sem] abbrev rq0 (k : Int) (pre : SV) : SObj := rqO [rI k, pre, .raw (.int .u32 0), .raw (.slice none 0 0), rS ⟨#[]⟩, .raw (.slice none 0 0), rS ⟨#[]⟩, rI 0, rI 0, rI 0, rI 0, .raw (.slice none 0 0), .raw (.slice none 0 0), .raw (.slice none 0 0)]
theorem bodP_fits (k : Int) (pre : List Pre) : FitsP (bodP k pre) := bindP_fits needP_fits fun _ => bindP_fits (by unfold cliP; split <;> first | exact needP_fits | exact retP_fits) fun _ => bindP_fits needP_fits fun _ => bindP_fits dfltP_fits fun _ => bindP_fits needP_fits fun _ => bindP_fits dfltP_fits fun _ => bindP_fits needP_fits fun _ => bindP_fits needP_fits fun _ => bindP_fits dfltP_fits fun _ => bindP_fits dfltP_fits fun _ => retP_fits
theorem rq111_c {B : List UInt8 → Prop} (hB : BodB B) (k : Int) (pre : List Pre) (b : List UInt8) (n : Nat) (hn : n ≤ b.length) (hb : b.length ≤ 1099511627776) (hh : B b) :
 Eff Tryz.prog 63 [.agg [.ptr 0 0], .ptr 1 0] b n [rq0 k (.isl PreT pre)] (fun _ => .tup []) (fun r => [rqO (ReqT.cells r)]) (bodP k pre (b.drop n)) := by
 have h := hB.h k pre b hh
 have hm := mbody_c k pre b n hn hb h.a h.c h.z
 cases hx : bodP k pre (b.drop n) with
 | error e =>
  have hm' := eff_er hm hx
  refine pe_seal (by simp) ?_
  refine runE mixed fi63 ?_
  refine effP [0, 1] (hm') ?_; trivial
 | ok x =>
  obtain ⟨v, q⟩ := x
  have hm' := eff_ok hm hx
  refine pe_seal (by simp) ?_
  refine runE mixed fi63 ?_
  refine effE mixed [0, 1] (hm') ?_; trivial
theorem cln_rq0 (k : Int) (pre : List Pre) : Cln [rI k, .isl PreT pre, .raw (.int .u32 0), .raw (.slice none 0 0), rS ⟨#[]⟩, .raw (.slice none 0 0), rS ⟨#[]⟩, rI 0, rI 0, rI 0, rI 0, .raw (.slice none 0 0), .raw (.slice none 0 0), .raw (.slice none 0 0)] := cln_raw (cln_isl (cln_raw (cln_raw (cln_raw (cln_raw (cln_raw (cln_raw (cln_raw (cln_raw (cln_raw (cln_raw (cln_raw (cln_raw cln_nil)))))))))))))
def bodS (k : Int) (pre : List Pre) : PR Req := inP 48 (bodP k pre)
theorem rq11_c {B : List UInt8 → Prop} (hB : BodB B) (k : Int) (pre : List Pre) (b : List UInt8) (n : Nat) (hn : n ≤ b.length) (hb : b.length ≤ 1099511627776) (hh : B b) :
 Eff Tryz.prog 61 [.agg [.ptr 0 0], .ptr 1 0] b n [rq0 k (.isl PreT pre)] (fun _ => .tup []) (fun r => [rqO (ReqT.cells r)]) (bodS k pre (b.drop n)) := by
 have hm := sequence1 63 b n hn hb 48 _ (cln_rq0 k pre) (bodP k pre) (bodP_fits k pre) (fun r => ReqT.cells r) (fun r => cln_ty ReqT r) (rq111_c hB k pre (takeC (b.drop n)) 0 (Nat.zero_le _) (tkC_le hb) (hB.tk _ (hB.dr _ _ hh)))
 change Eff _ _ _ _ _ _ _ _ (bodS k pre (b.drop n)) at hm
 cases hx : bodS k pre (b.drop n) with
 | error e =>
  have hm' := eff_er hm hx
  refine pe_seal (by simp) ?_
  refine runE mixed fi61 ?_
  refine effP [0, 1] (hm') ?_; trivial
 | ok x =>
  obtain ⟨v, q⟩ := x
  have hm' := eff_ok hm hx
  refine pe_seal (by simp) ?_
  refine runE mixed fi61 ?_
  refine effE mixed [0, 1] (hm') ?_; trivial
def rqIn (k : Int) : PR Req := bindP (needP 1 (cstP 5)) fun _ => bindP (needP 2 (cstP k)) fun _ => bindP (dfltP [] 3 dataP) fun pre => bindP (needP 4 (bodS k pre)) fun r => retP r
theorem rqIn_fits (k : Int) : FitsP (rqIn k) := bindP_fits needP_fits fun _ => bindP_fits needP_fits fun _ => bindP_fits dfltP_fits fun _ => bindP_fits needP_fits fun _ => retP_fits
theorem rq1_c {B : List UInt8 → Prop} (hB : BodB B) (k : Int) (b : List UInt8) (n : Nat) (hn : n ≤ b.length) (hb : b.length ≤ 1099511627776) (hh : B b) :
 Eff Tryz.prog 57 [.agg [.ptr 0 0], .iptr I64 k 0, .ptr 1 0] b n [rq0 k (.raw (.slice none 0 0))] (fun _ => .tup []) (fun r => [rqO (ReqT.cells r)]) (rqIn k (b.drop n)) := by
 refine eff_of (fun _ => Nat.le_refl _) ?_
 obtain ⟨X, hX0⟩ : ∃ X, X = rqIn k (b.drop n) := ⟨_, rfl⟩
 rw [← hX0]
 have hX := hX0.trans bind_x0
 clear hX0
 unfold rqIn at hX
 refine runE mixed fi57 ?_
 have c1 := mcst_c 1 (by omega) 5 b (n) hn hb
 rcases h1 : needP 1 (cstP 5) (b.drop (n)) with e | ⟨v1, k1⟩
 · have c1' := eff_er c1 h1
   obtain rfl := bind_xe hX h1
   refine effP [0] (c1') ?_; trivial
 replace hX := bind_xo hX h1
 have c1' := eff_ok c1 h1
 have f1 := fits_at needP_fits hn h1
 refine effE mixed [0] (c1') ?_
 have c2 := mcst_c 2 (by omega) k b (n + k1) f1 hb
 rcases h2 : needP 2 (cstP k) (b.drop (n + k1)) with e | ⟨v2, k2⟩
 · have c2' := eff_er c2 h2
   obtain rfl := bind_xe hX h2
   refine effP [0] (c2') ?_; trivial
 replace hX := bind_xo hX h2
 have c2' := eff_ok c2 h2
 have f2 := fits_at needP_fits f1 h2
 refine effE mixed [0] (c2') ?_
 have c3 := mpre_c 3 (by omega) b (n + k1 + k2) f2 hb
 rcases h3 : dfltP [] 3 dataP (b.drop (n + k1 + k2)) with e | ⟨v3, k3⟩
 · have c3' := eff_er c3 h3
   obtain rfl := bind_xe hX h3
   refine effP [0] (c3') ?_; trivial
 replace hX := bind_xo hX h3
 have c3' := eff_ok c3 h3
 have f3 := fits_at dfltP_fits f2 h3
 refine effE mixed [0] (c3') ?_
 have c4 := need1 61 4 (by omega) b (n + k1 + k2 + k3) f3 hb 48 _ (cln_rq0 k v3) (bodS k v3) inP_fits _ (fun r => cln_ty ReqT r) (rq11_c hB k v3 (takeC (b.drop _)) 0 (Nat.zero_le _) (tkC_le hb) (hB.tk _ (hB.dr _ _ hh)))
 rcases h4 : needP 4 (bodS k v3) (b.drop (n + k1 + k2 + k3)) with e | ⟨v4, k4⟩
 · have c4' := eff_er c4 h4
   obtain rfl := bind_xe hX h4
   refine effP [0, 1] (c4') ?_; trivial
 replace hX := bind_xo hX h4
 have c4' := eff_ok c4 h4
 have f4 := fits_at needP_fits f3 h4
 refine effE mixed [0, 1] (c4') ?_
 subst hX
 simp only [shiftP, retP]
 with_reducible refine sxE ?_
 exact congrArg (Value.int .i64) (by omega)
def reqP (k : Nat) : PR Req := inP (appB k) (inP 48 (rqIn k))
theorem readReq_c {B : List UInt8 → Prop} (hB : BodB B) (k : Nat) (hk : k ≤ 30) (b : List UInt8) (n : Nat) (hn : n ≤ b.length) (hb : b.length ≤ 1099511627776) (hh : B b) :
 Eff Tryz.prog 26 [.agg [.ptr 0 0], rI (k : Nat)] b n [] (fun r => .agg (ReqT.cells r)) (fun _ => []) (reqP k (b.drop n)) := by
 have h1 := rq1_c hB (k : Nat) (takeC (takeC (b.drop n))) 0 (Nat.zero_le _) (Nat.le_trans (takeC_len _) (tkC_le hb)) (hB.tk _ (hB.tk _ (hB.dr _ _ hh)))
 rw [List.drop_zero] at h1
 have hc : Cln [rI (k : Nat), .raw (.slice none 0 0), .raw (.int .u32 0), .raw (.slice none 0 0), rS ⟨#[]⟩, .raw (.slice none 0 0), rS ⟨#[]⟩, rI 0, rI 0, rI 0, rI 0, .raw (.slice none 0 0), .raw (.slice none 0 0), .raw (.slice none 0 0)] := cln_raw (cln_raw (cln_raw (cln_raw (cln_raw (cln_raw (cln_raw (cln_raw (cln_raw (cln_raw (cln_raw (cln_raw (cln_raw (cln_raw cln_nil)))))))))))))
 have hm := applicationk 57 k hk b n hn hb (k : Nat) 48 _ hc (rqIn k) (rqIn_fits k) (fun r => ReqT.cells r) (fun r => cln_ty ReqT r) h1
 change Eff _ _ _ _ _ _ _ _ (reqP k (b.drop n)) at hm
 cases hx : reqP k (b.drop n) with
 | error e =>
  have hm' := eff_er hm hx
  refine pe_seal (by simp) ?_
  refine vc_fi fi26 (run_sound mixed 4 _ ?_)
  with_reducible refine sxE ?_
  refine si_frzc 3 2 (ty := I64) (x := ((k : Nat) : Int)) rfl trivial rfl rfl ?_
  refine goE mixed ?_
  refine effP [0, 4] (hm') ?_; trivial
 | ok x =>
  obtain ⟨v, q⟩ := x
  have hm' := eff_ok hm hx
  refine pe_seal (by simp) ?_
  refine vc_fi fi26 (run_sound mixed 4 _ ?_)
  with_reducible refine sxE ?_
  refine si_frzc 3 2 (ty := I64) (x := ((k : Nat) : Int)) rfl trivial rfl rfl ?_
  refine goE mixed ?_
  refine effE mixed [0, 4] (hm') ?_; trivial
theorem readReq1_c {B : List UInt8 → Prop} (hB : BodB B) (k : Nat) (hk : k ≤ 30) (b : List UInt8) (n : Nat) (hn : n ≤ b.length) (hb : b.length ≤ 1099511627776) (hh : B b) :
 Eff Tryz.prog 25 [.agg [.ptr 0 0], .iptr I64 (k : Nat) 0] b n [] (fun r => .agg (ReqT.cells r)) (fun _ => []) (reqP k (b.drop n)) := by
 have hm := readReq_c hB k hk b n hn hb hh
 cases hx : reqP k (b.drop n) with
 | error e =>
  have hm' := eff_er hm hx
  refine pe_seal (by simp) ?_
  refine runE mixed fi25 ?_
  refine effP [0] (hm') ?_; trivial
 | ok x =>
  obtain ⟨v, q⟩ := x
  have hm' := eff_ok hm hx
  refine pe_seal (by simp) ?_
  refine runE mixed fi25 ?_
  refine effE mixed [0] (hm') ?_; trivial
theorem dpanR_c (o : SObj) (T : TypeId) (x : Value) (R : List SObj) (K : List SObj → Prop) (h : ∀ G, K (o :: .cells T [rI 6] :: (R ++ G))) : DCall Tryz.prog 65 [.ptr 1 0] (some wrongV) (o :: .cells T [.raw x] :: R) K := by
 refine recE mixed fi65 ?_
 exact h _
def badR (k : Nat) (b : List UInt8) : Prop := (∃ e, reqP k b = .error e) ∨ ∃ r m, reqP k b = .ok (r, m) ∧ m < b.length
theorem decodeR_bad {B : List UInt8 → Prop} (hB : BodB B) (k : Nat) (hk : k ≤ 30) (b : List UInt8) (hb : b.length ≤ 1099511627776) (hh : B b) (hbad : badR k b) : PC Tryz.prog 27 [.isl .u8 b, .fn 25 [] [.iptr I64 (k : Nat) 0], .fn 19 [] [], .fn 21 [] []] (.tup [.agg (ReqT.cells ReqT.dflt), rI 6]) := by
 have hnew := new_c b (by omega)
 have hread := readReq1_c hB k hk b 0 (Nat.zero_le _) hb hh
 rw [List.drop_zero] at hread
 refine pc_seal rfl rfl ?_
 refine defE mixed fi27 ?_
 refine goE mixed ?_
 refine effE mixed [] (hnew) ?_
 rcases hbad with ⟨e, hx⟩ | ⟨r, m, hx, hm⟩
 · have hr := eff_er hread hx
   refine effP [2] (hr) ?_
   refine ⟨by simp, dpanR_c _ _ _ _ _ fun G => ?_⟩
   with_reducible refine sxE ?_
   exact ⟨rfl, rfl, rfl, rfl, rfl, rfl, rfl, rfl, rfl, rfl, rfl, rfl, rfl, rfl⟩
 · have hr := eff_ok hread hx
   rw [Nat.zero_add] at hr
   refine effE mixed [2] (hr) ?_
   refine effP [2] (done_f b m hm) ?_
   refine ⟨by simp, dpanR_c _ _ _ _ _ fun G => ?_⟩
   with_reducible refine sxE ?_
   exact ⟨rfl, rfl, rfl, rfl, rfl, rfl, rfl, rfl, rfl, rfl, rfl, rfl, rfl, rfl⟩
theorem decReq_bad {B : List UInt8 → Prop} (hB : BodB B) (k : Nat) (hk : k ≤ 30) (b : List UInt8) (hb : b.length ≤ 1099511627776) (hh : B b) (hK : kindB b 0 = true) (hV : kindV b 0 = (k : Nat)) (hbad : badR k b) : PC Tryz.prog 14 [.isl .u8 b] (.tup [.agg (ReqT.cells ReqT.dflt), rI 6]) := by
 have hd := decodeR_bad hB k hk b hb hh hbad
 have hko := kindOf_c b 0 (by omega)
 rw [hK, hV] at hko
 refine pc_seal rfl rfl ?_
 refine runE mixed fi14 ?_
 refine callI_pure hko ?_
 refine run_sound mixed 6 _ ?_
 with_reducible refine sxE ?_
 refine si_frzc 4 1 (ty := I64) (x := ((k : Nat) : Int)) rfl trivial rfl rfl ?_
 refine goE mixed ?_
 refine callI_pure hd ?_
 refine goE mixed ?_; trivial
end Go.Proofs.YtoeieekegmmdkaaGreatDoor

