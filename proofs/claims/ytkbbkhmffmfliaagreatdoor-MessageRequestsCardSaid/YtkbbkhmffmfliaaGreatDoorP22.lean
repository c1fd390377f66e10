/- Contracts: messages: reading the body of a request. -/
import Derived.Test.YtkbbkhmffmfliaaGreatDoorP21
import Derived.Test.YtkbbkhmffmfliaaGreatDoorP17
set_option linter.all false
namespace Go.Proofs.YtkbbkhmffmfliaaGreatDoor
open Go Go.Sx Go.Proofs
set_option maxRecDepth 100000
set_option maxHeartbeats 4000000
def visA (l : List UInt8) : Bool := allN l.length fun j => decide (33 ≤ ((l.getD j Ty.u8.dflt).toNat : Int)) && decide (((l.getD j Ty.u8.dflt).toNat : Int) ≤ 126)
def vAdr (a : Pre) : Bool := (decide (a.1 = 2) && decide ((a.2.length : Int) = 4)) || ((decide (a.1 = 20) && (decide (1 ≤ (a.2.length : Int)) && (decide ((a.2.length : Int) ≤ 16) && visA a.2))) || (decide (a.1 = 24) && decide ((a.2.length : Int) = 16)))
def adrAt (l : List Pre) (j : Nat) : Bool := vAdr (l.getD j PreT.dflt)
def vAdrs (l : List Pre) : Bool := decide ((l.length : Int) ≤ 16) && allN l.length (adrAt l)
def adrP : PR (List Pre) := fun r => chkP vAdrs (dataP r)
def vSeal (s : Key) : Bool := decide (keyLen s.1 ≠ 0) && (mIn 0 65535 s.2.1 && decide ((s.2.2.length : Int) ≤ 65536))
def vTick (t : Tick) : Bool := vPrin t.1 && vSeal t.2
def tickIn : PR Tick := bindP (needP 0 (cstP 5)) fun _ => bindP (needP 1 nameP) fun s => bindP (needP 2 keyP) fun e => retP ((s, e) : Tick)
def tickP : PR Tick := fun r => chkP vTick (inP (appB 1) (inP 48 tickIn) r)
def ticksP : PR (List Tick) := inP 48 (listP tickP 16)
def cliP (k : Int) : PR Prin := if k = 10 then needP 1 nameP else retP (([], ⟨#[]⟩) : Prin)
def bodP (k : Int) (pre : List Pre) : PR Req := bindP (needP 0 bitsP) fun o => bindP (cliP k) fun c => bindP (needP 2 nameP) fun s => bindP (dfltP (0 : Nat) 3 timeP) fun f => bindP (needP 4 timeP) fun t => bindP (dfltP (0 : Nat) 5 timeP) fun w => bindP (needP 6 intP) fun n =>
 bindP (needP 7 (inP 48 (listP intP 16))) fun pf => bindP (dfltP [] 8 adrP) fun a => bindP (dfltP [] 9 ticksP) fun tk => retP ((k, pre, (o : Int), c, s, (f : Int), (t : Int), (w : Int), n, pf, a, tk) : Req)
@[go_sem] abbrev rqO (cs : List SV) : SObj := .cells 33 cs
@[go_sem] abbrev mU (o : Int) : SV := .raw (.int .u32 o)
theorem z5l (b : List UInt8) (n : Nat) (hn : n ≤ b.length) (hb : b.length ≤ 1099511627776) :
 Eff Tryz.prog 160 [.agg [.ptr 0 0]] b n [] (fun x => rI x) (fun _ => []) (intP (b.drop n)) := by
 cases hx : intP (b.drop n) with
 | error e =>
  have hr := q7c b n hn hb hx
  refine q0c (by simp) ?_
  refine rQ fi160 ?_
  refine eQ [0] (hr) ?_
  refine effP [] (q2R _ e (q3Z hx)) ?_; trivial
 | ok x =>
  obtain ⟨v, k⟩ := x
  have hr := q6x b n hn hb hx
  refine q0c (by simp) ?_
  refine rQ fi160 ?_
  refine eQ [0] (hr) ?_
  refine q0a (q4q _) ?_
  refine gQ ?_; trivial
def numsP : PR (List Int) := inP 48 (listP intP 16)
theorem j1t (k : Int) (pre : List Pre) (o : Int) (c : Prin) (s : Prin) (f t w m : Int) (b : List UInt8) (n : Nat) (hn : n ≤ b.length) (hb : b.length ≤ 1099511627776) (T : TypeId) :
 Eff Tryz.prog 158 [.agg [.ptr 0 0], .ptr 1 0] b n [.cells T [.ptr 2 0], rqO [rI k, .isl PreT pre, mU o, .isl .str c.1, rS c.2, .isl .str s.1, rS s.2, rI f, rI t, rI w, rI m, .raw (.slice none 0 0), .raw (.slice none 0 0), .raw (.slice none 0 0)]] (fun _ => .tup []) (fun l : List Int => [.cells T [.ptr 2 0], rqO [rI k, .isl PreT pre, mU o, .isl .str c.1, rS c.2, .isl .str s.1, rS s.2, rI f, rI t, rI w, rI m, .isl I64 l, .raw (.slice none 0 0), .raw (.slice none 0 0)]]) (numsP (b.drop n)) := by
 have hv := q7Q 160 intP q1Z b n hn hb (fun _ _ _ _ _ => trivial) (fun c m hm hc => z5l c m hm hc)
 change Eff _ _ _ _ _ _ _ _ (numsP (b.drop n)) at hv
 refine q5S (fun _ => Nat.le_refl _) ?_
 refine q1L fi158 (q0n mixed 4 _ ?_)
 with_reducible refine sxE ?_
 refine q1w [1, 2, 3] mixed ?_
 refine gQ ?_
 cases hx : numsP (b.drop n) with
 | error e =>
  have hv' := q0B hv hx
  refine q0f [0] hv' rfl (by decide) ⟨rfl, rfl, trivial⟩ rfl rfl ?_ ?_
  · exact rsE
  refine rnE ?_
  with_reducible refine sxE ?_; trivial
 | ok x =>
  obtain ⟨l, q⟩ := x
  have hv' := q0x hv hx
  refine q0f [0] hv' rfl (by decide) ⟨rfl, rfl, trivial⟩ rfl rfl ?_ ?_
  · exact rsE
  refine rnE ?_
  refine gQ ?_; trivial
theorem j3l (k : Int) (pre : List Pre) (o : Int)  (s : Prin) (f t w m : Int) (b : List UInt8) (n : Nat) (hn : n ≤ b.length) (hb : b.length ≤ 1099511627776) (T : TypeId) :
 Eff Tryz.prog 158 [.agg [.ptr 0 0], .ptr 1 0] b n [.cells T [.ptr 2 0], rqO [rI k, .isl PreT pre, mU o, .raw (.slice none 0 0), rS ⟨#[]⟩, .isl .str s.1, rS s.2, rI f, rI t, rI w, rI m, .raw (.slice none 0 0), .raw (.slice none 0 0), .raw (.slice none 0 0)]] (fun _ => .tup []) (fun l : List Int => [.cells T [.ptr 2 0], rqO [rI k, .isl PreT pre, mU o, .raw (.slice none 0 0), rS ⟨#[]⟩, .isl .str s.1, rS s.2, rI f, rI t, rI w, rI m, .isl I64 l, .raw (.slice none 0 0), .raw (.slice none 0 0)]]) (numsP (b.drop n)) := by
 have hv := q7Q 160 intP q1Z b n hn hb (fun _ _ _ _ _ => trivial) (fun c m hm hc => z5l c m hm hc)
 change Eff _ _ _ _ _ _ _ _ (numsP (b.drop n)) at hv
 refine q5S (fun _ => Nat.le_refl _) ?_
 refine q1L fi158 (q0n mixed 4 _ ?_)
 with_reducible refine sxE ?_
 refine q1w [1, 2, 3] mixed ?_
 refine gQ ?_
 cases hx : numsP (b.drop n) with
 | error e =>
  have hv' := q0B hv hx
  refine q0f [0] hv' rfl (by decide) ⟨rfl, rfl, trivial⟩ rfl rfl ?_ ?_
  · exact rsE
  refine rnE ?_
  with_reducible refine sxE ?_; trivial
 | ok x =>
  obtain ⟨l, q⟩ := x
  have hv' := q0x hv hx
  refine q0f [0] hv' rfl (by decide) ⟨rfl, rfl, trivial⟩ rfl rfl ?_ ?_
  · exact rsE
  refine rnE ?_
  refine gQ ?_; trivial
theorem z9i (i : Nat) (hi : i ≤ 30) (b : List UInt8) (n : Nat) (hn : n ≤ b.length) (h : nextB i (b.drop n) = false) :
 PE Tryz.prog 161 [.agg [.ptr 0 0], rI i] [rdr b n] (.ret (.isl PreT [])) [rdr b n] := by
 have hc : Cln [.raw (.slice none 0 0)] := q0d q0C
 have hm := fun T => q5b 210 i hi b n hn T _ hc h
 refine q0c (by simp) ?_
 refine rQ fi161 ?_
 refine eQ [0, 2] (hm _) ?_; trivial
theorem j3h (k : Int) (pre : List Pre) (b : List UInt8) (n : Nat) (hn : n ≤ b.length) (hb : b.length ≤ 1099511627776)
 (hA : ∀ q, q ≤ b.length → nextB 8 (b.drop q) = true → Eff Tryz.prog 161 [.agg [.ptr 0 0], rI 8] b q [] (fun l : List Pre => .isl PreT l) (fun _ => []) (inP (tagB 8) adrP (b.drop q)))
 (hTc : ∀ (o : Int) (c s : Prin) (f t w m : Int) (pf : List Int) (ad : List Pre) (q : Nat), q ≤ b.length → nextB 9 (b.drop q) = true → Eff Tryz.prog 148 [.agg [.ptr 0 0], rI 9, .fn 162 [] [.ptr 1 0]] b q [.cells 121 [.ptr 2 0], rqO [rI k, .isl PreT pre, mU o, .isl .str c.1, rS c.2, .isl .str s.1, rS s.2, rI f, rI t, rI w, rI m, .isl I64 pf, .isl PreT ad, .raw (.slice none 0 0)]] (fun _ => rB true) (fun l : List Tick => [.cells 121 [.ptr 2 0], rqO [rI k, .isl PreT pre, mU o, .isl .str c.1, rS c.2, .isl .str s.1, rS s.2, rI f, rI t, rI w, rI m, .isl I64 pf, .isl PreT ad, .isl TickT l]]) (inP (tagB 9) ticksP (b.drop q)))
 (hTz : ∀ (o : Int) (s : Prin) (f t w m : Int) (pf : List Int) (ad : List Pre) (q : Nat), q ≤ b.length → nextB 9 (b.drop q) = true → Eff Tryz.prog 148 [.agg [.ptr 0 0], rI 9, .fn 162 [] [.ptr 1 0]] b q [.cells 121 [.ptr 2 0], rqO [rI k, .isl PreT pre, mU o, .raw (.slice none 0 0), rS ⟨#[]⟩, .isl .str s.1, rS s.2, rI f, rI t, rI w, rI m, .isl I64 pf, .isl PreT ad, .raw (.slice none 0 0)]] (fun _ => rB true) (fun l : List Tick => [.cells 121 [.ptr 2 0], rqO [rI k, .isl PreT pre, mU o, .raw (.slice none 0 0), rS ⟨#[]⟩, .isl .str s.1, rS s.2, rI f, rI t, rI w, rI m, .isl I64 pf, .isl PreT ad, .isl TickT l]]) (inP (tagB 9) ticksP (b.drop q))) :
 Eff Tryz.prog 102 [.agg [.ptr 0 0], .ptr 1 0] b n [rqO [rI k, .isl PreT pre, .raw (.int .u32 0), .raw (.slice none 0 0), rS ⟨#[]⟩, .raw (.slice none 0 0), rS ⟨#[]⟩, rI 0, rI 0, rI 0, rI 0, .raw (.slice none 0 0), .raw (.slice none 0 0), .raw (.slice none 0 0)]] (fun _ => .tup []) (fun r => [rqO (ReqT.cells r)]) (bodP k pre (b.drop n)) := by
 refine q5S (fun _ => Nat.le_refl _) ?_
 obtain ⟨X, hX0⟩ : ∃ X, X = bodP k pre (b.drop n) := ⟨_, rfl⟩
 rw [← hX0]
 have hX := hX0.trans z7a
 clear hX0
 unfold bodP at hX
 have hA' : ∀ q, q ≤ b.length → Eff Tryz.prog 161 [.agg [.ptr 0 0], rI 8] b q [] (fun l : List Pre => .isl PreT l) (fun _ => []) (dfltP [] 8 adrP (b.drop q)) := fun q hq => by
  cases h8 : nextB 8 (b.drop q) with
  | false => rw [q4l h8]; exact z9i 8 (by omega) b q hq h8
  | true => rw [q3a h8]; exact hA q hq h8
 clear hA
 refine q1L fi102 (q0n mixed 6 _ ?_)
 with_reducible refine sxE ?_
 refine q1w [1, 2, 3] mixed ?_
 refine gQ ?_
 have c1 := z8y 0 (by omega) b (n) hn hb
 rcases h1 : needP 0 bitsP (b.drop (n)) with e | ⟨v1, k1⟩
 · have c1' := q0B c1 h1
   obtain rfl := q1p hX h1
   refine q0f [0] c1' rfl (by decide) ⟨rfl, rfl, trivial⟩ rfl rfl ?_ ?_
   · exact rsE
   refine rnE ?_
   with_reducible refine sxE ?_; trivial
 replace hX := q1g hX h1
 have c1' := q0x c1 h1
 have f1 := q1a q0o hn h1
 refine q0f [0] c1' rfl (by decide) ⟨rfl, rfl, trivial⟩ rfl rfl ?_ ?_
 · exact rsE
 refine rnE ?_
 refine uQ 5 _ ?_
 with_reducible refine sxE ?_
 by_cases hk : k = 10
 · have hcl : cliP k = needP 1 nameP := if_pos hk
   rw [hcl] at hX
   refine uQ 9 _ ?_
   with_reducible refine sxE ?_
   refine ⟨fun _ => ?_, fun h => absurd hk h⟩
   refine q1w [1, 2, 3] mixed ?_
   refine gQ ?_
   have c2 := q8D 1 (by omega) b (n + k1) f1 hb
   rcases h2 : needP 1 nameP (b.drop (n + k1)) with e | ⟨v2, k2⟩
   · have c2' := q0B c2 h2
     obtain rfl := q1p hX h2
     refine q0f [0] c2' rfl (by decide) ⟨rfl, rfl, trivial⟩ rfl rfl ?_ ?_
     · exact rsE
     refine rnE ?_
     with_reducible refine sxE ?_; trivial
   replace hX := q1g hX h2
   have c2' := q0x c2 h2
   have f2 := q1a q0o f1 h2
   refine q0f [0] c2' rfl (by decide) ⟨rfl, rfl, trivial⟩ rfl rfl ?_ ?_
   · exact rsE
   refine rnE ?_
   refine uQ 5 _ ?_
   with_reducible refine sxE ?_
   refine q1w [1, 2, 3] mixed ?_
   refine gQ ?_
   have c3 := q8D 2 (by omega) b (n + k1 + k2) f2 hb
   rcases h3 : needP 2 nameP (b.drop (n + k1 + k2)) with e | ⟨v3, k3⟩
   · have c3' := q0B c3 h3
     obtain rfl := q1p hX h3
     refine q0f [0] c3' rfl (by decide) ⟨rfl, rfl, trivial⟩ rfl rfl ?_ ?_
     · exact rsE
     refine rnE ?_
     with_reducible refine sxE ?_; trivial
   replace hX := q1g hX h3
   have c3' := q0x c3 h3
   have f3 := q1a q0o f2 h3
   refine q0f [0] c3' rfl (by decide) ⟨rfl, rfl, trivial⟩ rfl rfl ?_ ?_
   · exact rsE
   refine rnE ?_
   refine uQ 5 _ ?_
   with_reducible refine sxE ?_
   refine q1w [1, 2, 3] mixed ?_
   refine gQ ?_
   have c4 := q6q 3 (by omega) b (n + k1 + k2 + k3) f3 hb
   rcases h4 : dfltP (0 : Nat) 3 timeP (b.drop (n + k1 + k2 + k3)) with e | ⟨v4, k4⟩
   · have c4' := q0B c4 h4
     obtain rfl := q1p hX h4
     refine q0f [0] c4' rfl (by decide) ⟨rfl, rfl, trivial⟩ rfl rfl ?_ ?_
     · exact rsE
     refine rnE ?_
     with_reducible refine sxE ?_; trivial
   replace hX := q1g hX h4
   have c4' := q0x c4 h4
   have f4 := q1a q1r f3 h4
   refine q0f [0] c4' rfl (by decide) ⟨rfl, rfl, trivial⟩ rfl rfl ?_ ?_
   · exact rsE
   refine rnE ?_
   refine uQ 5 _ ?_
   with_reducible refine sxE ?_
   refine q1w [1, 2, 3] mixed ?_
   refine gQ ?_
   have c5 := z3o 4 (by omega) b (n + k1 + k2 + k3 + k4) f4 hb
   rcases h5 : needP 4 timeP (b.drop (n + k1 + k2 + k3 + k4)) with e | ⟨v5, k5⟩
   · have c5' := q0B c5 h5
     obtain rfl := q1p hX h5
     refine q0f [0] c5' rfl (by decide) ⟨rfl, rfl, trivial⟩ rfl rfl ?_ ?_
     · exact rsE
     refine rnE ?_
     with_reducible refine sxE ?_; trivial
   replace hX := q1g hX h5
   have c5' := q0x c5 h5
   have f5 := q1a q0o f4 h5
   refine q0f [0] c5' rfl (by decide) ⟨rfl, rfl, trivial⟩ rfl rfl ?_ ?_
   · exact rsE
   refine rnE ?_
   refine uQ 5 _ ?_
   with_reducible refine sxE ?_
   refine q1w [1, 2, 3] mixed ?_
   refine gQ ?_
   have c6 := q6q 5 (by omega) b (n + k1 + k2 + k3 + k4 + k5) f5 hb
   rcases h6 : dfltP (0 : Nat) 5 timeP (b.drop (n + k1 + k2 + k3 + k4 + k5)) with e | ⟨v6, k6⟩
   · have c6' := q0B c6 h6
     obtain rfl := q1p hX h6
     refine q0f [0] c6' rfl (by decide) ⟨rfl, rfl, trivial⟩ rfl rfl ?_ ?_
     · exact rsE
     refine rnE ?_
     with_reducible refine sxE ?_; trivial
   replace hX := q1g hX h6
   have c6' := q0x c6 h6
   have f6 := q1a q1r f5 h6
   refine q0f [0] c6' rfl (by decide) ⟨rfl, rfl, trivial⟩ rfl rfl ?_ ?_
   · exact rsE
   refine rnE ?_
   refine uQ 5 _ ?_
   with_reducible refine sxE ?_
   refine q1w [1, 2, 3] mixed ?_
   refine gQ ?_
   have c7 := z6T 6 (by omega) b (n + k1 + k2 + k3 + k4 + k5 + k6) f6 hb
   rcases h7 : needP 6 intP (b.drop (n + k1 + k2 + k3 + k4 + k5 + k6)) with e | ⟨v7, k7⟩
   · have c7' := q0B c7 h7
     obtain rfl := q1p hX h7
     refine q0f [0] c7' rfl (by decide) ⟨rfl, rfl, trivial⟩ rfl rfl ?_ ?_
     · exact rsE
     refine rnE ?_
     with_reducible refine sxE ?_; trivial
   replace hX := q1g hX h7
   have c7' := q0x c7 h7
   have f7 := q1a q0o f6 h7
   refine q0f [0] c7' rfl (by decide) ⟨rfl, rfl, trivial⟩ rfl rfl ?_ ?_
   · exact rsE
   refine rnE ?_
   refine uQ 5 _ ?_
   with_reducible refine sxE ?_
   refine gQ ?_
   have c8 := needp 158 7 (by omega) b (n + k1 + k2 + k3 + k4 + k5 + k6 + k7) f7 hb 121 33 _ (q0d (q0A (q0d (q0A (q0d (q0A (q0d (q0d (q0d (q0d (q0d (q0d (q0d (q0d q0C)))))))))))))) numsP q1E _ (fun l => (q0d (q0A (q0d (q0A (q0d (q0A (q0d (q0d (q0d (q0d (q0d (q0A (q0d (q0d q0C))))))))))))))) (j1t k pre v1 v2 v3 v4 v5 v6 v7 (takeC (b.drop _)) 0 (Nat.zero_le _) (q0J hb) _)
   rcases h8 : needP 7 numsP (b.drop (n + k1 + k2 + k3 + k4 + k5 + k6 + k7)) with e | ⟨v8, k8⟩
   · have c8' := q0B c8 h8
     obtain rfl := q1p hX h8
     refine effP [0, 3, 1] (c8') ?_; trivial
   replace hX := q1g hX h8
   have c8' := q0x c8 h8
   have f8 := q1a q0o f7 h8
   refine q0I [0, 3, 1] (c8') rfl (by decide) (by repeat first | exact trivial | exact rfl | refine And.intro ?_ ?_) rfl rfl ?_
   simp only [afterO, Out.ren, SV.ren, mgA, sig, SObj.ren, SV.renL, List.set, List.map, List.append_nil]
   refine uQ 2 _ ?_
   with_reducible refine sxE ?_
   refine q1w [1, 2, 3] mixed ?_
   refine gQ ?_
   have c9 := hA' (n + k1 + k2 + k3 + k4 + k5 + k6 + k7 + k8) f8
   rcases h9 : dfltP [] 8 adrP (b.drop (n + k1 + k2 + k3 + k4 + k5 + k6 + k7 + k8)) with e | ⟨v9, k9⟩
   · have c9' := q0B c9 h9
     obtain rfl := q1p hX h9
     refine q0f [0] c9' rfl (by decide) ⟨rfl, rfl, trivial⟩ rfl rfl ?_ ?_
     · exact rsE
     refine rnE ?_
     with_reducible refine sxE ?_; trivial
   replace hX := q1g hX h9
   have c9' := q0x c9 h9
   have f9 := q1a q1r f8 h9
   refine q0f [0] c9' rfl (by decide) ⟨rfl, rfl, trivial⟩ rfl rfl ?_ ?_
   · exact rsE
   refine rnE ?_
   refine gQ ?_
   cases hn9 : nextB 9 (b.drop (n + k1 + k2 + k3 + k4 + k5 + k6 + k7 + k8 + k9)) with
   | false =>
    replace hX := q1g hX (q4l (d := ([] : List Tick)) (p := ticksP) hn9)
    have c10 := q7o 162 9 (by omega) b (n + k1 + k2 + k3 + k4 + k5 + k6 + k7 + k8 + k9) f9 121 33 [rI k, .isl PreT pre, mU (v1 : Nat), .isl .str v2.1, rS v2.2, .isl .str v3.1, rS v3.2, rI (v4 : Nat), rI (v5 : Nat), rI (v6 : Nat), rI v7, .isl I64 v8, .isl PreT v9, .raw (.slice none 0 0)] (q0d (q0A (q0d (q0A (q0d (q0A (q0d (q0d (q0d (q0d (q0d (q0A (q0A (q0d q0C)))))))))))))) hn9
    refine eQ [0, 3, 1] (c10) ?_
    subst hX
    simp only [shiftP, retP]
    with_reducible refine sxE ?_
    exact congrArg (Value.int .i64) (by omega)
   | true =>
    have c10 := hTc v1 v2 v3 v4 v5 v6 v7 v8 v9 (n + k1 + k2 + k3 + k4 + k5 + k6 + k7 + k8 + k9) f9 hn9
    rcases h10 : inP (tagB 9) ticksP (b.drop (n + k1 + k2 + k3 + k4 + k5 + k6 + k7 + k8 + k9)) with e | ⟨v10, k10⟩
    · have c10' := q0B c10 h10
      obtain rfl := q1p hX ((q3a hn9).trans h10)
      refine effP [0, 3, 1] (c10') ?_; trivial
    replace hX := q1g hX ((q3a hn9).trans h10)
    have c10' := q0x c10 h10
    refine eQ [0, 3, 1] (c10') ?_
    subst hX
    simp only [shiftP, retP]
    with_reducible refine sxE ?_
    exact congrArg (Value.int .i64) (by omega)
 have hcl : cliP k = retP (([], ⟨#[]⟩) : Prin) := if_neg hk
 rw [hcl] at hX
 replace hX := q1g hX (show retP (([], ⟨#[]⟩) : Prin) (b.drop (n + k1)) = .ok (([], ⟨#[]⟩), 0) from rfl)
 rw [Nat.add_zero, Nat.add_zero] at hX
 refine uQ 9 _ ?_
 with_reducible refine sxE ?_
 refine ⟨fun h => absurd h hk, fun _ => ?_⟩
 refine uQ 2 _ ?_
 with_reducible refine sxE ?_
 refine q1w [1, 2, 3] mixed ?_
 refine gQ ?_
 have c3 := q8D 2 (by omega) b (n + k1) f1 hb
 rcases h3 : needP 2 nameP (b.drop (n + k1)) with e | ⟨v3, k3⟩
 · have c3' := q0B c3 h3
   obtain rfl := q1p hX h3
   refine q0f [0] c3' rfl (by decide) ⟨rfl, rfl, trivial⟩ rfl rfl ?_ ?_
   · exact rsE
   refine rnE ?_
   with_reducible refine sxE ?_; trivial
 replace hX := q1g hX h3
 have c3' := q0x c3 h3
 have f3 := q1a q0o f1 h3
 refine q0f [0] c3' rfl (by decide) ⟨rfl, rfl, trivial⟩ rfl rfl ?_ ?_
 · exact rsE
 refine rnE ?_
 refine uQ 5 _ ?_
 with_reducible refine sxE ?_
 refine q1w [1, 2, 3] mixed ?_
 refine gQ ?_
 have c4 := q6q 3 (by omega) b (n + k1 + k3) f3 hb
 rcases h4 : dfltP (0 : Nat) 3 timeP (b.drop (n + k1 + k3)) with e | ⟨v4, k4⟩
 · have c4' := q0B c4 h4
   obtain rfl := q1p hX h4
   refine q0f [0] c4' rfl (by decide) ⟨rfl, rfl, trivial⟩ rfl rfl ?_ ?_
   · exact rsE
   refine rnE ?_
   with_reducible refine sxE ?_; trivial
 replace hX := q1g hX h4
 have c4' := q0x c4 h4
 have f4 := q1a q1r f3 h4
 refine q0f [0] c4' rfl (by decide) ⟨rfl, rfl, trivial⟩ rfl rfl ?_ ?_
 · exact rsE
 refine rnE ?_
 refine uQ 5 _ ?_
 with_reducible refine sxE ?_
 refine q1w [1, 2, 3] mixed ?_
 refine gQ ?_
 have c5 := z3o 4 (by omega) b (n + k1 + k3 + k4) f4 hb
 rcases h5 : needP 4 timeP (b.drop (n + k1 + k3 + k4)) with e | ⟨v5, k5⟩
 · have c5' := q0B c5 h5
   obtain rfl := q1p hX h5
   refine q0f [0] c5' rfl (by decide) ⟨rfl, rfl, trivial⟩ rfl rfl ?_ ?_
   · exact rsE
   refine rnE ?_
   with_reducible refine sxE ?_; trivial
 replace hX := q1g hX h5
 have c5' := q0x c5 h5
 have f5 := q1a q0o f4 h5
 refine q0f [0] c5' rfl (by decide) ⟨rfl, rfl, trivial⟩ rfl rfl ?_ ?_
 · exact rsE
 refine rnE ?_
 refine uQ 5 _ ?_
 with_reducible refine sxE ?_
 refine q1w [1, 2, 3] mixed ?_
 refine gQ ?_
 have c6 := q6q 5 (by omega) b (n + k1 + k3 + k4 + k5) f5 hb
 rcases h6 : dfltP (0 : Nat) 5 timeP (b.drop (n + k1 + k3 + k4 + k5)) with e | ⟨v6, k6⟩
 · have c6' := q0B c6 h6
   obtain rfl := q1p hX h6
   refine q0f [0] c6' rfl (by decide) ⟨rfl, rfl, trivial⟩ rfl rfl ?_ ?_
   · exact rsE
   refine rnE ?_
   with_reducible refine sxE ?_; trivial
 replace hX := q1g hX h6
 have c6' := q0x c6 h6
 have f6 := q1a q1r f5 h6
 refine q0f [0] c6' rfl (by decide) ⟨rfl, rfl, trivial⟩ rfl rfl ?_ ?_
 · exact rsE
 refine rnE ?_
 refine uQ 5 _ ?_
 with_reducible refine sxE ?_
 refine q1w [1, 2, 3] mixed ?_
 refine gQ ?_
 have c7 := z6T 6 (by omega) b (n + k1 + k3 + k4 + k5 + k6) f6 hb
 rcases h7 : needP 6 intP (b.drop (n + k1 + k3 + k4 + k5 + k6)) with e | ⟨v7, k7⟩
 · have c7' := q0B c7 h7
   obtain rfl := q1p hX h7
   refine q0f [0] c7' rfl (by decide) ⟨rfl, rfl, trivial⟩ rfl rfl ?_ ?_
   · exact rsE
   refine rnE ?_
   with_reducible refine sxE ?_; trivial
 replace hX := q1g hX h7
 have c7' := q0x c7 h7
 have f7 := q1a q0o f6 h7
 refine q0f [0] c7' rfl (by decide) ⟨rfl, rfl, trivial⟩ rfl rfl ?_ ?_
 · exact rsE
 refine rnE ?_
 refine uQ 5 _ ?_
 with_reducible refine sxE ?_
 refine gQ ?_
 have c8 := needp 158 7 (by omega) b (n + k1 + k3 + k4 + k5 + k6 + k7) f7 hb 121 33 _ (q0d (q0A (q0d (q0d (q0d (q0A (q0d (q0d (q0d (q0d (q0d (q0d (q0d (q0d q0C)))))))))))))) numsP q1E _ (fun l => (q0d (q0A (q0d (q0d (q0d (q0A (q0d (q0d (q0d (q0d (q0d (q0A (q0d (q0d q0C))))))))))))))) (j3l k pre v1 v3 v4 v5 v6 v7 (takeC (b.drop _)) 0 (Nat.zero_le _) (q0J hb) _)
 rcases h8 : needP 7 numsP (b.drop (n + k1 + k3 + k4 + k5 + k6 + k7)) with e | ⟨v8, k8⟩
 · have c8' := q0B c8 h8
   obtain rfl := q1p hX h8
   refine effP [0, 3, 1] (c8') ?_; trivial
 replace hX := q1g hX h8
 have c8' := q0x c8 h8
 have f8 := q1a q0o f7 h8
 refine q0I [0, 3, 1] (c8') rfl (by decide) (by repeat first | exact trivial | exact rfl | refine And.intro ?_ ?_) rfl rfl ?_
 simp only [afterO, Out.ren, SV.ren, mgA, sig, SObj.ren, SV.renL, List.set, List.map, List.append_nil]
 refine uQ 2 _ ?_
 with_reducible refine sxE ?_
 refine q1w [1, 2, 3] mixed ?_
 refine gQ ?_
 have c9 := hA' (n + k1 + k3 + k4 + k5 + k6 + k7 + k8) f8
 rcases h9 : dfltP [] 8 adrP (b.drop (n + k1 + k3 + k4 + k5 + k6 + k7 + k8)) with e | ⟨v9, k9⟩
 · have c9' := q0B c9 h9
   obtain rfl := q1p hX h9
   refine q0f [0] c9' rfl (by decide) ⟨rfl, rfl, trivial⟩ rfl rfl ?_ ?_
   · exact rsE
   refine rnE ?_
   with_reducible refine sxE ?_; trivial
 replace hX := q1g hX h9
 have c9' := q0x c9 h9
 have f9 := q1a q1r f8 h9
 refine q0f [0] c9' rfl (by decide) ⟨rfl, rfl, trivial⟩ rfl rfl ?_ ?_
 · exact rsE
 refine rnE ?_
 refine gQ ?_
 cases hn9 : nextB 9 (b.drop (n + k1 + k3 + k4 + k5 + k6 + k7 + k8 + k9)) with
 | false =>
  replace hX := q1g hX (q4l (d := ([] : List Tick)) (p := ticksP) hn9)
  have c10 := q7o 162 9 (by omega) b (n + k1 + k3 + k4 + k5 + k6 + k7 + k8 + k9) f9 121 33 [rI k, .isl PreT pre, mU (v1 : Nat), .raw (.slice none 0 0), rS ⟨#[]⟩, .isl .str v3.1, rS v3.2, rI (v4 : Nat), rI (v5 : Nat), rI (v6 : Nat), rI v7, .isl I64 v8, .isl PreT v9, .raw (.slice none 0 0)] (q0d (q0A (q0d (q0d (q0d (q0A (q0d (q0d (q0d (q0d (q0d (q0A (q0A (q0d q0C)))))))))))))) hn9
  refine eQ [0, 3, 1] (c10) ?_
  subst hX
  simp only [shiftP, retP]
  with_reducible refine sxE ?_
  exact congrArg (Value.int .i64) (by omega)
 | true =>
  have c10 := hTz v1 v3 v4 v5 v6 v7 v8 v9 (n + k1 + k3 + k4 + k5 + k6 + k7 + k8 + k9) f9 hn9
  rcases h10 : inP (tagB 9) ticksP (b.drop (n + k1 + k3 + k4 + k5 + k6 + k7 + k8 + k9)) with e | ⟨v10, k10⟩
  · have c10' := q0B c10 h10
    obtain rfl := q1p hX ((q3a hn9).trans h10)
    refine effP [0, 3, 1] (c10') ?_; trivial
  replace hX := q1g hX ((q3a hn9).trans h10)
  have c10' := q0x c10 h10
  refine eQ [0, 3, 1] (c10') ?_
  subst hX
  simp only [shiftP, retP]
  with_reducible refine sxE ?_
  exact congrArg (Value.int .i64) (by omega)
theorem q9U (p : Int) : decide (0 < keyLen p) = decide (keyLen p ≠ 0) := by unfold keyLen; split <;> (try split) <;> simp
theorem z9p (s : Key) : PC Tryz.prog 179 [.agg (KeyT.cells s)] (rB (vSeal s)) := by
 obtain ⟨p, v, c⟩ := s
 have hd : vSeal (p, v, c) = (decide (0 < keyLen p) && ((decide (0 ≤ v) && decide (v ≤ 65535)) && decide ((c.length : Int) ≤ 65536))) := by rw [q9U]; rfl
 rw [hd]
 refine q0D rfl rfl ?_
 refine rQ fi179 ?_ <;> try with_reducible exact True.intro
 repeat' (first
  | (refine q0a (q9e _) ?_; refine uQ 600 _ ?_; simp (maxSteps := 3000000) only [go_sem, ↓zA, ↓reduceIte, ↓reduceDIte] <;> try simp only [zB])
  | (refine q0b (q9e _) ?_; refine uQ 600 _ ?_; simp (maxSteps := 3000000) only [go_sem, ↓zA, ↓reduceIte, ↓reduceDIte] <;> try simp only [zB])
  | (refine q0q (q9e _) ?_; refine uQ 600 _ ?_; simp (maxSteps := 3000000) only [go_sem, ↓zA, ↓reduceIte, ↓reduceDIte] <;> try simp only [zB])
  | (with_reducible refine And.intro ?_ ?_)
  | (with_reducible intro _))
 all_goals (grind)
theorem q9c (t : Tick) (ho : TickT.ok t) : PC Tryz.prog 131 [.agg (TickT.cells t)] (rB (vTick t)) := by
 obtain ⟨p, s⟩ := t
 have hd : vTick (p, s) = (vPrin p && vSeal s) := rfl
 rw [hd]
 have hs := z9p s
 refine q0D rfl rfl ?_
 refine rQ fi131 ?_ <;> try with_reducible exact True.intro
 repeat' (first
  | (refine q0a (q2e p ho.1) ?_; refine uQ 600 _ ?_; simp (maxSteps := 3000000) only [go_sem, ↓zA, ↓reduceIte, ↓reduceDIte] <;> try simp only [zB])
  | (refine q0b (q2e p ho.1) ?_; refine uQ 600 _ ?_; simp (maxSteps := 3000000) only [go_sem, ↓zA, ↓reduceIte, ↓reduceDIte] <;> try simp only [zB])
  | (refine q0q (q2e p ho.1) ?_; refine uQ 600 _ ?_; simp (maxSteps := 3000000) only [go_sem, ↓zA, ↓reduceIte, ↓reduceDIte] <;> try simp only [zB])
  | (refine q0a (hs) ?_; refine uQ 600 _ ?_; simp (maxSteps := 3000000) only [go_sem, ↓zA, ↓reduceIte, ↓reduceDIte] <;> try simp only [zB])
  | (refine q0b (hs) ?_; refine uQ 600 _ ?_; simp (maxSteps := 3000000) only [go_sem, ↓zA, ↓reduceIte, ↓reduceDIte] <;> try simp only [zB])
  | (refine q0q (hs) ?_; refine uQ 600 _ ?_; simp (maxSteps := 3000000) only [go_sem, ↓zA, ↓reduceIte, ↓reduceDIte] <;> try simp only [zB])
  | (with_reducible refine And.intro ?_ ?_)
  | (with_reducible intro _))
 all_goals (simp_all)
theorem z7O (k : Key) : PC Tryz.prog 185 [.agg (KeyT.cells k)] (.isl .u8 (keyS k)) := by
 refine q0e rfl rfl ?_
 refine rQ fi185 ?_
 refine q0a (z9K _ _ _) ?_
 refine gQ ?_; trivial
theorem j4d (n : Int) (l : List (List UInt8)) (hl : l.length ≤ 1125899906842624) : PC Tryz.prog 184 [rI n, .isl (.slice .u8) l] (.isl .u8 (wrapS 96 n (elemS 48 l))) := by
 refine q0e rfl rfl ?_
 refine rQ fi184 ?_
 refine q0a (q1N l hl) ?_
 refine gQ ?_
 refine q0a (z9V n _) ?_
 refine gQ ?_; trivial
def tickS (t : Tick) : List UInt8 := wrapS 96 1 (elemS 48 [wrapS 160 0 (intS 5), wrapS 160 1 (prinE t.1), wrapS 160 2 (keyS t.2)])
theorem j4w (t : Tick) (ho : TickT.ok t) : PC Tryz.prog 142 [.agg (TickT.cells t)] (.tup [.isl .u8 (if vTick t then tickS t else []), rI (if vTick t then 0 else 2)]) := by
 have hv := q9c t ho
 obtain ⟨p, s⟩ := t
 have hE : tickS (p, s) = wrapS 96 1 (elemS 48 [wrapS 160 0 (intS 5), wrapS 160 1 (if vPrin p then prinS p else []), wrapS 160 2 (keyS s)]) := rfl
 have hn := z0y p ho.1
 have hk := z7O s
 rw [hE]
 clear hE
 generalize vTick (p, s) = v at *
 generalize (if vPrin p then prinS p else []) = w at *
 generalize keyS s = u at *
 refine q0e rfl rfl ?_
 refine rQ fi142 ?_
 refine q0a hv ?_
 refine gQ ?_
 refine ⟨fun h => ?_, fun h => q0a hn ?_⟩
 · rw [h]; exact ⟨rfl, rfl⟩
 rw [h]
 refine gQ ?_
 refine q0b (q1n 5) ?_
 refine gQ ?_
 refine q0b (q0N _ _) ?_
 refine gQ ?_
 refine q0b (q0N _ _) ?_
 refine gQ ?_
 refine q0b (hk) ?_
 refine gQ ?_
 refine q0b (q0N _ _) ?_
 refine gQ ?_
 refine q1f 1 (by decide) ?_
 with_reducible refine sxE ?_
 refine q0b (j4d 1 _ (by simp)) ?_
 refine gQ ?_; trivial
def tickE (t : Tick) : List UInt8 := if vTick t then tickS t else []
theorem z6q (t : Tick) (ho : TickT.ok t) : PC Tryz.prog 93 [.agg (TickT.cells t)] (.isl .u8 (tickE t)) := by
 have h := j4w t ho
 unfold tickE
 refine q0e rfl rfl ?_
 refine rQ fi93 ?_
 refine q0a h ?_
 refine gQ ?_; trivial
@[go_sem] abbrev faO (cs : List SV) : SObj := .cells 59 cs
def zP : Prin := ([], ⟨#[]⟩)
@[go_sem] abbrev fa0 : List SV := [rI 0, rI 0, rI 0, .raw (.slice none 0 0), rS ⟨#[]⟩, .raw (.slice none 0 0), rS ⟨#[]⟩, rS ⟨#[]⟩, .raw (.slice none 0 0)]
theorem j1y : OkP datP PreT.ok := q3n (q0U (Q1 := fun _ => True) q1K fun _ _ => q0U (q1J z6Z) fun _ hc => q5y ⟨trivial, hc⟩)
theorem z3v : OkP dataP (Ty.slice PreT).ok := j3Q (t := PreT) 16 (by omega) j1y
theorem j0W : PrinT.ok zP := ⟨q5V, j2n⟩
theorem q6c (a : Int) (c : List UInt8) (ha : 0 ≤ a ∧ a ≤ 4611686018427387904) (hc : c.length ≤ 65536) : datS (a, c) = tlv 48 (sufS [intS a, elemS 4 [c]] 0 2) ∧ (sufS [intS a, elemS 4 [c]] 0 2).length ≤ c.length + 40 := by
 have i1 := q0O a
 obtain ⟨c1, e1, _⟩ := q4x (v := a) (by omega)
 have e3 : elemS 4 [c] = tlv 4 c := q1s (by omega)
 have w3 := q0k 4 [c]
 simp only [List.flatten_cons, List.flatten_nil, List.append_nil] at w3
 have w0 := q0h 160 0 (intS a)
 have w2 := q0h 160 1 (elemS 4 [c])
 have n0 : wrapS 160 0 (intS a) ≠ [] := by rw [show (0 : Int) = ((0 : Nat) : Int) from rfl, q3Y (by omega) (by omega) (by rw [e1]; exact q1k)]; exact q1k
 have n2 : wrapS 160 1 (elemS 4 [c]) ≠ [] := by rw [show (1 : Int) = ((1 : Nat) : Int) from rfl, q3Y (by omega) (by omega) (by rw [e3]; exact q1k)]; exact q1k
 have hf : (tagN [intS a, elemS 4 [c]] 2).flatten = sufS [intS a, elemS 4 [c]] 0 2 := q5h [intS a, elemS 4 [c]]
 have ht : tagN [intS a, elemS 4 [c]] 2 = [wrapS 160 0 (intS a), wrapS 160 1 (elemS 4 [c])] := by simp [tagN, List.range_succ]
 have hl : (sufS [intS a, elemS 4 [c]] 0 2).length ≤ c.length + 40 := by
  rw [← hf, ht]
  simp only [List.flatten_cons, List.flatten_nil, List.append_nil, List.length_append]
  omega
 refine ⟨?_, hl⟩
 have hfull : allN 2 (fullAt [wrapS 160 0 (intS a), wrapS 160 1 (elemS 4 [c])]) = true := by
  refine q0l fun j hj => ?_
  match j, hj with
  | 0, _ => exact decide_eq_true n0
  | 1, _ => exact decide_eq_true n2
 show wholeS (tagN [intS a, elemS 4 [c]] 2) = _
 rw [ht]
 unfold wholeS
 rw [show ([wrapS 160 0 (intS a), wrapS 160 1 (elemS 4 [c])] : List (List UInt8)).length = 2 from rfl, if_pos hfull, ← ht, q0X (by rw [hf]; omega), hf]
theorem j2V (a : Int) (c : List UInt8) (ha : 0 ≤ a ∧ a ≤ 4611686018427387904) (hc : c.length ≤ 65536) (r : List UInt8) : datP (datS (a, c) ++ r) = .ok ((a, c), (datS (a, c)).length) := by
 have i1 := q0O a
 obtain ⟨c1, e1, _⟩ := q4x (v := a) (by omega)
 have e3 : elemS 4 [c] = tlv 4 c := q1s (by omega)
 have w3 := q0k 4 [c]
 simp only [List.flatten_cons, List.flatten_nil, List.append_nil] at w3
 have hL : ∀ j, (([intS a, elemS 4 [c]] : List (List UInt8)).getD j []).length ≤ 16777215 := fun j => by
  match j with
  | 0 => show (intS a).length ≤ _; omega
  | 1 => show (elemS 4 [c]).length ≤ _; omega
  | j + 2 => exact Nat.zero_le _
 obtain ⟨hS, hin⟩ := q6c a c ha hc
 rw [hS]
 refine q2i (by omega) ?_ r
 have q0 : intP (([intS a, elemS 4 [c]] : List (List UInt8)).getD 0 []) = .ok (a, (([intS a, elemS 4 [c]] : List (List UInt8)).getD 0 []).length) := full (e := intS a) (q5n (by omega))
 have q1 : octP (([intS a, elemS 4 [c]] : List (List UInt8)).getD 1 []) = .ok (c, (([intS a, elemS 4 [c]] : List (List UInt8)).getD 1 []).length) := full (e := elemS 4 [c]) (z7n (by omega))
 have n0 : ([intS a, elemS 4 [c]] : List (List UInt8)).getD 0 [] ≠ [] := by show intS a ≠ []; rw [e1]; exact q1k
 have n1 : ([intS a, elemS 4 [c]] : List (List UInt8)).getD 1 [] ≠ [] := by show elemS 4 _ ≠ []; rw [e3]; exact q1k
 unfold datIn
 refine q1j (n := 0) (k := 1) (q1h hL (by omega) n0 q0) ?_
 refine q1j (n := 1) (k := 0) (q1h hL (by omega) n1 q1) ?_
 rfl
theorem j0Z {p : Pre} (h : vPre1 p = true) : ((0 : Int) ≤ p.1 ∧ p.1 ≤ (2147483647 : Int)) ∧ p.2.length ≤ 16384 := by
 simp only [vPre1, mIn, Bool.and_eq_true, decide_eq_true_eq] at h
 exact ⟨h.1, by omega⟩
theorem q7V {l : List Pre} (h : vPre l = true) : l.length ≤ 16 ∧ ∀ p ∈ l, ((0 : Int) ≤ p.1 ∧ p.1 ≤ (2147483647 : Int)) ∧ p.2.length ≤ 16384 := by
 simp only [vPre, Bool.and_eq_true, decide_eq_true_eq] at h
 refine ⟨by omega, fun p hp => ?_⟩
 obtain ⟨j, hj, rfl⟩ := List.getElem_of_mem hp
 have := q1u.1 h.2 j hj
 unfold preAt at this
 rw [List.getD_eq_getElem?_getD, List.getElem?_eq_getElem hj] at this
 exact j0Z this
theorem z3J {p : Pre} (h : ((0 : Int) ≤ p.1 ∧ p.1 ≤ (2147483647 : Int)) ∧ p.2.length ≤ 16384) : datS p ≠ [] ∧ (∀ r, datP (datS p ++ r) = .ok (p, (datS p).length)) ∧ (datS p).length ≤ 16434 := by
 obtain ⟨a, c⟩ := p
 obtain ⟨h1, h2⟩ := h
 have ha : (0 : Int) ≤ a ∧ a ≤ 4611686018427387904 := ⟨h1.1, Int.le_trans h1.2 (by decide)⟩
 dsimp only at h2
 obtain ⟨e, hl⟩ := q6c a c ha (by omega)
 refine ⟨by rw [e]; exact q1k, j2V a c ha (by omega), ?_⟩
 rw [e, q0y]
 have := q1M (sufS [intS a, elemS 4 [c]] 0 2).length
 omega
theorem q4N {l : List Pre} (h : vPre l = true) : dataS l = tlv 48 (l.map datS).flatten ∧ (l.map datS).flatten.length ≤ 16434 * l.length := by
 obtain ⟨h16, hv⟩ := q7V h
 have hb : (l.map datS).flatten.length ≤ 16434 * l.length := q2F datS 16434 l fun x hx => (z3J (hv x hx)).2.2
 have hm : mapN (t := PreT) datS l l.length = l.map datS := by unfold mapN; rw [List.take_length]
 refine ⟨?_, hb⟩
 unfold dataS wholeS
 rw [if_pos h16, hm, List.length_map, if_pos, q0X (by omega)]
 refine q0l fun j hj => decide_eq_true ?_
 rw [List.getD_eq_getElem?_getD, List.getElem?_eq_getElem (by rw [List.length_map]; exact hj), List.getElem_map]
 exact (z3J (hv _ (List.getElem_mem hj))).1
theorem z7Q {l : List Pre} (h : vPre l = true) (r : List UInt8) : dataP (dataS l ++ r) = .ok (l, (dataS l).length) := by
 obtain ⟨h16, hv⟩ := q7V h
 obtain ⟨e, hl⟩ := q4N h
 rw [e]
 exact q2i (by omega) (q4S l 16 h16 fun s hs => ⟨(z3J (hv s hs)).1, (z3J (hv s hs)).2.1⟩) r
def preO (l : List Pre) : List UInt8 := if l.length = 0 then [] else dataS l
theorem z5n (n : Int) (l : List Pre) : preS n l = wrapS 160 n (preO l) := by
 unfold preS optS preO
 by_cases h : l.length = 0
 · rw [if_pos h, decide_eq_false (by omega)]; simp [wrapS]
 rw [if_neg h, decide_eq_true (by omega)]; rfl
theorem j4p {l : List Pre} (h : vPre l = true) : (if preO l = [] then l = [] else dataP (preO l) = .ok (l, (preO l).length)) ∧ (preO l).length ≤ 262960 := by
 obtain ⟨h16, hv⟩ := q7V h
 obtain ⟨e, hl⟩ := q4N h
 unfold preO
 by_cases h0 : l.length = 0
 · simp [h0, List.length_eq_zero_iff.1 h0]
 rw [if_neg h0, if_neg (by rw [e]; exact q1k)]
 refine ⟨full (z7Q h), ?_⟩
 rw [e, q0y]
 have := q1M (l.map datS).flatten.length
 omega
theorem j1M {p : Prin} (h : noN p = true) : p = zP := by
 obtain ⟨l, r⟩ := p
 simp only [noN, Bool.and_eq_true, decide_eq_true_eq] at h
 obtain ⟨h1, h2⟩ := h
 rw [show l = [] from List.length_eq_zero_iff.1 h1, show r = ⟨#[]⟩ from h2]; rfl
theorem j0R (n : Int) (c : Bool) (w : List UInt8) : optS n (!c) w = wrapS 160 n (if c then [] else w) := by
 unfold optS; cases c <;> simp [wrapS]
theorem z6K {v : Int} (h : 0 ≤ v ∧ v ≤ 4611686018427387904) : cstP v (intS v) = .ok ((), (intS v).length) := by
 unfold cstP
 rw [full (q5n h)]
 simp
theorem q7w {v : Int} (h : 0 ≤ v ∧ v ≤ 4611686018427387904) : intS v ≠ [] := by
 obtain ⟨c1, e1, _⟩ := q4x h
 rw [e1]; exact q1k
theorem j2v {s : Key} (h : vSeal s = true) : ((0 : Int) ≤ s.1 ∧ s.1 ≤ (1048576 : Int)) ∧ ((0 : Int) ≤ s.2.1 ∧ s.2.1 ≤ (1048576 : Int)) ∧ s.2.2.length ≤ 65536 := by
 obtain ⟨a, v, c⟩ := s
 simp only [vSeal, mIn, Bool.and_eq_true, decide_eq_true_eq] at h
 obtain ⟨h1, h2, h3⟩ := h
 dsimp only at *
 refine ⟨?_, ⟨h2.1, Int.le_trans h2.2 (by decide)⟩, by omega⟩
 unfold keyLen at h1
 split at h1
 · rename_i e; rw [e]; decide
 split at h1
 · rename_i e; rw [e]; decide
 exact absurd rfl h1
theorem q6e {s : Key} (h : vSeal s = true) : keyOk s := by
 obtain ⟨h1, h2, h3⟩ := j2v h
 obtain ⟨a, v, c⟩ := s
 exact ⟨h1, h2, h3⟩
def tickL (t : Tick) : List (List UInt8) := [intS 5, prinE t.1, keyS t.2]
theorem z3T (t : Tick) : tickS t = wrapS 96 1 (tagS (tickL t)) := by
 unfold tickS tagS
 congr 2
theorem q7j {t : Tick} (h : vTick t = true) : tickS t = tlv (appB 1) (tlv 48 (sufS (tickL t) 0 3)) ∧ (∀ j, ((tickL t).getD j []).length ≤ 65600) ∧ (sufS (tickL t) 0 3).length ≤ 65900 ∧ ∀ r, tickP (tickS t ++ r) = .ok (t, (tickS t).length) := by
 have hE := z3T t
 have h0 := h
 obtain ⟨p, s⟩ := t
 simp only [vTick, Bool.and_eq_true] at h
 obtain ⟨h1, h2⟩ := h
 obtain ⟨p1, p1l, p1n⟩ := q6f h1
 have hk := q6e h2
 have k1 := j2e hk
 have k1l := j2q hk
 have k1n := j3s hk
 have i5 := q0O 5
 have hL : ∀ j, ((tickL (p, s)).getD j []).length ≤ 65600 := fun j => by
  match j with
  | 0 => show (intS 5).length ≤ _; omega
  | 1 => show (prinE p).length ≤ _; omega
  | 2 => exact k1l
  | j + 3 => exact Nat.zero_le _
 have hs : (sufS (tickL (p, s)) 0 3).length ≤ 65900 := by
  refine Nat.le_trans (q6X 3 0) ?_
  show (intS 5).length + 5 + ((prinE p).length + 5 + ((keyS s).length + 5 + 0)) ≤ _
  omega
 have hL' : ∀ j, ((tickL (p, s)).getD j []).length ≤ 16777215 := fun j => Nat.le_trans (hL j) (by decide)
 have hT : tagS (tickL (p, s)) = tlv 48 (sufS (tickL (p, s)) 0 3) := z3L (l := tickL (p, s)) (Nat.le_trans hs (by decide))
 have hl48 : (tlv 48 (sufS (tickL (p, s)) 0 3)).length ≤ 66000 := by
  rw [q0y]; have := q1M (sufS (tickL (p, s)) 0 3).length; omega
 have hS : tickS (p, s) = tlv (appB 1) (tlv 48 (sufS (tickL (p, s)) 0 3)) := by
  rw [hE, hT]
  unfold wrapS
  rw [if_pos ⟨by decide, by decide, q1k⟩, q1s (by omega)]
  rfl
 have hin : tickIn (sufS (tickL (p, s)) 0 3) = .ok ((p, s), (sufS (tickL (p, s)) 0 3).length) := by
  unfold tickIn
  refine q1j (n := 0) (k := 2) (q1h hL' (by omega) (q7w (v := 5) (by decide)) (z6K (by decide))) ?_
  refine q1j (n := 1) (k := 1) (q1h hL' (by omega) p1n (full p1)) ?_
  refine q1j (n := 2) (k := 0) (q1h hL' (by omega) k1n (full k1)) ?_
  rfl
 refine ⟨hS, hL, hs, fun r => ?_⟩
 rw [hS]
 unfold tickP
 rw [q2i (by omega) (full (q2i (by omega) hin)) r]
 simp only [chkP]
 rw [if_pos h0]
theorem q4k {t : Tick} (h : vTick t = true) : tickE t = tickS t := if_pos h
theorem z2G {t : Tick} (h : vTick t = true) : tickS t ≠ [] := by rw [(q7j h).1]; exact q1k
theorem q8K {t : Tick} (h : vTick t = true) : (tickS t).length ≤ 66100 := by
 obtain ⟨h1, _, h3, _⟩ := q7j h
 rw [h1, q0y]
 have a := q1M (tlv 48 (sufS (tickL t) 0 3)).length
 have b := q1M (sufS (tickL t) 0 3).length
 rw [q0y] at *
 omega
theorem q7s {k : Int} (h : vKind k = true) : ∃ n : Nat, k = n ∧ (n = 10 ∨ n = 12) := by
 simp only [vKind, Bool.or_eq_true, decide_eq_true_eq] at h
 exact ⟨k.toNat, by omega, by omega⟩
structure BodH (k : Int) (pre : List Pre) (b : List UInt8) : Prop where
 a : ∀ q, q ≤ b.length → nextB 8 (b.drop q) = true → Eff Tryz.prog 161 [.agg [.ptr 0 0], rI 8] b q [] (fun l : List Pre => .isl PreT l) (fun _ => []) (inP (tagB 8) adrP (b.drop q))
 c : ∀ (o : Int) (c s : Prin) (f t w m : Int) (pf : List Int) (ad : List Pre) (q : Nat), q ≤ b.length → nextB 9 (b.drop q) = true → Eff Tryz.prog 148 [.agg [.ptr 0 0], rI 9, .fn 162 [] [.ptr 1 0]] b q [.cells 121 [.ptr 2 0], rqO [rI k, .isl PreT pre, mU o, .isl .str c.1, rS c.2, .isl .str s.1, rS s.2, rI f, rI t, rI w, rI m, .isl I64 pf, .isl PreT ad, .raw (.slice none 0 0)]] (fun _ => rB true) (fun l : List Tick => [.cells 121 [.ptr 2 0], rqO [rI k, .isl PreT pre, mU o, .isl .str c.1, rS c.2, .isl .str s.1, rS s.2, rI f, rI t, rI w, rI m, .isl I64 pf, .isl PreT ad, .isl TickT l]]) (inP (tagB 9) ticksP (b.drop q))
 z : ∀ (o : Int) (s : Prin) (f t w m : Int) (pf : List Int) (ad : List Pre) (q : Nat), q ≤ b.length → nextB 9 (b.drop q) = true → Eff Tryz.prog 148 [.agg [.ptr 0 0], rI 9, .fn 162 [] [.ptr 1 0]] b q [.cells 121 [.ptr 2 0], rqO [rI k, .isl PreT pre, mU o, .raw (.slice none 0 0), rS ⟨#[]⟩, .isl .str s.1, rS s.2, rI f, rI t, rI w, rI m, .isl I64 pf, .isl PreT ad, .raw (.slice none 0 0)]] (fun _ => rB true) (fun l : List Tick => [.cells 121 [.ptr 2 0], rqO [rI k, .isl PreT pre, mU o, .raw (.slice none 0 0), rS ⟨#[]⟩, .isl .str s.1, rS s.2, rI f, rI t, rI w, rI m, .isl I64 pf, .isl PreT ad, .isl TickT l]]) (inP (tagB 9) ticksP (b.drop q))
structure BodB (B : List UInt8 → Prop) : Prop where
 tk : ∀ r, B r → B (takeC r)
 dr : ∀ r n, B r → B (r.drop n)
 h : ∀ k pre c, B c → BodH k pre c
@[go_sem] abbrev rq0 (k : Int) (pre : SV) : SObj := rqO [rI k, pre, .raw (.int .u32 0), .raw (.slice none 0 0), rS ⟨#[]⟩, .raw (.slice none 0 0), rS ⟨#[]⟩, rI 0, rI 0, rI 0, rI 0, .raw (.slice none 0 0), .raw (.slice none 0 0), .raw (.slice none 0 0)]
theorem z7b (k : Int) (pre : List Pre) : FitsP (bodP k pre) := q1e q0o fun _ => q1e (by unfold cliP; split <;> first | exact q0o | exact q6A) fun _ => q1e q0o fun _ => q1e q1r fun _ => q1e q0o fun _ => q1e q1r fun _ => q1e q0o fun _ => q1e q0o fun _ => q1e q1r fun _ => q1e q1r fun _ => q6A
theorem j2x {B : List UInt8 → Prop} (hB : BodB B) (k : Int) (pre : List Pre) (b : List UInt8) (n : Nat) (hn : n ≤ b.length) (hb : b.length ≤ 1099511627776) (hh : B b) :
 Eff Tryz.prog 101 [.agg [.ptr 0 0], .ptr 1 0] b n [rq0 k (.isl PreT pre)] (fun _ => .tup []) (fun r => [rqO (ReqT.cells r)]) (bodP k pre (b.drop n)) := by
 have h := hB.h k pre b hh
 have hm := j3h k pre b n hn hb h.a h.c h.z
 cases hx : bodP k pre (b.drop n) with
 | error e =>
  have hm' := q0B hm hx
  refine q0c (by simp) ?_
  refine rQ fi101 ?_
  refine effP [0, 1] (hm') ?_; trivial
 | ok x =>
  obtain ⟨v, q⟩ := x
  have hm' := q0x hm hx
  refine q0c (by simp) ?_
  refine rQ fi101 ?_
  refine eQ [0, 1] (hm') ?_; trivial
theorem z4O (k : Int) (pre : List Pre) : Cln [rI k, .isl PreT pre, .raw (.int .u32 0), .raw (.slice none 0 0), rS ⟨#[]⟩, .raw (.slice none 0 0), rS ⟨#[]⟩, rI 0, rI 0, rI 0, rI 0, .raw (.slice none 0 0), .raw (.slice none 0 0), .raw (.slice none 0 0)] := q0d (q0A (q0d (q0d (q0d (q0d (q0d (q0d (q0d (q0d (q0d (q0d (q0d (q0d q0C)))))))))))))
def bodS (k : Int) (pre : List Pre) : PR Req := inP 48 (bodP k pre)
theorem j4f {B : List UInt8 → Prop} (hB : BodB B) (k : Int) (pre : List Pre) (b : List UInt8) (n : Nat) (hn : n ≤ b.length) (hb : b.length ≤ 1099511627776) (hh : B b) :
 Eff Tryz.prog 99 [.agg [.ptr 0 0], .ptr 1 0] b n [rq0 k (.isl PreT pre)] (fun _ => .tup []) (fun r => [rqO (ReqT.cells r)]) (bodS k pre (b.drop n)) := by
 have hm := sequence1 101 b n hn hb 33 _ (z4O k pre) (bodP k pre) (z7b k pre) (fun r => ReqT.cells r) (fun r => z5e ReqT r) (j2x hB k pre (takeC (b.drop n)) 0 (Nat.zero_le _) (q0J hb) (hB.tk _ (hB.dr _ _ hh)))
 change Eff _ _ _ _ _ _ _ _ (bodS k pre (b.drop n)) at hm
 cases hx : bodS k pre (b.drop n) with
 | error e =>
  have hm' := q0B hm hx
  refine q0c (by simp) ?_
  refine rQ fi99 ?_
  refine effP [0, 1] (hm') ?_; trivial
 | ok x =>
  obtain ⟨v, q⟩ := x
  have hm' := q0x hm hx
  refine q0c (by simp) ?_
  refine rQ fi99 ?_
  refine eQ [0, 1] (hm') ?_; trivial
def rqIn (k : Int) : PR Req := bindP (needP 1 (cstP 5)) fun _ => bindP (needP 2 (cstP k)) fun _ => bindP (dfltP [] 3 dataP) fun pre => bindP (needP 4 (bodS k pre)) fun r => retP r
theorem z5V (k : Int) : FitsP (rqIn k) := q1e q0o fun _ => q1e q0o fun _ => q1e q1r fun _ => q1e q0o fun _ => q6A
theorem j4R {B : List UInt8 → Prop} (hB : BodB B) (k : Int) (b : List UInt8) (n : Nat) (hn : n ≤ b.length) (hb : b.length ≤ 1099511627776) (hh : B b) :
 Eff Tryz.prog 95 [.agg [.ptr 0 0], .iptr I64 k 0, .ptr 1 0] b n [rq0 k (.raw (.slice none 0 0))] (fun _ => .tup []) (fun r => [rqO (ReqT.cells r)]) (rqIn k (b.drop n)) := by
 refine q5S (fun _ => Nat.le_refl _) ?_
 obtain ⟨X, hX0⟩ : ∃ X, X = rqIn k (b.drop n) := ⟨_, rfl⟩
 rw [← hX0]
 have hX := hX0.trans z7a
 clear hX0
 unfold rqIn at hX
 refine rQ fi95 ?_
 have c1 := z9S 1 (by omega) 5 b (n) hn hb
 rcases h1 : needP 1 (cstP 5) (b.drop (n)) with e | ⟨v1, k1⟩
 · have c1' := q0B c1 h1
   obtain rfl := q1p hX h1
   refine effP [0] (c1') ?_; trivial
 replace hX := q1g hX h1
 have c1' := q0x c1 h1
 have f1 := q1a q0o hn h1
 refine eQ [0] (c1') ?_
 have c2 := z9S 2 (by omega) k b (n + k1) f1 hb
 rcases h2 : needP 2 (cstP k) (b.drop (n + k1)) with e | ⟨v2, k2⟩
 · have c2' := q0B c2 h2
   obtain rfl := q1p hX h2
   refine effP [0] (c2') ?_; trivial
 replace hX := q1g hX h2
 have c2' := q0x c2 h2
 have f2 := q1a q0o f1 h2
 refine eQ [0] (c2') ?_
 have c3 := j4h 3 (by omega) b (n + k1 + k2) f2 hb
 rcases h3 : dfltP [] 3 dataP (b.drop (n + k1 + k2)) with e | ⟨v3, k3⟩
 · have c3' := q0B c3 h3
   obtain rfl := q1p hX h3
   refine effP [0] (c3') ?_; trivial
 replace hX := q1g hX h3
 have c3' := q0x c3 h3
 have f3 := q1a q1r f2 h3
 refine eQ [0] (c3') ?_
 have c4 := need1 99 4 (by omega) b (n + k1 + k2 + k3) f3 hb 33 _ (z4O k v3) (bodS k v3) q1E _ (fun r => z5e ReqT r) (j4f hB k v3 (takeC (b.drop _)) 0 (Nat.zero_le _) (q0J hb) (hB.tk _ (hB.dr _ _ hh)))
 rcases h4 : needP 4 (bodS k v3) (b.drop (n + k1 + k2 + k3)) with e | ⟨v4, k4⟩
 · have c4' := q0B c4 h4
   obtain rfl := q1p hX h4
   refine effP [0, 1] (c4') ?_; trivial
 replace hX := q1g hX h4
 have c4' := q0x c4 h4
 have f4 := q1a q0o f3 h4
 refine eQ [0, 1] (c4') ?_
 subst hX
 simp only [shiftP, retP]
 with_reducible refine sxE ?_
 exact congrArg (Value.int .i64) (by omega)
def reqP (k : Nat) : PR Req := inP (appB k) (inP 48 (rqIn k))
theorem z5S {B : List UInt8 → Prop} (hB : BodB B) (k : Nat) (hk : k ≤ 30) (b : List UInt8) (n : Nat) (hn : n ≤ b.length) (hb : b.length ≤ 1099511627776) (hh : B b) :
 Eff Tryz.prog 32 [.agg [.ptr 0 0], rI (k : Nat)] b n [] (fun r => .agg (ReqT.cells r)) (fun _ => []) (reqP k (b.drop n)) := by
 have h1 := j4R hB (k : Nat) (takeC (takeC (b.drop n))) 0 (Nat.zero_le _) (Nat.le_trans (q3e _) (q0J hb)) (hB.tk _ (hB.tk _ (hB.dr _ _ hh)))
 rw [List.drop_zero] at h1
 have hc : Cln [rI (k : Nat), .raw (.slice none 0 0), .raw (.int .u32 0), .raw (.slice none 0 0), rS ⟨#[]⟩, .raw (.slice none 0 0), rS ⟨#[]⟩, rI 0, rI 0, rI 0, rI 0, .raw (.slice none 0 0), .raw (.slice none 0 0), .raw (.slice none 0 0)] := q0d (q0d (q0d (q0d (q0d (q0d (q0d (q0d (q0d (q0d (q0d (q0d (q0d (q0d q0C)))))))))))))
 have hm := applicationk 95 k hk b n hn hb (k : Nat) 33 _ hc (rqIn k) (z5V k) (fun r => ReqT.cells r) (fun r => z5e ReqT r) h1
 change Eff _ _ _ _ _ _ _ _ (reqP k (b.drop n)) at hm
 cases hx : reqP k (b.drop n) with
 | error e =>
  have hm' := q0B hm hx
  refine q0c (by simp) ?_
  refine q1L fi32 (q0n mixed 4 _ ?_)
  with_reducible refine sxE ?_
  refine q3t 3 2 (ty := I64) (x := ((k : Nat) : Int)) rfl trivial rfl rfl ?_
  refine gQ ?_
  refine effP [0, 4] (hm') ?_; trivial
 | ok x =>
  obtain ⟨v, q⟩ := x
  have hm' := q0x hm hx
  refine q0c (by simp) ?_
  refine q1L fi32 (q0n mixed 4 _ ?_)
  with_reducible refine sxE ?_
  refine q3t 3 2 (ty := I64) (x := ((k : Nat) : Int)) rfl trivial rfl rfl ?_
  refine gQ ?_
  refine eQ [0, 4] (hm') ?_; trivial
theorem q7P {B : List UInt8 → Prop} (hB : BodB B) (k : Nat) (hk : k ≤ 30) (b : List UInt8) (n : Nat) (hn : n ≤ b.length) (hb : b.length ≤ 1099511627776) (hh : B b) :
 Eff Tryz.prog 31 [.agg [.ptr 0 0], .iptr I64 (k : Nat) 0] b n [] (fun r => .agg (ReqT.cells r)) (fun _ => []) (reqP k (b.drop n)) := by
 have hm := z5S hB k hk b n hn hb hh
 cases hx : reqP k (b.drop n) with
 | error e =>
  have hm' := q0B hm hx
  refine q0c (by simp) ?_
  refine rQ fi31 ?_
  refine effP [0] (hm') ?_; trivial
 | ok x =>
  obtain ⟨v, q⟩ := x
  have hm' := q0x hm hx
  refine q0c (by simp) ?_
  refine rQ fi31 ?_
  refine eQ [0] (hm') ?_; trivial
theorem q5F (o : SObj) (T : TypeId) (x : Value) (R : List SObj) (K : List SObj → Prop) (h : ∀ G, K (o :: .cells T [rI 6] :: (R ++ G))) : DCall Tryz.prog 103 [.ptr 1 0] (some wrongV) (o :: .cells T [.raw x] :: R) K := by
 refine recE mixed fi103 ?_
 exact h _
def badR (k : Nat) (b : List UInt8) : Prop := (∃ e, reqP k b = .error e) ∨ ∃ r m, reqP k b = .ok (r, m) ∧ m < b.length
theorem z1s {B : List UInt8 → Prop} (hB : BodB B) (k : Nat) (hk : k ≤ 30) (b : List UInt8) (hb : b.length ≤ 1099511627776) (hh : B b) (hbad : badR k b) : PC Tryz.prog 33 [.isl .u8 b, .fn 31 [] [.iptr I64 (k : Nat) 0], .fn 26 [] [], .fn 28 [] []] (.tup [.agg (ReqT.cells ReqT.dflt), rI 6]) := by
 have hnew := j4C b (by omega)
 have hread := q7P hB k hk b 0 (Nat.zero_le _) hb hh
 rw [List.drop_zero] at hread
 refine q0e rfl rfl ?_
 refine defE mixed fi33 ?_
 refine gQ ?_
 refine eQ [] (hnew) ?_
 rcases hbad with ⟨e, hx⟩ | ⟨r, m, hx, hm⟩
 · have hr := q0B hread hx
   refine effP [2] (hr) ?_
   refine ⟨by simp, q5F _ _ _ _ _ fun G => ?_⟩
   with_reducible refine sxE ?_
   exact ⟨rfl, rfl, rfl, rfl, rfl, rfl, rfl, rfl, rfl, rfl, rfl, rfl, rfl, rfl⟩
 have hr := q0x hread hx
 rw [Nat.zero_add] at hr
 refine eQ [2] (hr) ?_
 refine effP [2] (q5U b m hm) ?_
 refine ⟨by simp, q5F _ _ _ _ _ fun G => ?_⟩
 with_reducible refine sxE ?_
 exact ⟨rfl, rfl, rfl, rfl, rfl, rfl, rfl, rfl, rfl, rfl, rfl, rfl, rfl, rfl⟩
theorem z4o {B : List UInt8 → Prop} (hB : BodB B) (k : Nat) (hk : k ≤ 30) (b : List UInt8) (hb : b.length ≤ 1099511627776) (hh : B b) (hK : kindB b 0 = true) (hV : kindV b 0 = (k : Nat)) (hbad : badR k b) : PC Tryz.prog 9 [.isl .u8 b] (.tup [.agg (ReqT.cells ReqT.dflt), rI 6]) := by
 have hd := z1s hB k hk b hb hh hbad
 have hko := z3H b 0 (by omega)
 rw [hK, hV] at hko
 refine q0e rfl rfl ?_
 refine rQ fi9 ?_
 refine q0a hko ?_
 refine uQ 6 _ ?_
 with_reducible refine sxE ?_
 refine q3t 4 1 (ty := I64) (x := ((k : Nat) : Int)) rfl trivial rfl rfl ?_
 refine gQ ?_
 refine q0a hd ?_
 refine gQ ?_; trivial
end Go.Proofs.YtkbbkhmffmfliaaGreatDoor
