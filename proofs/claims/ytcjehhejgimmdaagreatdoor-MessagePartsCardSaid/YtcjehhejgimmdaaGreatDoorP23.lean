/- Contracts: reading a key set. -/
import Derived.Test.YtcjehhejgimmdaaGreatDoorP22
import Derived.Test.YtcjehhejgimmdaaGreatDoorP17
set_option linter.all false
namespace Go.Proofs.YtcjehhejgimmdaaGreatDoor
open Go Go.Sx Go.Proofs
set_option maxRecDepth 100000
set_option maxHeartbeats 4000000
theorem q0J {α β : Type} {p : PR α} {f : α → PR β} {b : List UInt8} {n N : Nat} {X : Except Nat (β × Nat)} {e : Nat} (hX : X = shiftP N (bindP p f (b.drop n))) (h : p (b.drop n) = .error e) : X = .error e := by
 rw [hX, q2Q h]; rfl
theorem q0E {α β : Type} {p : PR α} {f : α → PR β} {b : List UInt8} {n N : Nat} {X : Except Nat (β × Nat)} {v : α} {k : Nat} (hX : X = shiftP N (bindP p f (b.drop n))) (h : p (b.drop n) = .ok (v, k)) : X = shiftP (N + k) (f v (b.drop (n + k))) := by
 rw [hX, q3Q h]
 cases f v (b.drop (n + k)) with
 | error e => rfl
 | ok y => obtain ⟨u, m⟩ := y; simp only [shiftP, Nat.add_assoc]
theorem z0z {α : Type} {p : PR α} {b : List UInt8} {n : Nat} : p (b.drop n) = shiftP 0 (p (b.drop n)) := by
 cases p (b.drop n) with
 | error e => rfl
 | ok y => obtain ⟨u, m⟩ := y; simp only [shiftP, Nat.zero_add]
def visA (l : List UInt8) : Bool := allN l.length fun j => decide (33 ≤ ((l.getD j Ty.u8.dflt).toNat : Int)) && decide (((l.getD j Ty.u8.dflt).toNat : Int) ≤ 126)
def vAdr (a : Pre) : Bool := (decide (a.1 = 2) && decide ((a.2.length : Int) = 4)) || ((decide (a.1 = 20) && (decide (1 ≤ (a.2.length : Int)) && (decide ((a.2.length : Int) ≤ 16) && visA a.2))) || (decide (a.1 = 24) && decide ((a.2.length : Int) = 16)))
def adrAt (l : List Pre) (j : Nat) : Bool := vAdr (l.getD j PreT.dflt)
def vAdrs (l : List Pre) : Bool := decide ((l.length : Int) ≤ 16) && allN l.length (adrAt l)
def adrP : PR (List Pre) := fun r => chkP vAdrs (dataP r)
def vSeal (s : Key) : Bool := decide (keyLen s.1 ≠ 0) && (mIn 0 65535 s.2.1 && decide ((s.2.2.length : Int) ≤ 65536))
def vTick (t : Tick) : Bool := vPrin t.1 && vSeal t.2
def tickIn : PR Tick := bindP (needP 0 (cstP 5)) fun _ => bindP (needP 1 nameP) fun s => bindP (needP 2 keyP) fun e => retP ((s, e) : Tick)
def tickP : PR Tick := fun r => chkP vTick (inP (appB 1) (inP 48 tickIn) r)
def ticksP : PR (List Tick) := inP 48 (listP tickP 16)
def cliP (k : Int) : PR Prin := if k = 10 then needP 1 nameP else retP (([], ⟨#[]⟩) : Prin)
def bodP (k : Int) (pre : List Pre) : PR Req := bindP (needP 0 bitsP) fun o => bindP (cliP k) fun c => bindP (needP 2 nameP) fun s => bindP (dfltP (0 : Nat) 3 timeP) fun f => bindP (needP 4 timeP) fun t => bindP (dfltP (0 : Nat) 5 timeP) fun w => bindP (needP 6 intP) fun n =>
 bindP (needP 7 (inP 48 (listP intP 16))) fun pf => bindP (dfltP [] 8 adrP) fun a => bindP (dfltP [] 9 ticksP) fun tk => retP ((k, pre, (o : Int), c, s, (f : Int), (t : Int), (w : Int), n, pf, a, tk) : Req)
@[go_sem] abbrev rqO (cs : List SV) : SObj := .cells 58 cs
@[go_sem] abbrev mU (o : Int) : SV := .raw (.int .u32 o)
theorem z3C (b : List UInt8) (n : Nat) (hn : n ≤ b.length) (hb : b.length ≤ 1099511627776) :
 Eff Tryz.prog 199 [.agg [.ptr 0 0]] b n [] (fun x => rI x) (fun _ => []) (intP (b.drop n)) := by
 cases hx : intP (b.drop n) with
 | error e =>
  have hr := q8q b n hn hb hx
  refine q0c (by simp) ?_
  refine rQ fi199 ?_
  refine eQ [0] (hr) ?_
  refine effP [] (q2E _ e (q3F hx)) ?_; trivial
 | ok x =>
  obtain ⟨v, k⟩ := x
  have hr := q8s b n hn hb hx
  refine q0c (by simp) ?_
  refine rQ fi199 ?_
  refine eQ [0] (hr) ?_
  refine q0a (q3W _) ?_
  refine gQ ?_; trivial
def numsP : PR (List Int) := inP 48 (listP intP 16)
theorem j0O (k : Int) (pre : List Pre) (o : Int) (c : Prin) (s : Prin) (f t w m : Int) (b : List UInt8) (n : Nat) (hn : n ≤ b.length) (hb : b.length ≤ 1099511627776) (T : TypeId) :
 Eff Tryz.prog 197 [.agg [.ptr 0 0], .ptr 1 0] b n [.cells T [.ptr 2 0], rqO [rI k, .isl PreT pre, mU o, .isl .str c.1, rS c.2, .isl .str s.1, rS s.2, rI f, rI t, rI w, rI m, .raw (.slice none 0 0), .raw (.slice none 0 0), .raw (.slice none 0 0)]] (fun _ => .tup []) (fun l : List Int => [.cells T [.ptr 2 0], rqO [rI k, .isl PreT pre, mU o, .isl .str c.1, rS c.2, .isl .str s.1, rS s.2, rI f, rI t, rI w, rI m, .isl I64 l, .raw (.slice none 0 0), .raw (.slice none 0 0)]]) (numsP (b.drop n)) := by
 have hv := q7i 199 intP q2f b n hn hb (fun _ _ _ _ _ => trivial) (fun c m hm hc => z3C c m hm hc)
 change Eff _ _ _ _ _ _ _ _ (numsP (b.drop n)) at hv
 refine q7y (fun _ => Nat.le_refl _) ?_
 refine q1J fi197 (q0l mixed 4 _ ?_)
 with_reducible refine sxE ?_
 refine q1F [1, 2, 3] mixed ?_
 refine gQ ?_
 cases hx : numsP (b.drop n) with
 | error e =>
  have hv' := q0w hv hx
  refine q0j [0] hv' rfl (by decide) ⟨rfl, rfl, trivial⟩ rfl rfl ?_ ?_
  · exact rsE
  refine rnE ?_
  with_reducible refine sxE ?_; trivial
 | ok x =>
  obtain ⟨l, q⟩ := x
  have hv' := q0q hv hx
  refine q0j [0] hv' rfl (by decide) ⟨rfl, rfl, trivial⟩ rfl rfl ?_ ?_
  · exact rsE
  refine rnE ?_
  refine gQ ?_; trivial
theorem j1C (k : Int) (pre : List Pre) (o : Int)  (s : Prin) (f t w m : Int) (b : List UInt8) (n : Nat) (hn : n ≤ b.length) (hb : b.length ≤ 1099511627776) (T : TypeId) :
 Eff Tryz.prog 197 [.agg [.ptr 0 0], .ptr 1 0] b n [.cells T [.ptr 2 0], rqO [rI k, .isl PreT pre, mU o, .raw (.slice none 0 0), rS ⟨#[]⟩, .isl .str s.1, rS s.2, rI f, rI t, rI w, rI m, .raw (.slice none 0 0), .raw (.slice none 0 0), .raw (.slice none 0 0)]] (fun _ => .tup []) (fun l : List Int => [.cells T [.ptr 2 0], rqO [rI k, .isl PreT pre, mU o, .raw (.slice none 0 0), rS ⟨#[]⟩, .isl .str s.1, rS s.2, rI f, rI t, rI w, rI m, .isl I64 l, .raw (.slice none 0 0), .raw (.slice none 0 0)]]) (numsP (b.drop n)) := by
 have hv := q7i 199 intP q2f b n hn hb (fun _ _ _ _ _ => trivial) (fun c m hm hc => z3C c m hm hc)
 change Eff _ _ _ _ _ _ _ _ (numsP (b.drop n)) at hv
 refine q7y (fun _ => Nat.le_refl _) ?_
 refine q1J fi197 (q0l mixed 4 _ ?_)
 with_reducible refine sxE ?_
 refine q1F [1, 2, 3] mixed ?_
 refine gQ ?_
 cases hx : numsP (b.drop n) with
 | error e =>
  have hv' := q0w hv hx
  refine q0j [0] hv' rfl (by decide) ⟨rfl, rfl, trivial⟩ rfl rfl ?_ ?_
  · exact rsE
  refine rnE ?_
  with_reducible refine sxE ?_; trivial
 | ok x =>
  obtain ⟨l, q⟩ := x
  have hv' := q0q hv hx
  refine q0j [0] hv' rfl (by decide) ⟨rfl, rfl, trivial⟩ rfl rfl ?_ ?_
  · exact rsE
  refine rnE ?_
  refine gQ ?_; trivial
theorem z6E (i : Nat) (hi : i ≤ 30) (b : List UInt8) (n : Nat) (hn : n ≤ b.length) (h : nextB i (b.drop n) = false) :
 PE Tryz.prog 100 [.agg [.ptr 0 0], rI i] [rdr b n] (.ret (.isl PreT [])) [rdr b n] := by
 have hc : Cln [.raw (.slice none 0 0)] := q0d q0I
 have hm := fun T => q3G 177 i hi b n hn T _ hc h
 refine q0c (by simp) ?_
 refine rQ fi100 ?_
 refine eQ [0, 2] (hm _) ?_; trivial
theorem j0e (k : Int) (pre : List Pre) (b : List UInt8) (n : Nat) (hn : n ≤ b.length) (hb : b.length ≤ 1099511627776)
 (hA : ∀ q, q ≤ b.length → nextB 8 (b.drop q) = true → Eff Tryz.prog 100 [.agg [.ptr 0 0], rI 8] b q [] (fun l : List Pre => .isl PreT l) (fun _ => []) (inP (tagB 8) adrP (b.drop q)))
 (hTc : ∀ (o : Int) (c s : Prin) (f t w m : Int) (pf : List Int) (ad : List Pre) (q : Nat), q ≤ b.length → nextB 9 (b.drop q) = true → Eff Tryz.prog 161 [.agg [.ptr 0 0], rI 9, .fn 200 [] [.ptr 1 0]] b q [.cells 171 [.ptr 2 0], rqO [rI k, .isl PreT pre, mU o, .isl .str c.1, rS c.2, .isl .str s.1, rS s.2, rI f, rI t, rI w, rI m, .isl I64 pf, .isl PreT ad, .raw (.slice none 0 0)]] (fun _ => rB true) (fun l : List Tick => [.cells 171 [.ptr 2 0], rqO [rI k, .isl PreT pre, mU o, .isl .str c.1, rS c.2, .isl .str s.1, rS s.2, rI f, rI t, rI w, rI m, .isl I64 pf, .isl PreT ad, .isl TickT l]]) (inP (tagB 9) ticksP (b.drop q)))
 (hTz : ∀ (o : Int) (s : Prin) (f t w m : Int) (pf : List Int) (ad : List Pre) (q : Nat), q ≤ b.length → nextB 9 (b.drop q) = true → Eff Tryz.prog 161 [.agg [.ptr 0 0], rI 9, .fn 200 [] [.ptr 1 0]] b q [.cells 171 [.ptr 2 0], rqO [rI k, .isl PreT pre, mU o, .raw (.slice none 0 0), rS ⟨#[]⟩, .isl .str s.1, rS s.2, rI f, rI t, rI w, rI m, .isl I64 pf, .isl PreT ad, .raw (.slice none 0 0)]] (fun _ => rB true) (fun l : List Tick => [.cells 171 [.ptr 2 0], rqO [rI k, .isl PreT pre, mU o, .raw (.slice none 0 0), rS ⟨#[]⟩, .isl .str s.1, rS s.2, rI f, rI t, rI w, rI m, .isl I64 pf, .isl PreT ad, .isl TickT l]]) (inP (tagB 9) ticksP (b.drop q))) :
 Eff Tryz.prog 147 [.agg [.ptr 0 0], .ptr 1 0] b n [rqO [rI k, .isl PreT pre, .raw (.int .u32 0), .raw (.slice none 0 0), rS ⟨#[]⟩, .raw (.slice none 0 0), rS ⟨#[]⟩, rI 0, rI 0, rI 0, rI 0, .raw (.slice none 0 0), .raw (.slice none 0 0), .raw (.slice none 0 0)]] (fun _ => .tup []) (fun r => [rqO (ReqT.cells r)]) (bodP k pre (b.drop n)) := by
 refine q7y (fun _ => Nat.le_refl _) ?_
 obtain ⟨X, hX0⟩ : ∃ X, X = bodP k pre (b.drop n) := ⟨_, rfl⟩
 rw [← hX0]
 have hX := hX0.trans z0z
 clear hX0
 unfold bodP at hX
 have hA' : ∀ q, q ≤ b.length → Eff Tryz.prog 100 [.agg [.ptr 0 0], rI 8] b q [] (fun l : List Pre => .isl PreT l) (fun _ => []) (dfltP [] 8 adrP (b.drop q)) := fun q hq => by
  cases h8 : nextB 8 (b.drop q) with
  | false => rw [q3c h8]; exact z6E 8 (by omega) b q hq h8
  | true => rw [q2s h8]; exact hA q hq h8
 clear hA
 refine q1J fi147 (q0l mixed 6 _ ?_)
 with_reducible refine sxE ?_
 refine q1F [1, 2, 3] mixed ?_
 refine gQ ?_
 have c1 := z2k 0 (by omega) b (n) hn hb
 rcases h1 : needP 0 bitsP (b.drop (n)) with e | ⟨v1, k1⟩
 · have c1' := q0w c1 h1
   obtain rfl := q0J hX h1
   refine q0j [0] c1' rfl (by decide) ⟨rfl, rfl, trivial⟩ rfl rfl ?_ ?_
   · exact rsE
   refine rnE ?_
   with_reducible refine sxE ?_; trivial
 replace hX := q0E hX h1
 have c1' := q0q c1 h1
 have f1 := q0G q0f hn h1
 refine q0j [0] c1' rfl (by decide) ⟨rfl, rfl, trivial⟩ rfl rfl ?_ ?_
 · exact rsE
 refine rnE ?_
 refine uQ 5 _ ?_
 with_reducible refine sxE ?_
 by_cases hk : k = 10
 · have hcl : cliP k = needP 1 nameP := if_pos hk
   rw [hcl] at hX
   refine uQ 9 _ ?_
   with_reducible refine sxE ?_
   refine ⟨fun _ => ?_, fun h => absurd hk h⟩
   refine q1F [1, 2, 3] mixed ?_
   refine gQ ?_
   have c2 := q5L 1 (by omega) b (n + k1) f1 hb
   rcases h2 : needP 1 nameP (b.drop (n + k1)) with e | ⟨v2, k2⟩
   · have c2' := q0w c2 h2
     obtain rfl := q0J hX h2
     refine q0j [0] c2' rfl (by decide) ⟨rfl, rfl, trivial⟩ rfl rfl ?_ ?_
     · exact rsE
     refine rnE ?_
     with_reducible refine sxE ?_; trivial
   replace hX := q0E hX h2
   have c2' := q0q c2 h2
   have f2 := q0G q0f f1 h2
   refine q0j [0] c2' rfl (by decide) ⟨rfl, rfl, trivial⟩ rfl rfl ?_ ?_
   · exact rsE
   refine rnE ?_
   refine uQ 5 _ ?_
   with_reducible refine sxE ?_
   refine q1F [1, 2, 3] mixed ?_
   refine gQ ?_
   have c3 := q5L 2 (by omega) b (n + k1 + k2) f2 hb
   rcases h3 : needP 2 nameP (b.drop (n + k1 + k2)) with e | ⟨v3, k3⟩
   · have c3' := q0w c3 h3
     obtain rfl := q0J hX h3
     refine q0j [0] c3' rfl (by decide) ⟨rfl, rfl, trivial⟩ rfl rfl ?_ ?_
     · exact rsE
     refine rnE ?_
     with_reducible refine sxE ?_; trivial
   replace hX := q0E hX h3
   have c3' := q0q c3 h3
   have f3 := q0G q0f f2 h3
   refine q0j [0] c3' rfl (by decide) ⟨rfl, rfl, trivial⟩ rfl rfl ?_ ?_
   · exact rsE
   refine rnE ?_
   refine uQ 5 _ ?_
   with_reducible refine sxE ?_
   refine q1F [1, 2, 3] mixed ?_
   refine gQ ?_
   have c4 := q3N 3 (by omega) b (n + k1 + k2 + k3) f3 hb
   rcases h4 : dfltP (0 : Nat) 3 timeP (b.drop (n + k1 + k2 + k3)) with e | ⟨v4, k4⟩
   · have c4' := q0w c4 h4
     obtain rfl := q0J hX h4
     refine q0j [0] c4' rfl (by decide) ⟨rfl, rfl, trivial⟩ rfl rfl ?_ ?_
     · exact rsE
     refine rnE ?_
     with_reducible refine sxE ?_; trivial
   replace hX := q0E hX h4
   have c4' := q0q c4 h4
   have f4 := q0G q0H f3 h4
   refine q0j [0] c4' rfl (by decide) ⟨rfl, rfl, trivial⟩ rfl rfl ?_ ?_
   · exact rsE
   refine rnE ?_
   refine uQ 5 _ ?_
   with_reducible refine sxE ?_
   refine q1F [1, 2, 3] mixed ?_
   refine gQ ?_
   have c5 := q4n 4 (by omega) b (n + k1 + k2 + k3 + k4) f4 hb
   rcases h5 : needP 4 timeP (b.drop (n + k1 + k2 + k3 + k4)) with e | ⟨v5, k5⟩
   · have c5' := q0w c5 h5
     obtain rfl := q0J hX h5
     refine q0j [0] c5' rfl (by decide) ⟨rfl, rfl, trivial⟩ rfl rfl ?_ ?_
     · exact rsE
     refine rnE ?_
     with_reducible refine sxE ?_; trivial
   replace hX := q0E hX h5
   have c5' := q0q c5 h5
   have f5 := q0G q0f f4 h5
   refine q0j [0] c5' rfl (by decide) ⟨rfl, rfl, trivial⟩ rfl rfl ?_ ?_
   · exact rsE
   refine rnE ?_
   refine uQ 5 _ ?_
   with_reducible refine sxE ?_
   refine q1F [1, 2, 3] mixed ?_
   refine gQ ?_
   have c6 := q3N 5 (by omega) b (n + k1 + k2 + k3 + k4 + k5) f5 hb
   rcases h6 : dfltP (0 : Nat) 5 timeP (b.drop (n + k1 + k2 + k3 + k4 + k5)) with e | ⟨v6, k6⟩
   · have c6' := q0w c6 h6
     obtain rfl := q0J hX h6
     refine q0j [0] c6' rfl (by decide) ⟨rfl, rfl, trivial⟩ rfl rfl ?_ ?_
     · exact rsE
     refine rnE ?_
     with_reducible refine sxE ?_; trivial
   replace hX := q0E hX h6
   have c6' := q0q c6 h6
   have f6 := q0G q0H f5 h6
   refine q0j [0] c6' rfl (by decide) ⟨rfl, rfl, trivial⟩ rfl rfl ?_ ?_
   · exact rsE
   refine rnE ?_
   refine uQ 5 _ ?_
   with_reducible refine sxE ?_
   refine q1F [1, 2, 3] mixed ?_
   refine gQ ?_
   have c7 := z0U 6 (by omega) b (n + k1 + k2 + k3 + k4 + k5 + k6) f6 hb
   rcases h7 : needP 6 intP (b.drop (n + k1 + k2 + k3 + k4 + k5 + k6)) with e | ⟨v7, k7⟩
   · have c7' := q0w c7 h7
     obtain rfl := q0J hX h7
     refine q0j [0] c7' rfl (by decide) ⟨rfl, rfl, trivial⟩ rfl rfl ?_ ?_
     · exact rsE
     refine rnE ?_
     with_reducible refine sxE ?_; trivial
   replace hX := q0E hX h7
   have c7' := q0q c7 h7
   have f7 := q0G q0f f6 h7
   refine q0j [0] c7' rfl (by decide) ⟨rfl, rfl, trivial⟩ rfl rfl ?_ ?_
   · exact rsE
   refine rnE ?_
   refine uQ 5 _ ?_
   with_reducible refine sxE ?_
   refine gQ ?_
   have c8 := needp 197 7 (by omega) b (n + k1 + k2 + k3 + k4 + k5 + k6 + k7) f7 hb 171 58 _ (q0d (q0O (q0d (q0O (q0d (q0O (q0d (q0d (q0d (q0d (q0d (q0d (q0d (q0d q0I)))))))))))))) numsP q1G _ (fun l => (q0d (q0O (q0d (q0O (q0d (q0O (q0d (q0d (q0d (q0d (q0d (q0O (q0d (q0d q0I))))))))))))))) (j0O k pre v1 v2 v3 v4 v5 v6 v7 (takeC (b.drop _)) 0 (Nat.zero_le _) (q0V hb) _)
   rcases h8 : needP 7 numsP (b.drop (n + k1 + k2 + k3 + k4 + k5 + k6 + k7)) with e | ⟨v8, k8⟩
   · have c8' := q0w c8 h8
     obtain rfl := q0J hX h8
     refine effP [0, 3, 1] (c8') ?_; trivial
   replace hX := q0E hX h8
   have c8' := q0q c8 h8
   have f8 := q0G q0f f7 h8
   refine q1s [0, 3, 1] (c8') rfl (by decide) (by repeat first | exact trivial | exact rfl | refine And.intro ?_ ?_) rfl rfl ?_
   simp only [afterO, Out.ren, SV.ren, mgA, sig, SObj.ren, SV.renL, List.set, List.map, List.append_nil]
   refine uQ 2 _ ?_
   with_reducible refine sxE ?_
   refine q1F [1, 2, 3] mixed ?_
   refine gQ ?_
   have c9 := hA' (n + k1 + k2 + k3 + k4 + k5 + k6 + k7 + k8) f8
   rcases h9 : dfltP [] 8 adrP (b.drop (n + k1 + k2 + k3 + k4 + k5 + k6 + k7 + k8)) with e | ⟨v9, k9⟩
   · have c9' := q0w c9 h9
     obtain rfl := q0J hX h9
     refine q0j [0] c9' rfl (by decide) ⟨rfl, rfl, trivial⟩ rfl rfl ?_ ?_
     · exact rsE
     refine rnE ?_
     with_reducible refine sxE ?_; trivial
   replace hX := q0E hX h9
   have c9' := q0q c9 h9
   have f9 := q0G q0H f8 h9
   refine q0j [0] c9' rfl (by decide) ⟨rfl, rfl, trivial⟩ rfl rfl ?_ ?_
   · exact rsE
   refine rnE ?_
   refine gQ ?_
   cases hn9 : nextB 9 (b.drop (n + k1 + k2 + k3 + k4 + k5 + k6 + k7 + k8 + k9)) with
   | false =>
    replace hX := q0E hX (q3c (d := ([] : List Tick)) (p := ticksP) hn9)
    have c10 := q5Q 200 9 (by omega) b (n + k1 + k2 + k3 + k4 + k5 + k6 + k7 + k8 + k9) f9 171 58 [rI k, .isl PreT pre, mU (v1 : Nat), .isl .str v2.1, rS v2.2, .isl .str v3.1, rS v3.2, rI (v4 : Nat), rI (v5 : Nat), rI (v6 : Nat), rI v7, .isl I64 v8, .isl PreT v9, .raw (.slice none 0 0)] (q0d (q0O (q0d (q0O (q0d (q0O (q0d (q0d (q0d (q0d (q0d (q0O (q0O (q0d q0I)))))))))))))) hn9
    refine eQ [0, 3, 1] (c10) ?_
    subst hX
    simp only [shiftP, retP]
    with_reducible refine sxE ?_
    exact congrArg (Value.int .i64) (by omega)
   | true =>
    have c10 := hTc v1 v2 v3 v4 v5 v6 v7 v8 v9 (n + k1 + k2 + k3 + k4 + k5 + k6 + k7 + k8 + k9) f9 hn9
    rcases h10 : inP (tagB 9) ticksP (b.drop (n + k1 + k2 + k3 + k4 + k5 + k6 + k7 + k8 + k9)) with e | ⟨v10, k10⟩
    · have c10' := q0w c10 h10
      obtain rfl := q0J hX ((q2s hn9).trans h10)
      refine effP [0, 3, 1] (c10') ?_; trivial
    replace hX := q0E hX ((q2s hn9).trans h10)
    have c10' := q0q c10 h10
    refine eQ [0, 3, 1] (c10') ?_
    subst hX
    simp only [shiftP, retP]
    with_reducible refine sxE ?_
    exact congrArg (Value.int .i64) (by omega)
 have hcl : cliP k = retP (([], ⟨#[]⟩) : Prin) := if_neg hk
 rw [hcl] at hX
 replace hX := q0E hX (show retP (([], ⟨#[]⟩) : Prin) (b.drop (n + k1)) = .ok (([], ⟨#[]⟩), 0) from rfl)
 rw [Nat.add_zero, Nat.add_zero] at hX
 refine uQ 9 _ ?_
 with_reducible refine sxE ?_
 refine ⟨fun h => absurd h hk, fun _ => ?_⟩
 refine uQ 2 _ ?_
 with_reducible refine sxE ?_
 refine q1F [1, 2, 3] mixed ?_
 refine gQ ?_
 have c3 := q5L 2 (by omega) b (n + k1) f1 hb
 rcases h3 : needP 2 nameP (b.drop (n + k1)) with e | ⟨v3, k3⟩
 · have c3' := q0w c3 h3
   obtain rfl := q0J hX h3
   refine q0j [0] c3' rfl (by decide) ⟨rfl, rfl, trivial⟩ rfl rfl ?_ ?_
   · exact rsE
   refine rnE ?_
   with_reducible refine sxE ?_; trivial
 replace hX := q0E hX h3
 have c3' := q0q c3 h3
 have f3 := q0G q0f f1 h3
 refine q0j [0] c3' rfl (by decide) ⟨rfl, rfl, trivial⟩ rfl rfl ?_ ?_
 · exact rsE
 refine rnE ?_
 refine uQ 5 _ ?_
 with_reducible refine sxE ?_
 refine q1F [1, 2, 3] mixed ?_
 refine gQ ?_
 have c4 := q3N 3 (by omega) b (n + k1 + k3) f3 hb
 rcases h4 : dfltP (0 : Nat) 3 timeP (b.drop (n + k1 + k3)) with e | ⟨v4, k4⟩
 · have c4' := q0w c4 h4
   obtain rfl := q0J hX h4
   refine q0j [0] c4' rfl (by decide) ⟨rfl, rfl, trivial⟩ rfl rfl ?_ ?_
   · exact rsE
   refine rnE ?_
   with_reducible refine sxE ?_; trivial
 replace hX := q0E hX h4
 have c4' := q0q c4 h4
 have f4 := q0G q0H f3 h4
 refine q0j [0] c4' rfl (by decide) ⟨rfl, rfl, trivial⟩ rfl rfl ?_ ?_
 · exact rsE
 refine rnE ?_
 refine uQ 5 _ ?_
 with_reducible refine sxE ?_
 refine q1F [1, 2, 3] mixed ?_
 refine gQ ?_
 have c5 := q4n 4 (by omega) b (n + k1 + k3 + k4) f4 hb
 rcases h5 : needP 4 timeP (b.drop (n + k1 + k3 + k4)) with e | ⟨v5, k5⟩
 · have c5' := q0w c5 h5
   obtain rfl := q0J hX h5
   refine q0j [0] c5' rfl (by decide) ⟨rfl, rfl, trivial⟩ rfl rfl ?_ ?_
   · exact rsE
   refine rnE ?_
   with_reducible refine sxE ?_; trivial
 replace hX := q0E hX h5
 have c5' := q0q c5 h5
 have f5 := q0G q0f f4 h5
 refine q0j [0] c5' rfl (by decide) ⟨rfl, rfl, trivial⟩ rfl rfl ?_ ?_
 · exact rsE
 refine rnE ?_
 refine uQ 5 _ ?_
 with_reducible refine sxE ?_
 refine q1F [1, 2, 3] mixed ?_
 refine gQ ?_
 have c6 := q3N 5 (by omega) b (n + k1 + k3 + k4 + k5) f5 hb
 rcases h6 : dfltP (0 : Nat) 5 timeP (b.drop (n + k1 + k3 + k4 + k5)) with e | ⟨v6, k6⟩
 · have c6' := q0w c6 h6
   obtain rfl := q0J hX h6
   refine q0j [0] c6' rfl (by decide) ⟨rfl, rfl, trivial⟩ rfl rfl ?_ ?_
   · exact rsE
   refine rnE ?_
   with_reducible refine sxE ?_; trivial
 replace hX := q0E hX h6
 have c6' := q0q c6 h6
 have f6 := q0G q0H f5 h6
 refine q0j [0] c6' rfl (by decide) ⟨rfl, rfl, trivial⟩ rfl rfl ?_ ?_
 · exact rsE
 refine rnE ?_
 refine uQ 5 _ ?_
 with_reducible refine sxE ?_
 refine q1F [1, 2, 3] mixed ?_
 refine gQ ?_
 have c7 := z0U 6 (by omega) b (n + k1 + k3 + k4 + k5 + k6) f6 hb
 rcases h7 : needP 6 intP (b.drop (n + k1 + k3 + k4 + k5 + k6)) with e | ⟨v7, k7⟩
 · have c7' := q0w c7 h7
   obtain rfl := q0J hX h7
   refine q0j [0] c7' rfl (by decide) ⟨rfl, rfl, trivial⟩ rfl rfl ?_ ?_
   · exact rsE
   refine rnE ?_
   with_reducible refine sxE ?_; trivial
 replace hX := q0E hX h7
 have c7' := q0q c7 h7
 have f7 := q0G q0f f6 h7
 refine q0j [0] c7' rfl (by decide) ⟨rfl, rfl, trivial⟩ rfl rfl ?_ ?_
 · exact rsE
 refine rnE ?_
 refine uQ 5 _ ?_
 with_reducible refine sxE ?_
 refine gQ ?_
 have c8 := needp 197 7 (by omega) b (n + k1 + k3 + k4 + k5 + k6 + k7) f7 hb 171 58 _ (q0d (q0O (q0d (q0d (q0d (q0O (q0d (q0d (q0d (q0d (q0d (q0d (q0d (q0d q0I)))))))))))))) numsP q1G _ (fun l => (q0d (q0O (q0d (q0d (q0d (q0O (q0d (q0d (q0d (q0d (q0d (q0O (q0d (q0d q0I))))))))))))))) (j1C k pre v1 v3 v4 v5 v6 v7 (takeC (b.drop _)) 0 (Nat.zero_le _) (q0V hb) _)
 rcases h8 : needP 7 numsP (b.drop (n + k1 + k3 + k4 + k5 + k6 + k7)) with e | ⟨v8, k8⟩
 · have c8' := q0w c8 h8
   obtain rfl := q0J hX h8
   refine effP [0, 3, 1] (c8') ?_; trivial
 replace hX := q0E hX h8
 have c8' := q0q c8 h8
 have f8 := q0G q0f f7 h8
 refine q1s [0, 3, 1] (c8') rfl (by decide) (by repeat first | exact trivial | exact rfl | refine And.intro ?_ ?_) rfl rfl ?_
 simp only [afterO, Out.ren, SV.ren, mgA, sig, SObj.ren, SV.renL, List.set, List.map, List.append_nil]
 refine uQ 2 _ ?_
 with_reducible refine sxE ?_
 refine q1F [1, 2, 3] mixed ?_
 refine gQ ?_
 have c9 := hA' (n + k1 + k3 + k4 + k5 + k6 + k7 + k8) f8
 rcases h9 : dfltP [] 8 adrP (b.drop (n + k1 + k3 + k4 + k5 + k6 + k7 + k8)) with e | ⟨v9, k9⟩
 · have c9' := q0w c9 h9
   obtain rfl := q0J hX h9
   refine q0j [0] c9' rfl (by decide) ⟨rfl, rfl, trivial⟩ rfl rfl ?_ ?_
   · exact rsE
   refine rnE ?_
   with_reducible refine sxE ?_; trivial
 replace hX := q0E hX h9
 have c9' := q0q c9 h9
 have f9 := q0G q0H f8 h9
 refine q0j [0] c9' rfl (by decide) ⟨rfl, rfl, trivial⟩ rfl rfl ?_ ?_
 · exact rsE
 refine rnE ?_
 refine gQ ?_
 cases hn9 : nextB 9 (b.drop (n + k1 + k3 + k4 + k5 + k6 + k7 + k8 + k9)) with
 | false =>
  replace hX := q0E hX (q3c (d := ([] : List Tick)) (p := ticksP) hn9)
  have c10 := q5Q 200 9 (by omega) b (n + k1 + k3 + k4 + k5 + k6 + k7 + k8 + k9) f9 171 58 [rI k, .isl PreT pre, mU (v1 : Nat), .raw (.slice none 0 0), rS ⟨#[]⟩, .isl .str v3.1, rS v3.2, rI (v4 : Nat), rI (v5 : Nat), rI (v6 : Nat), rI v7, .isl I64 v8, .isl PreT v9, .raw (.slice none 0 0)] (q0d (q0O (q0d (q0d (q0d (q0O (q0d (q0d (q0d (q0d (q0d (q0O (q0O (q0d q0I)))))))))))))) hn9
  refine eQ [0, 3, 1] (c10) ?_
  subst hX
  simp only [shiftP, retP]
  with_reducible refine sxE ?_
  exact congrArg (Value.int .i64) (by omega)
 | true =>
  have c10 := hTz v1 v3 v4 v5 v6 v7 v8 v9 (n + k1 + k3 + k4 + k5 + k6 + k7 + k8 + k9) f9 hn9
  rcases h10 : inP (tagB 9) ticksP (b.drop (n + k1 + k3 + k4 + k5 + k6 + k7 + k8 + k9)) with e | ⟨v10, k10⟩
  · have c10' := q0w c10 h10
    obtain rfl := q0J hX ((q2s hn9).trans h10)
    refine effP [0, 3, 1] (c10') ?_; trivial
  replace hX := q0E hX ((q2s hn9).trans h10)
  have c10' := q0q c10 h10
  refine eQ [0, 3, 1] (c10') ?_
  subst hX
  simp only [shiftP, retP]
  with_reducible refine sxE ?_
  exact congrArg (Value.int .i64) (by omega)
@[go_sem] abbrev faO (cs : List SV) : SObj := .cells 60 cs
def zP : Prin := ([], ⟨#[]⟩)
@[go_sem] abbrev fa0 : List SV := [rI 0, rI 0, rI 0, .raw (.slice none 0 0), rS ⟨#[]⟩, .raw (.slice none 0 0), rS ⟨#[]⟩, rS ⟨#[]⟩, .raw (.slice none 0 0)]
theorem j1n : OkP datP PreT.ok := q4u (q1p (Q1 := fun _ => True) q1R fun _ _ => q1p (q3j z3G) fun _ hc => z0G ⟨trivial, hc⟩)
theorem z7w : OkP dataP (Ty.slice PreT).ok := j2J (t := PreT) 16 (by omega) j1n
theorem j2O : PrinT.ok zP := ⟨z1G, j0S⟩
theorem q5E (a : Int) (c : List UInt8) (ha : 0 ≤ a ∧ a ≤ 4611686018427387904) (hc : c.length ≤ 65536) : datS (a, c) = tlv 48 (sufS [intS a, elemS 4 [c]] 0 2) ∧ (sufS [intS a, elemS 4 [c]] 0 2).length ≤ c.length + 40 := by
 have i1 := q1z a
 obtain ⟨c1, e1, _⟩ := q4E (v := a) (by omega)
 have e3 : elemS 4 [c] = tlv 4 c := q1j (by omega)
 have w3 := q0o 4 [c]
 simp only [List.flatten_cons, List.flatten_nil, List.append_nil] at w3
 have w0 := q0n 160 0 (intS a)
 have w2 := q0n 160 1 (elemS 4 [c])
 have n0 : wrapS 160 0 (intS a) ≠ [] := by rw [show (0 : Int) = ((0 : Nat) : Int) from rfl, q3z (by omega) (by omega) (by rw [e1]; exact q1k)]; exact q1k
 have n2 : wrapS 160 1 (elemS 4 [c]) ≠ [] := by rw [show (1 : Int) = ((1 : Nat) : Int) from rfl, q3z (by omega) (by omega) (by rw [e3]; exact q1k)]; exact q1k
 have hf : (tagN [intS a, elemS 4 [c]] 2).flatten = sufS [intS a, elemS 4 [c]] 0 2 := q4F [intS a, elemS 4 [c]]
 have ht : tagN [intS a, elemS 4 [c]] 2 = [wrapS 160 0 (intS a), wrapS 160 1 (elemS 4 [c])] := by simp [tagN, List.range_succ]
 have hl : (sufS [intS a, elemS 4 [c]] 0 2).length ≤ c.length + 40 := by
  rw [← hf, ht]
  simp only [List.flatten_cons, List.flatten_nil, List.append_nil, List.length_append]
  omega
 refine ⟨?_, hl⟩
 have hfull : allN 2 (fullAt [wrapS 160 0 (intS a), wrapS 160 1 (elemS 4 [c])]) = true := by
  refine q0p fun j hj => ?_
  match j, hj with
  | 0, _ => exact decide_eq_true n0
  | 1, _ => exact decide_eq_true n2
 show wholeS (tagN [intS a, elemS 4 [c]] 2) = _
 rw [ht]
 unfold wholeS
 rw [show ([wrapS 160 0 (intS a), wrapS 160 1 (elemS 4 [c])] : List (List UInt8)).length = 2 from rfl, if_pos hfull, ← ht, q1n (by rw [hf]; omega), hf]
theorem j0d (a : Int) (c : List UInt8) (ha : 0 ≤ a ∧ a ≤ 4611686018427387904) (hc : c.length ≤ 65536) (r : List UInt8) : datP (datS (a, c) ++ r) = .ok ((a, c), (datS (a, c)).length) := by
 have i1 := q1z a
 obtain ⟨c1, e1, _⟩ := q4E (v := a) (by omega)
 have e3 : elemS 4 [c] = tlv 4 c := q1j (by omega)
 have w3 := q0o 4 [c]
 simp only [List.flatten_cons, List.flatten_nil, List.append_nil] at w3
 have hL : ∀ j, (([intS a, elemS 4 [c]] : List (List UInt8)).getD j []).length ≤ 16777215 := fun j => by
  match j with
  | 0 => show (intS a).length ≤ _; omega
  | 1 => show (elemS 4 [c]).length ≤ _; omega
  | j + 2 => exact Nat.zero_le _
 obtain ⟨hS, hin⟩ := q5E a c ha hc
 rw [hS]
 refine q3C (by omega) ?_ r
 have q0 : intP (([intS a, elemS 4 [c]] : List (List UInt8)).getD 0 []) = .ok (a, (([intS a, elemS 4 [c]] : List (List UInt8)).getD 0 []).length) := full (e := intS a) (q8N (by omega))
 have q1 : octP (([intS a, elemS 4 [c]] : List (List UInt8)).getD 1 []) = .ok (c, (([intS a, elemS 4 [c]] : List (List UInt8)).getD 1 []).length) := full (e := elemS 4 [c]) (z5B (by omega))
 have n0 : ([intS a, elemS 4 [c]] : List (List UInt8)).getD 0 [] ≠ [] := by show intS a ≠ []; rw [e1]; exact q1k
 have n1 : ([intS a, elemS 4 [c]] : List (List UInt8)).getD 1 [] ≠ [] := by show elemS 4 _ ≠ []; rw [e3]; exact q1k
 unfold datIn
 refine q1H (n := 0) (k := 1) (q1y hL (by omega) n0 q0) ?_
 refine q1H (n := 1) (k := 0) (q1y hL (by omega) n1 q1) ?_
 rfl
theorem z9t {p : Pre} (h : vPre1 p = true) : ((0 : Int) ≤ p.1 ∧ p.1 ≤ (2147483647 : Int)) ∧ p.2.length ≤ 16384 := by
 simp only [vPre1, mIn, Bool.and_eq_true, decide_eq_true_eq] at h
 exact ⟨h.1, by omega⟩
theorem q7A {l : List Pre} (h : vPre l = true) : l.length ≤ 16 ∧ ∀ p ∈ l, ((0 : Int) ≤ p.1 ∧ p.1 ≤ (2147483647 : Int)) ∧ p.2.length ≤ 16384 := by
 simp only [vPre, Bool.and_eq_true, decide_eq_true_eq] at h
 refine ⟨by omega, fun p hp => ?_⟩
 obtain ⟨j, hj, rfl⟩ := List.getElem_of_mem hp
 have := q1S.1 h.2 j hj
 unfold preAt at this
 rw [List.getD_eq_getElem?_getD, List.getElem?_eq_getElem hj] at this
 exact z9t this
theorem z1I {p : Pre} (h : ((0 : Int) ≤ p.1 ∧ p.1 ≤ (2147483647 : Int)) ∧ p.2.length ≤ 16384) : datS p ≠ [] ∧ (∀ r, datP (datS p ++ r) = .ok (p, (datS p).length)) ∧ (datS p).length ≤ 16434 := by
 obtain ⟨a, c⟩ := p
 obtain ⟨h1, h2⟩ := h
 have ha : (0 : Int) ≤ a ∧ a ≤ 4611686018427387904 := ⟨h1.1, Int.le_trans h1.2 (by decide)⟩
 dsimp only at h2
 obtain ⟨e, hl⟩ := q5E a c ha (by omega)
 refine ⟨by rw [e]; exact q1k, j0d a c ha (by omega), ?_⟩
 rw [e, q0U]
 have := q3m (sufS [intS a, elemS 4 [c]] 0 2).length
 omega
theorem q4r {l : List Pre} (h : vPre l = true) : dataS l = tlv 48 (l.map datS).flatten ∧ (l.map datS).flatten.length ≤ 16434 * l.length := by
 obtain ⟨h16, hv⟩ := q7A h
 have hb : (l.map datS).flatten.length ≤ 16434 * l.length := q8t datS 16434 l fun x hx => (z1I (hv x hx)).2.2
 have hm : mapN (t := PreT) datS l l.length = l.map datS := by unfold mapN; rw [List.take_length]
 refine ⟨?_, hb⟩
 unfold dataS wholeS
 rw [if_pos h16, hm, List.length_map, if_pos, q1n (by omega)]
 refine q0p fun j hj => decide_eq_true ?_
 rw [List.getD_eq_getElem?_getD, List.getElem?_eq_getElem (by rw [List.length_map]; exact hj), List.getElem_map]
 exact (z1I (hv _ (List.getElem_mem hj))).1
theorem z7V {l : List Pre} (h : vPre l = true) (r : List UInt8) : dataP (dataS l ++ r) = .ok (l, (dataS l).length) := by
 obtain ⟨h16, hv⟩ := q7A h
 obtain ⟨e, hl⟩ := q4r h
 rw [e]
 exact q3C (by omega) (q8O l 16 h16 fun s hs => ⟨(z1I (hv s hs)).1, (z1I (hv s hs)).2.1⟩) r
def preO (l : List Pre) : List UInt8 := if l.length = 0 then [] else dataS l
theorem j1o (n : Int) (l : List Pre) : preS n l = wrapS 160 n (preO l) := by
 unfold preS optS preO
 by_cases h : l.length = 0
 · rw [if_pos h, decide_eq_false (by omega)]; simp [wrapS]
 rw [if_neg h, decide_eq_true (by omega)]; rfl
theorem j2I {l : List Pre} (h : vPre l = true) : (if preO l = [] then l = [] else dataP (preO l) = .ok (l, (preO l).length)) ∧ (preO l).length ≤ 262960 := by
 obtain ⟨h16, hv⟩ := q7A h
 obtain ⟨e, hl⟩ := q4r h
 unfold preO
 by_cases h0 : l.length = 0
 · simp [h0, List.length_eq_zero_iff.1 h0]
 rw [if_neg h0, if_neg (by rw [e]; exact q1k)]
 refine ⟨full (z7V h), ?_⟩
 rw [e, q0U]
 have := q3m (l.map datS).flatten.length
 omega
theorem z9T (n : Int) (c : Bool) (w : List UInt8) : optS n (!c) w = wrapS 160 n (if c then [] else w) := by
 unfold optS; cases c <;> simp [wrapS]
theorem z9N {v : Int} (h : 0 ≤ v ∧ v ≤ 4611686018427387904) : intS v ≠ [] := by
 obtain ⟨c1, e1, _⟩ := q4E h
 rw [e1]; exact q1k
structure BodH (k : Int) (pre : List Pre) (b : List UInt8) : Prop where
 a : ∀ q, q ≤ b.length → nextB 8 (b.drop q) = true → Eff Tryz.prog 100 [.agg [.ptr 0 0], rI 8] b q [] (fun l : List Pre => .isl PreT l) (fun _ => []) (inP (tagB 8) adrP (b.drop q))
 c : ∀ (o : Int) (c s : Prin) (f t w m : Int) (pf : List Int) (ad : List Pre) (q : Nat), q ≤ b.length → nextB 9 (b.drop q) = true → Eff Tryz.prog 161 [.agg [.ptr 0 0], rI 9, .fn 200 [] [.ptr 1 0]] b q [.cells 171 [.ptr 2 0], rqO [rI k, .isl PreT pre, mU o, .isl .str c.1, rS c.2, .isl .str s.1, rS s.2, rI f, rI t, rI w, rI m, .isl I64 pf, .isl PreT ad, .raw (.slice none 0 0)]] (fun _ => rB true) (fun l : List Tick => [.cells 171 [.ptr 2 0], rqO [rI k, .isl PreT pre, mU o, .isl .str c.1, rS c.2, .isl .str s.1, rS s.2, rI f, rI t, rI w, rI m, .isl I64 pf, .isl PreT ad, .isl TickT l]]) (inP (tagB 9) ticksP (b.drop q))
 z : ∀ (o : Int) (s : Prin) (f t w m : Int) (pf : List Int) (ad : List Pre) (q : Nat), q ≤ b.length → nextB 9 (b.drop q) = true → Eff Tryz.prog 161 [.agg [.ptr 0 0], rI 9, .fn 200 [] [.ptr 1 0]] b q [.cells 171 [.ptr 2 0], rqO [rI k, .isl PreT pre, mU o, .raw (.slice none 0 0), rS ⟨#[]⟩, .isl .str s.1, rS s.2, rI f, rI t, rI w, rI m, .isl I64 pf, .isl PreT ad, .raw (.slice none 0 0)]] (fun _ => rB true) (fun l : List Tick => [.cells 171 [.ptr 2 0], rqO [rI k, .isl PreT pre, mU o, .raw (.slice none 0 0), rS ⟨#[]⟩, .isl .str s.1, rS s.2, rI f, rI t, rI w, rI m, .isl I64 pf, .isl PreT ad, .isl TickT l]]) (inP (tagB 9) ticksP (b.drop q))
structure BodB (B : List UInt8 → Prop) : Prop where
 tk : ∀ r, B r → B (takeC r)
 dr : ∀ r n, B r → B (r.drop n)
 h : ∀ k pre c, B c → BodH k pre c
@[go_sem] abbrev rq0 (k : Int) (pre : SV) : SObj := rqO [rI k, pre, .raw (.int .u32 0), .raw (.slice none 0 0), rS ⟨#[]⟩, .raw (.slice none 0 0), rS ⟨#[]⟩, rI 0, rI 0, rI 0, rI 0, .raw (.slice none 0 0), .raw (.slice none 0 0), .raw (.slice none 0 0)]
theorem z3V (k : Int) (pre : List Pre) : FitsP (bodP k pre) := q0y q0f fun _ => q0y (by unfold cliP; split <;> first | exact q0f | exact q4k) fun _ => q0y q0f fun _ => q0y q0H fun _ => q0y q0f fun _ => q0y q0H fun _ => q0y q0f fun _ => q0y q0f fun _ => q0y q0H fun _ => q0y q0H fun _ => q4k
theorem z9f {B : List UInt8 → Prop} (hB : BodB B) (k : Int) (pre : List Pre) (b : List UInt8) (n : Nat) (hn : n ≤ b.length) (hb : b.length ≤ 1099511627776) (hh : B b) :
 Eff Tryz.prog 146 [.agg [.ptr 0 0], .ptr 1 0] b n [rq0 k (.isl PreT pre)] (fun _ => .tup []) (fun r => [rqO (ReqT.cells r)]) (bodP k pre (b.drop n)) := by
 have h := hB.h k pre b hh
 have hm := j0e k pre b n hn hb h.a h.c h.z
 cases hx : bodP k pre (b.drop n) with
 | error e =>
  have hm' := q0w hm hx
  refine q0c (by simp) ?_
  refine rQ fi146 ?_
  refine effP [0, 1] (hm') ?_; trivial
 | ok x =>
  obtain ⟨v, q⟩ := x
  have hm' := q0q hm hx
  refine q0c (by simp) ?_
  refine rQ fi146 ?_
  refine eQ [0, 1] (hm') ?_; trivial
theorem z4H (k : Int) (pre : List Pre) : Cln [rI k, .isl PreT pre, .raw (.int .u32 0), .raw (.slice none 0 0), rS ⟨#[]⟩, .raw (.slice none 0 0), rS ⟨#[]⟩, rI 0, rI 0, rI 0, rI 0, .raw (.slice none 0 0), .raw (.slice none 0 0), .raw (.slice none 0 0)] := q0d (q0O (q0d (q0d (q0d (q0d (q0d (q0d (q0d (q0d (q0d (q0d (q0d (q0d q0I)))))))))))))
def bodS (k : Int) (pre : List Pre) : PR Req := inP 48 (bodP k pre)
theorem j2x {B : List UInt8 → Prop} (hB : BodB B) (k : Int) (pre : List Pre) (b : List UInt8) (n : Nat) (hn : n ≤ b.length) (hb : b.length ≤ 1099511627776) (hh : B b) :
 Eff Tryz.prog 144 [.agg [.ptr 0 0], .ptr 1 0] b n [rq0 k (.isl PreT pre)] (fun _ => .tup []) (fun r => [rqO (ReqT.cells r)]) (bodS k pre (b.drop n)) := by
 have hm := sequence1 146 b n hn hb 58 _ (z4H k pre) (bodP k pre) (z3V k pre) (fun r => ReqT.cells r) (fun r => z2E ReqT r) (z9f hB k pre (takeC (b.drop n)) 0 (Nat.zero_le _) (q0V hb) (hB.tk _ (hB.dr _ _ hh)))
 change Eff _ _ _ _ _ _ _ _ (bodS k pre (b.drop n)) at hm
 cases hx : bodS k pre (b.drop n) with
 | error e =>
  have hm' := q0w hm hx
  refine q0c (by simp) ?_
  refine rQ fi144 ?_
  refine effP [0, 1] (hm') ?_; trivial
 | ok x =>
  obtain ⟨v, q⟩ := x
  have hm' := q0q hm hx
  refine q0c (by simp) ?_
  refine rQ fi144 ?_
  refine eQ [0, 1] (hm') ?_; trivial
def rqIn (k : Int) : PR Req := bindP (needP 1 (cstP 5)) fun _ => bindP (needP 2 (cstP k)) fun _ => bindP (dfltP [] 3 dataP) fun pre => bindP (needP 4 (bodS k pre)) fun r => retP r
theorem z4w (k : Int) : FitsP (rqIn k) := q0y q0f fun _ => q0y q0f fun _ => q0y q0H fun _ => q0y q0f fun _ => q4k
theorem j2W {B : List UInt8 → Prop} (hB : BodB B) (k : Int) (b : List UInt8) (n : Nat) (hn : n ≤ b.length) (hb : b.length ≤ 1099511627776) (hh : B b) :
 Eff Tryz.prog 141 [.agg [.ptr 0 0], .iptr I64 k 0, .ptr 1 0] b n [rq0 k (.raw (.slice none 0 0))] (fun _ => .tup []) (fun r => [rqO (ReqT.cells r)]) (rqIn k (b.drop n)) := by
 refine q7y (fun _ => Nat.le_refl _) ?_
 obtain ⟨X, hX0⟩ : ∃ X, X = rqIn k (b.drop n) := ⟨_, rfl⟩
 rw [← hX0]
 have hX := hX0.trans z0z
 clear hX0
 unfold rqIn at hX
 refine rQ fi141 ?_
 have c1 := z8R 1 (by omega) 5 b (n) hn hb
 rcases h1 : needP 1 (cstP 5) (b.drop (n)) with e | ⟨v1, k1⟩
 · have c1' := q0w c1 h1
   obtain rfl := q0J hX h1
   refine effP [0] (c1') ?_; trivial
 replace hX := q0E hX h1
 have c1' := q0q c1 h1
 have f1 := q0G q0f hn h1
 refine eQ [0] (c1') ?_
 have c2 := z8R 2 (by omega) k b (n + k1) f1 hb
 rcases h2 : needP 2 (cstP k) (b.drop (n + k1)) with e | ⟨v2, k2⟩
 · have c2' := q0w c2 h2
   obtain rfl := q0J hX h2
   refine effP [0] (c2') ?_; trivial
 replace hX := q0E hX h2
 have c2' := q0q c2 h2
 have f2 := q0G q0f f1 h2
 refine eQ [0] (c2') ?_
 have c3 := j1X 3 (by omega) b (n + k1 + k2) f2 hb
 rcases h3 : dfltP [] 3 dataP (b.drop (n + k1 + k2)) with e | ⟨v3, k3⟩
 · have c3' := q0w c3 h3
   obtain rfl := q0J hX h3
   refine effP [0] (c3') ?_; trivial
 replace hX := q0E hX h3
 have c3' := q0q c3 h3
 have f3 := q0G q0H f2 h3
 refine eQ [0] (c3') ?_
 have c4 := need1 144 4 (by omega) b (n + k1 + k2 + k3) f3 hb 58 _ (z4H k v3) (bodS k v3) q1G _ (fun r => z2E ReqT r) (j2x hB k v3 (takeC (b.drop _)) 0 (Nat.zero_le _) (q0V hb) (hB.tk _ (hB.dr _ _ hh)))
 rcases h4 : needP 4 (bodS k v3) (b.drop (n + k1 + k2 + k3)) with e | ⟨v4, k4⟩
 · have c4' := q0w c4 h4
   obtain rfl := q0J hX h4
   refine effP [0, 1] (c4') ?_; trivial
 replace hX := q0E hX h4
 have c4' := q0q c4 h4
 have f4 := q0G q0f f3 h4
 refine eQ [0, 1] (c4') ?_
 subst hX
 simp only [shiftP, retP]
 with_reducible refine sxE ?_
 exact congrArg (Value.int .i64) (by omega)
def reqP (k : Nat) : PR Req := inP (appB k) (inP 48 (rqIn k))
theorem z6r {B : List UInt8 → Prop} (hB : BodB B) (k : Nat) (hk : k ≤ 30) (b : List UInt8) (n : Nat) (hn : n ≤ b.length) (hb : b.length ≤ 1099511627776) (hh : B b) :
 Eff Tryz.prog 73 [.agg [.ptr 0 0], rI (k : Nat)] b n [] (fun r => .agg (ReqT.cells r)) (fun _ => []) (reqP k (b.drop n)) := by
 have h1 := j2W hB (k : Nat) (takeC (takeC (b.drop n))) 0 (Nat.zero_le _) (Nat.le_trans (q3K _) (q0V hb)) (hB.tk _ (hB.tk _ (hB.dr _ _ hh)))
 rw [List.drop_zero] at h1
 have hc : Cln [rI (k : Nat), .raw (.slice none 0 0), .raw (.int .u32 0), .raw (.slice none 0 0), rS ⟨#[]⟩, .raw (.slice none 0 0), rS ⟨#[]⟩, rI 0, rI 0, rI 0, rI 0, .raw (.slice none 0 0), .raw (.slice none 0 0), .raw (.slice none 0 0)] := q0d (q0d (q0d (q0d (q0d (q0d (q0d (q0d (q0d (q0d (q0d (q0d (q0d (q0d q0I)))))))))))))
 have hm := applicationk 141 k hk b n hn hb (k : Nat) 58 _ hc (rqIn k) (z4w k) (fun r => ReqT.cells r) (fun r => z2E ReqT r) h1
 change Eff _ _ _ _ _ _ _ _ (reqP k (b.drop n)) at hm
 cases hx : reqP k (b.drop n) with
 | error e =>
  have hm' := q0w hm hx
  refine q0c (by simp) ?_
  refine q1J fi73 (q0l mixed 4 _ ?_)
  with_reducible refine sxE ?_
  refine q3i 3 2 (ty := I64) (x := ((k : Nat) : Int)) rfl trivial rfl rfl ?_
  refine gQ ?_
  refine effP [0, 4] (hm') ?_; trivial
 | ok x =>
  obtain ⟨v, q⟩ := x
  have hm' := q0q hm hx
  refine q0c (by simp) ?_
  refine q1J fi73 (q0l mixed 4 _ ?_)
  with_reducible refine sxE ?_
  refine q3i 3 2 (ty := I64) (x := ((k : Nat) : Int)) rfl trivial rfl rfl ?_
  refine gQ ?_
  refine eQ [0, 4] (hm') ?_; trivial
theorem z3g {B : List UInt8 → Prop} (hB : BodB B) (k : Nat) (hk : k ≤ 30) (b : List UInt8) (n : Nat) (hn : n ≤ b.length) (hb : b.length ≤ 1099511627776) (hh : B b) :
 Eff Tryz.prog 72 [.agg [.ptr 0 0], .iptr I64 (k : Nat) 0] b n [] (fun r => .agg (ReqT.cells r)) (fun _ => []) (reqP k (b.drop n)) := by
 have hm := z6r hB k hk b n hn hb hh
 cases hx : reqP k (b.drop n) with
 | error e =>
  have hm' := q0w hm hx
  refine q0c (by simp) ?_
  refine rQ fi72 ?_
  refine effP [0] (hm') ?_; trivial
 | ok x =>
  obtain ⟨v, q⟩ := x
  have hm' := q0q hm hx
  refine q0c (by simp) ?_
  refine rQ fi72 ?_
  refine eQ [0] (hm') ?_; trivial
theorem z6k (o : SObj) (T : TypeId) (x : Value) (R : List SObj) (K : List SObj → Prop) (h : ∀ G, K (o :: .cells T [rI 6] :: (R ++ G))) : DCall Tryz.prog 148 [.ptr 1 0] (some wrongV) (o :: .cells T [.raw x] :: R) K := by
 refine recE mixed fi148 ?_
 exact h _
def badR (k : Nat) (b : List UInt8) : Prop := (∃ e, reqP k b = .error e) ∨ ∃ r m, reqP k b = .ok (r, m) ∧ m < b.length
theorem z1c {B : List UInt8 → Prop} (hB : BodB B) (k : Nat) (hk : k ≤ 30) (b : List UInt8) (hb : b.length ≤ 1099511627776) (hh : B b) (hbad : badR k b) : PC Tryz.prog 74 [.isl .u8 b, .fn 72 [] [.iptr I64 (k : Nat) 0], .fn 65 [] [], .fn 67 [] []] (.tup [.agg (ReqT.cells ReqT.dflt), rI 6]) := by
 have hnew := j2q b (by omega)
 have hread := z3g hB k hk b 0 (Nat.zero_le _) hb hh
 rw [List.drop_zero] at hread
 refine q0e rfl rfl ?_
 refine defE mixed fi74 ?_
 refine gQ ?_
 refine eQ [] (hnew) ?_
 rcases hbad with ⟨e, hx⟩ | ⟨r, m, hx, hm⟩
 · have hr := q0w hread hx
   refine effP [2] (hr) ?_
   refine ⟨by simp, z6k _ _ _ _ _ fun G => ?_⟩
   with_reducible refine sxE ?_
   exact ⟨rfl, rfl, rfl, rfl, rfl, rfl, rfl, rfl, rfl, rfl, rfl, rfl, rfl, rfl⟩
 have hr := q0q hread hx
 rw [Nat.zero_add] at hr
 refine eQ [2] (hr) ?_
 refine effP [2] (q4L b m hm) ?_
 refine ⟨by simp, z6k _ _ _ _ _ fun G => ?_⟩
 with_reducible refine sxE ?_
 exact ⟨rfl, rfl, rfl, rfl, rfl, rfl, rfl, rfl, rfl, rfl, rfl, rfl, rfl, rfl⟩
theorem z3v {B : List UInt8 → Prop} (hB : BodB B) (k : Nat) (hk : k ≤ 30) (b : List UInt8) (hb : b.length ≤ 1099511627776) (hh : B b) (hK : kindB b 0 = true) (hV : kindV b 0 = (k : Nat)) (hbad : badR k b) : PC Tryz.prog 24 [.isl .u8 b] (.tup [.agg (ReqT.cells ReqT.dflt), rI 6]) := by
 have hd := z1c hB k hk b hb hh hbad
 have hko := z7D b 0 (by omega)
 rw [hK, hV] at hko
 refine q0e rfl rfl ?_
 refine rQ fi24 ?_
 refine q0a hko ?_
 refine uQ 6 _ ?_
 with_reducible refine sxE ?_
 refine q3i 4 1 (ty := I64) (x := ((k : Nat) : Int)) rfl trivial rfl rfl ?_
 refine gQ ?_
 refine q0a hd ?_
 refine gQ ?_; trivial
def adrS (l : List Pre) : List UInt8 := if vAdrs l then dataS l else []
theorem z8B {a : Pre} (h : vAdr a = true) : ((0 : Int) ≤ a.1 ∧ a.1 ≤ (2147483647 : Int)) ∧ a.2.length ≤ 16 := by
 obtain ⟨k, b⟩ := a
 simp only [vAdr, Bool.or_eq_true, Bool.and_eq_true, decide_eq_true_eq] at h
 change Int at k
 have hk : k = 2 ∨ k = 20 ∨ k = 24 := by
  rcases h with ⟨e, _⟩ | ⟨e, _⟩ | ⟨e, _⟩
  · exact .inl e
  · exact .inr (.inl e)
  exact .inr (.inr e)
 refine ⟨?_, ?_⟩
 · show (0 : Int) ≤ k ∧ k ≤ 2147483647
   omega
 rcases h with ⟨_, e⟩ | ⟨_, _, e, _⟩ | ⟨_, e⟩ <;> (show b.length ≤ 16; omega)
theorem z0C {l : List Pre} (h : vAdrs l = true) : l.length ≤ 16 ∧ ∀ a ∈ l, vAdr a = true := by
 simp only [vAdrs, Bool.and_eq_true, decide_eq_true_eq] at h
 refine ⟨by omega, fun p hp => ?_⟩
 obtain ⟨j, hj, rfl⟩ := List.getElem_of_mem hp
 have := q1S.1 h.2 j hj
 unfold adrAt at this
 rwa [List.getD_eq_getElem?_getD, List.getElem?_eq_getElem hj] at this
theorem q4B {l : List Pre} (h : vAdrs l = true) : vPre l = true := by
 obtain ⟨h16, hv⟩ := z0C h
 unfold vPre
 rw [Bool.and_eq_true, decide_eq_true_eq]
 refine ⟨by omega, q0p fun j hj => ?_⟩
 unfold preAt
 rw [List.getD_eq_getElem?_getD, List.getElem?_eq_getElem hj]
 obtain ⟨h1, h2⟩ := z8B (hv _ (List.getElem_mem hj))
 simp only [vPre1, mIn, Bool.and_eq_true, decide_eq_true_eq, Option.getD_some]
 exact ⟨h1, by omega⟩
theorem j1U {l : List Pre} (h : vAdrs l = true) : (if preO l = [] then l = [] else adrP (preO l) = .ok (l, (preO l).length)) ∧ (preO l).length ≤ 262960 := by
 obtain ⟨h1, h2⟩ := j2I (q4B h)
 refine ⟨?_, h2⟩
 split at h1
 · rename_i e; rw [if_pos e]; exact h1
 rename_i e
 rw [if_neg e]
 unfold adrP
 rw [h1]
 simp only [chkP]
 rw [if_pos h]
theorem z1W (n t : Int) : instS n t = wrapS 160 n (timO t) := by
 unfold instS timO
 rw [z9T]
 by_cases h : t = 0 <;> simp [h]
end Go.Proofs.YtcjehhejgimmdaaGreatDoor
