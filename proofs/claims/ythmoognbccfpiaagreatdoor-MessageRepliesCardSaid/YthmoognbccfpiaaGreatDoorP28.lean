/- Contracts: messages: reading a request. -/
import Derived.Test.YthmoognbccfpiaaGreatDoorP23
import Derived.Test.YthmoognbccfpiaaGreatDoorP21
import Derived.Test.YthmoognbccfpiaaGreatDoorP27
import Derived.Test.YthmoognbccfpiaaGreatDoorP26
set_option linter.unusedSimpArgs false
set_option linter.unusedVariables false
set_option linter.unusedSectionVars false
namespace Go.Proofs.YthmoognbccfpiaaGreatDoor
open Go Go.Sx Go.Proofs
set_option maxRecDepth 100000
set_option maxHeartbeats 4000000
set_option linter.unusedSimpArgs false

structure BodH (k : Int) (pre : List Pre) (b : List UInt8) : Prop where
 a : ∀ q, q ≤ b.length → nextB 8 (b.drop q) = true → Eff Tryz.prog 184 [.agg [.ptr 0 0], rI 8] b q [] (fun l : List Pre => .isl PreT l) (fun _ => []) (inP (tagB 8) adrP (b.drop q))
 c : ∀ (o : Int) (c s : Prin) (f t w m : Int) (pf : List Int) (ad : List Pre) (q : Nat), q ≤ b.length → nextB 9 (b.drop q) = true → Eff Tryz.prog 154 [.agg [.ptr 0 0], rI 9, .fn 185 [] [.ptr 1 0]] b q [.cells 157 [.ptr 2 0], rqO [rI k, .isl PreT pre, mU o, .isl .str c.1, rS c.2, .isl .str s.1, rS s.2, rI f, rI t, rI w, rI m, .isl I64 pf, .isl PreT ad, .raw (.slice none 0 0)]] (fun _ => rB true) (fun l : List Tick => [.cells 157 [.ptr 2 0], rqO [rI k, .isl PreT pre, mU o, .isl .str c.1, rS c.2, .isl .str s.1, rS s.2, rI f, rI t, rI w, rI m, .isl I64 pf, .isl PreT ad, .isl TickT l]]) (inP (tagB 9) ticksP (b.drop q))
 z : ∀ (o : Int) (s : Prin) (f t w m : Int) (pf : List Int) (ad : List Pre) (q : Nat), q ≤ b.length → nextB 9 (b.drop q) = true → Eff Tryz.prog 154 [.agg [.ptr 0 0], rI 9, .fn 185 [] [.ptr 1 0]] b q [.cells 157 [.ptr 2 0], rqO [rI k, .isl PreT pre, mU o, .raw (.slice none 0 0), rS ⟨#[]⟩, .isl .str s.1, rS s.2, rI f, rI t, rI w, rI m, .isl I64 pf, .isl PreT ad, .raw (.slice none 0 0)]] (fun _ => rB true) (fun l : List Tick => [.cells 157 [.ptr 2 0], rqO [rI k, .isl PreT pre, mU o, .raw (.slice none 0 0), rS ⟨#[]⟩, .isl .str s.1, rS s.2, rI f, rI t, rI w, rI m, .isl I64 pf, .isl PreT ad, .isl TickT l]]) (inP (tagB 9) ticksP (b.drop q))
structure BodB (B : List UInt8 → Prop) : Prop where
 tk : ∀ r, B r → B (takeC r)
 dr : ∀ r n, B r → B (r.drop n)
 h : ∀ k pre c, B c → BodH k pre c
@[go_sem] abbrev rq0 (k : Int) (pre : SV) : SObj := rqO [rI k, pre, .raw (.int .u32 0), .raw (.slice none 0 0), rS ⟨#[]⟩, .raw (.slice none 0 0), rS ⟨#[]⟩, rI 0, rI 0, rI 0, rI 0, .raw (.slice none 0 0), .raw (.slice none 0 0), .raw (.slice none 0 0)]
theorem bodP_fits (k : Int) (pre : List Pre) : FitsP (bodP k pre) := bindP_fits needP_fits fun _ => bindP_fits (by unfold cliP; split <;> first | exact needP_fits | exact retP_fits) fun _ => bindP_fits needP_fits fun _ => bindP_fits dfltP_fits fun _ => bindP_fits needP_fits fun _ => bindP_fits dfltP_fits fun _ => bindP_fits needP_fits fun _ => bindP_fits needP_fits fun _ => bindP_fits dfltP_fits fun _ => bindP_fits dfltP_fits fun _ => retP_fits
theorem rq111_c {B : List UInt8 → Prop} (hB : BodB B) (k : Int) (pre : List Pre) (b : List UInt8) (n : Nat) (hn : n ≤ b.length) (hb : b.length ≤ 1099511627776) (hh : B b) :
 Eff Tryz.prog 131 [.agg [.ptr 0 0], .ptr 1 0] b n [rq0 k (.isl PreT pre)] (fun _ => .tup []) (fun r => [rqO (ReqT.cells r)]) (bodP k pre (b.drop n)) := by
 have h := hB.h k pre b hh
 have hm := mbody_c k pre b n hn hb h.a h.c h.z
 cases hx : bodP k pre (b.drop n) with
 | error e =>
  have hm' := eff_er hm hx
  refine pe_seal (by simp) ?_
  refine runE mixed fi131 ?_
  refine effP [0, 1] (hm') ?_; trivial
 | ok x =>
  obtain ⟨v, q⟩ := x
  have hm' := eff_ok hm hx
  refine pe_seal (by simp) ?_
  refine runE mixed fi131 ?_
  refine effE mixed [0, 1] (hm') ?_; trivial
theorem cln_rq0 (k : Int) (pre : List Pre) : Cln [rI k, .isl PreT pre, .raw (.int .u32 0), .raw (.slice none 0 0), rS ⟨#[]⟩, .raw (.slice none 0 0), rS ⟨#[]⟩, rI 0, rI 0, rI 0, rI 0, .raw (.slice none 0 0), .raw (.slice none 0 0), .raw (.slice none 0 0)] := cln_raw (cln_isl (cln_raw (cln_raw (cln_raw (cln_raw (cln_raw (cln_raw (cln_raw (cln_raw (cln_raw (cln_raw (cln_raw (cln_raw cln_nil)))))))))))))
def bodS (k : Int) (pre : List Pre) : PR Req := inP 48 (bodP k pre)
theorem rq11_c {B : List UInt8 → Prop} (hB : BodB B) (k : Int) (pre : List Pre) (b : List UInt8) (n : Nat) (hn : n ≤ b.length) (hb : b.length ≤ 1099511627776) (hh : B b) :
 Eff Tryz.prog 129 [.agg [.ptr 0 0], .ptr 1 0] b n [rq0 k (.isl PreT pre)] (fun _ => .tup []) (fun r => [rqO (ReqT.cells r)]) (bodS k pre (b.drop n)) := by
 have hm := sequence1 131 b n hn hb 58 _ (cln_rq0 k pre) (bodP k pre) (bodP_fits k pre) (fun r => ReqT.cells r) (fun r => cln_ty ReqT r) (rq111_c hB k pre (takeC (b.drop n)) 0 (Nat.zero_le _) (tkC_le hb) (hB.tk _ (hB.dr _ _ hh)))
 change Eff _ _ _ _ _ _ _ _ (bodS k pre (b.drop n)) at hm
 cases hx : bodS k pre (b.drop n) with
 | error e =>
  have hm' := eff_er hm hx
  refine pe_seal (by simp) ?_
  refine runE mixed fi129 ?_
  refine effP [0, 1] (hm') ?_; trivial
 | ok x =>
  obtain ⟨v, q⟩ := x
  have hm' := eff_ok hm hx
  refine pe_seal (by simp) ?_
  refine runE mixed fi129 ?_
  refine effE mixed [0, 1] (hm') ?_; trivial
def rqIn (k : Int) : PR Req := bindP (needP 1 (cstP 5)) fun _ => bindP (needP 2 (cstP k)) fun _ => bindP (dfltP [] 3 dataP) fun pre => bindP (needP 4 (bodS k pre)) fun r => retP r
theorem rqIn_fits (k : Int) : FitsP (rqIn k) := bindP_fits needP_fits fun _ => bindP_fits needP_fits fun _ => bindP_fits dfltP_fits fun _ => bindP_fits needP_fits fun _ => retP_fits
theorem rq1_c {B : List UInt8 → Prop} (hB : BodB B) (k : Int) (b : List UInt8) (n : Nat) (hn : n ≤ b.length) (hb : b.length ≤ 1099511627776) (hh : B b) :
 Eff Tryz.prog 128 [.agg [.ptr 0 0], .iptr I64 k 0, .ptr 1 0] b n [rq0 k (.raw (.slice none 0 0))] (fun _ => .tup []) (fun r => [rqO (ReqT.cells r)]) (rqIn k (b.drop n)) := by
 refine eff_of (fun _ => Nat.le_refl _) ?_
 obtain ⟨X, hX0⟩ : ∃ X, X = rqIn k (b.drop n) := ⟨_, rfl⟩
 rw [← hX0]
 have hX := hX0.trans bind_x0
 clear hX0
 unfold rqIn at hX
 refine runE mixed fi128 ?_
 have c1 := mcst_c 1 (by omega) 5 b (n) hn hb
 rcases h1 : needP 1 (cstP 5) (b.drop (n)) with e | ⟨v1, k1⟩
 · have c1' := eff_er c1 h1
   obtain rfl := bind_xe hX h1
   refine effP [0] (c1') ?_; trivial
 replace hX := bind_xo hX h1
 have c1' := eff_ok c1 h1
 have f1 := fits_at needP_fits hn h1
 refine effE mixed [0] (c1') ?_
 have c2 := mcst_c 2 (by omega) k b (n + k1) f1 hb
 rcases h2 : needP 2 (cstP k) (b.drop (n + k1)) with e | ⟨v2, k2⟩
 · have c2' := eff_er c2 h2
   obtain rfl := bind_xe hX h2
   refine effP [0] (c2') ?_; trivial
 replace hX := bind_xo hX h2
 have c2' := eff_ok c2 h2
 have f2 := fits_at needP_fits f1 h2
 refine effE mixed [0] (c2') ?_
 have c3 := mpre_c 3 (by omega) b (n + k1 + k2) f2 hb
 rcases h3 : dfltP [] 3 dataP (b.drop (n + k1 + k2)) with e | ⟨v3, k3⟩
 · have c3' := eff_er c3 h3
   obtain rfl := bind_xe hX h3
   refine effP [0] (c3') ?_; trivial
 replace hX := bind_xo hX h3
 have c3' := eff_ok c3 h3
 have f3 := fits_at dfltP_fits f2 h3
 refine effE mixed [0] (c3') ?_
 have c4 := need1 129 4 (by omega) b (n + k1 + k2 + k3) f3 hb 58 _ (cln_rq0 k v3) (bodS k v3) inP_fits _ (fun r => cln_ty ReqT r) (rq11_c hB k v3 (takeC (b.drop _)) 0 (Nat.zero_le _) (tkC_le hb) (hB.tk _ (hB.dr _ _ hh)))
 rcases h4 : needP 4 (bodS k v3) (b.drop (n + k1 + k2 + k3)) with e | ⟨v4, k4⟩
 · have c4' := eff_er c4 h4
   obtain rfl := bind_xe hX h4
   refine effP [0, 1] (c4') ?_; trivial
 replace hX := bind_xo hX h4
 have c4' := eff_ok c4 h4
 have f4 := fits_at needP_fits f3 h4
 refine effE mixed [0, 1] (c4') ?_
 subst hX
 simp only [shiftP, retP]
 with_reducible refine sxE ?_
 exact congrArg (Value.int .i64) (by omega)
def reqP (k : Nat) : PR Req := inP (appB k) (inP 48 (rqIn k))
theorem readReq_c {B : List UInt8 → Prop} (hB : BodB B) (k : Nat) (hk : k ≤ 30) (b : List UInt8) (n : Nat) (hn : n ≤ b.length) (hb : b.length ≤ 1099511627776) (hh : B b) :
 Eff Tryz.prog 65 [.agg [.ptr 0 0], rI (k : Nat)] b n [] (fun r => .agg (ReqT.cells r)) (fun _ => []) (reqP k (b.drop n)) := by
 have h1 := rq1_c hB (k : Nat) (takeC (takeC (b.drop n))) 0 (Nat.zero_le _) (Nat.le_trans (takeC_len _) (tkC_le hb)) (hB.tk _ (hB.tk _ (hB.dr _ _ hh)))
 rw [List.drop_zero] at h1
 have hc : Cln [rI (k : Nat), .raw (.slice none 0 0), .raw (.int .u32 0), .raw (.slice none 0 0), rS ⟨#[]⟩, .raw (.slice none 0 0), rS ⟨#[]⟩, rI 0, rI 0, rI 0, rI 0, .raw (.slice none 0 0), .raw (.slice none 0 0), .raw (.slice none 0 0)] := cln_raw (cln_raw (cln_raw (cln_raw (cln_raw (cln_raw (cln_raw (cln_raw (cln_raw (cln_raw (cln_raw (cln_raw (cln_raw (cln_raw cln_nil)))))))))))))
 have hm := applicationk 128 k hk b n hn hb (k : Nat) 58 _ hc (rqIn k) (rqIn_fits k) (fun r => ReqT.cells r) (fun r => cln_ty ReqT r) h1
 change Eff _ _ _ _ _ _ _ _ (reqP k (b.drop n)) at hm
 cases hx : reqP k (b.drop n) with
 | error e =>
  have hm' := eff_er hm hx
  refine pe_seal (by simp) ?_
  refine vc_fi fi65 (run_sound mixed 4 _ ?_)
  with_reducible refine sxE ?_
  refine si_frzc 3 2 (ty := I64) (x := ((k : Nat) : Int)) rfl trivial rfl rfl ?_
  refine goE mixed ?_
  refine effP [0, 4] (hm') ?_; trivial
 | ok x =>
  obtain ⟨v, q⟩ := x
  have hm' := eff_ok hm hx
  refine pe_seal (by simp) ?_
  refine vc_fi fi65 (run_sound mixed 4 _ ?_)
  with_reducible refine sxE ?_
  refine si_frzc 3 2 (ty := I64) (x := ((k : Nat) : Int)) rfl trivial rfl rfl ?_
  refine goE mixed ?_
  refine effE mixed [0, 4] (hm') ?_; trivial
theorem readReq1_c {B : List UInt8 → Prop} (hB : BodB B) (k : Nat) (hk : k ≤ 30) (b : List UInt8) (n : Nat) (hn : n ≤ b.length) (hb : b.length ≤ 1099511627776) (hh : B b) :
 Eff Tryz.prog 64 [.agg [.ptr 0 0], .iptr I64 (k : Nat) 0] b n [] (fun r => .agg (ReqT.cells r)) (fun _ => []) (reqP k (b.drop n)) := by
 have hm := readReq_c hB k hk b n hn hb hh
 cases hx : reqP k (b.drop n) with
 | error e =>
  have hm' := eff_er hm hx
  refine pe_seal (by simp) ?_
  refine runE mixed fi64 ?_
  refine effP [0] (hm') ?_; trivial
 | ok x =>
  obtain ⟨v, q⟩ := x
  have hm' := eff_ok hm hx
  refine pe_seal (by simp) ?_
  refine runE mixed fi64 ?_
  refine effE mixed [0] (hm') ?_; trivial
theorem dpanR_c (o : SObj) (T : TypeId) (x : Value) (R : List SObj) (K : List SObj → Prop) (h : ∀ G, K (o :: .cells T [rI 6] :: (R ++ G))) : DCall Tryz.prog 133 [.ptr 1 0] (some wrongV) (o :: .cells T [.raw x] :: R) K := by
 refine recE mixed fi133 ?_
 exact h _
def badR (k : Nat) (b : List UInt8) : Prop := (∃ e, reqP k b = .error e) ∨ ∃ r m, reqP k b = .ok (r, m) ∧ m < b.length
theorem decodeR_bad {B : List UInt8 → Prop} (hB : BodB B) (k : Nat) (hk : k ≤ 30) (b : List UInt8) (hb : b.length ≤ 1099511627776) (hh : B b) (hbad : badR k b) : PC Tryz.prog 66 [.isl .u8 b, .fn 64 [] [.iptr I64 (k : Nat) 0], .fn 58 [] [], .fn 59 [] []] (.tup [.agg (ReqT.cells ReqT.dflt), rI 6]) := by
 have hnew := new_c b (by omega)
 have hread := readReq1_c hB k hk b 0 (Nat.zero_le _) hb hh
 rw [List.drop_zero] at hread
 refine pc_seal rfl rfl ?_
 refine defE mixed fi66 ?_
 refine goE mixed ?_
 refine effE mixed [] (hnew) ?_
 rcases hbad with ⟨e, hx⟩ | ⟨r, m, hx, hm⟩
 · have hr := eff_er hread hx
   refine effP [2] (hr) ?_
   refine ⟨by simp, dpanR_c _ _ _ _ _ fun G => ?_⟩
   with_reducible refine sxE ?_
   exact ⟨rfl, rfl, rfl, rfl, rfl, rfl, rfl, rfl, rfl, rfl, rfl, rfl, rfl, rfl⟩
 · have hr := eff_ok hread hx
   rw [Nat.zero_add] at hr
   refine effE mixed [2] (hr) ?_
   refine effP [2] (done_f b m hm) ?_
   refine ⟨by simp, dpanR_c _ _ _ _ _ fun G => ?_⟩
   with_reducible refine sxE ?_
   exact ⟨rfl, rfl, rfl, rfl, rfl, rfl, rfl, rfl, rfl, rfl, rfl, rfl, rfl, rfl⟩
theorem decReq_bad {B : List UInt8 → Prop} (hB : BodB B) (k : Nat) (hk : k ≤ 30) (b : List UInt8) (hb : b.length ≤ 1099511627776) (hh : B b) (hK : kindB b 0 = true) (hV : kindV b 0 = (k : Nat)) (hbad : badR k b) : PC Tryz.prog 24 [.isl .u8 b] (.tup [.agg (ReqT.cells ReqT.dflt), rI 6]) := by
 have hd := decodeR_bad hB k hk b hb hh hbad
 have hko := kindOf_c b 0 (by omega)
 rw [hK, hV] at hko
 refine pc_seal rfl rfl ?_
 refine runE mixed fi24 ?_
 refine callI_pure hko ?_
 refine run_sound mixed 6 _ ?_
 with_reducible refine sxE ?_
 refine si_frzc 4 1 (ty := I64) (x := ((k : Nat) : Int)) rfl trivial rfl rfl ?_
 refine goE mixed ?_
 refine callI_pure hd ?_
 refine goE mixed ?_; trivial
end Go.Proofs.YthmoognbccfpiaaGreatDoor

/- Contracts: messages: the first of the pre-authentication data; the law's own functions; closed facts. -/
namespace Go.Proofs.YthmoognbccfpiaaGreatDoor
open Go Go.Sx Go.Proofs
set_option maxRecDepth 100000
set_option maxHeartbeats 4000000
set_option linter.unusedSimpArgs false

theorem mcbytes_o (l : List UInt8) (hl : l.length ≤ 140737488355328) : VC Tryz.prog 63 [.isl .u8 l] [] (RowK .u8 l) := by
 refine vc_weak ?_
 refine runE mixed fi63 ?_
 refine ⟨⟨by omega, by omega⟩, ?_⟩
 exact rowK_row (h := 0) rfl (by omega)
def kdAt (l : List Pre) (k : Int) (j : Nat) : Bool := decide ((l.getD j PreT.dflt).1 = k)
def preV (l : List Pre) (k : Int) : List UInt8 := match firstN l.length (kdAt l k) with
 | some j => (l.getD j PreT.dflt).2
 | none => []
def preB (l : List Pre) (k : Int) : Bool := (firstN l.length (kdAt l k)).isSome
theorem preauth_c (l : List Pre) (k : Int) (hl : l.length ≤ 1125899906842624) (hb : ∀ j, j < l.length → (l.getD j PreT.dflt).2.length ≤ 140737488355328) : PC Tryz.prog 23 [.isl PreT l, rI k] (.tup [.isl .u8 (preV l k), rB (preB l k)]) := by
 refine pc_seal rfl rfl ?_
 refine runE mixed fi23 ?_
 refine si_cntD (fun i => [(10, .raw (.int .i64 ((i : Nat) : Int)))]) (l.length) (fun j => (fun j => !kdAt l k j) j = true) (by first | decide | simp) (fun i => rfl) ?_ fun i hi hall => ?_
 · (with_reducible refine sxE ?_ <;> try exact True.intro)
   all_goals (try rfl)
 have hwr : IntKind.i64.wrap ((i : Int) + 1) = ((i + 1 : Nat) : Int) := wrap_succ (by omega)
 refine goE mixed ?_
 have bad : i < (l.length) → (fun j => !kdAt l k j) i = false → allN (l.length) (fun j => !kdAt l k j) = false := fun hlt hv => allN_false hlt hv
 have fin : ¬ i < (l.length) → allN (l.length) (fun j => !kdAt l k j) = true := fun h => allN_true fun j hj => hall j (by omega)
 try dsimp only at bad fin hall
 refine ⟨fun hlt => ⟨⟨by omega, hlt⟩, fun h1 => ?_, fun h1 => ?_⟩, fun hge => ?_⟩
 · have hf : firstN l.length (kdAt l k) = some i := firstN_some hlt (decide_eq_true h1) (fun j hj => by simpa using hall j hj)
   have hv : preV l k = (l.getD i PreT.dflt).2 := by unfold preV; rw [hf]
   have hB : preB l k = true := by unfold preB; rw [hf]; rfl
   have hbl := hb i hlt
   rw [hv, hB]
   refine callI_rowK (mcbytes_o _ hbl) rfl rfl (fun h0 => ?_) ?_
   · refine goE mixed ?_
     rw [h0]
   · refine goE mixed ?_
     exact ⟨⟨Nat.le_refl _, by omega⟩, List.take_of_length_le (Nat.le_refl _)⟩
 · refine ⟨hlt, next_all (fun j hj => by simpa using hall j hj) (by simpa [kdAt] using h1), ⟨[_], rfl⟩, ?_⟩
   with_reducible refine sx1 hwr ?_; trivial
 · have hf : firstN l.length (kdAt l k) = none := firstN_none (fun j hj => by simpa using hall j (by omega))
   have hv : preV l k = [] := by unfold preV; rw [hf]
   have hB : preB l k = false := by unfold preB; rw [hf]; rfl
   rw [hv, hB]
   exact ⟨rfl, rfl⟩
theorem lnum_c (n : Int) : PC Tryz.prog 14 [rI n] (rI n) := by
 refine pc_of rfl rfl ?_
 refine runE mixed fi14 ?_; trivial
def tgsP : Prin := ([⟨#[107, 114, 98, 116, 103, 116]⟩, ⟨#[82]⟩], ⟨#[82]⟩)
theorem lrealm_c : PC Tryz.prog 18 [] (.agg (PrinT.cells tgsP)) := by
 refine pc_seal rfl rfl ?_
 refine runE mixed fi18 ?_
 exact ⟨⟨by decide, by decide⟩, rfl, rfl⟩
theorem vlist0_c : PC Tryz.prog 123 [.isl PreT []] (rB true) := by
 refine pc_of rfl rfl ?_
 refine runE mixed fi123 ?_
 refine si_cntD (fun i => [(10, .raw (.int .i64 ((i : Nat) : Int)))]) (0) (fun j => (fun _ => true) j = true) (by first | decide | simp) (fun i => rfl) ?_ fun i hi hall => ?_
 · (with_reducible refine sxE ?_ <;> try exact True.intro)
   all_goals (try rfl)
 have hwr : IntKind.i64.wrap ((i : Int) + 1) = ((i + 1 : Nat) : Int) := wrap_succ (by omega)
 refine goE mixed ?_
 have bad : i < (0) → (fun _ => true) i = false → allN (0) (fun _ => true) = false := fun hlt hv => allN_false hlt hv
 have fin : ¬ i < (0) → allN (0) (fun _ => true) = true := fun h => allN_true fun j hj => hall j (by omega)
 try dsimp only at bad fin hall
 exact ⟨fun h => absurd h (by omega), fun _ => trivial⟩
theorem vtick0_c : PC Tryz.prog 124 [.isl TickT []] (rB true) := by
 refine pc_of rfl rfl ?_
 refine runE mixed fi124 ?_
 refine si_cntD (fun i => [(10, .raw (.int .i64 ((i : Nat) : Int)))]) (0) (fun j => (fun _ => true) j = true) (by first | decide | simp) (fun i => rfl) ?_ fun i hi hall => ?_
 · (with_reducible refine sxE ?_ <;> try exact True.intro)
   all_goals (try rfl)
 have hwr : IntKind.i64.wrap ((i : Int) + 1) = ((i + 1 : Nat) : Int) := wrap_succ (by omega)
 refine goE mixed ?_
 have bad : i < (0) → (fun _ => true) i = false → allN (0) (fun _ => true) = false := fun hlt hv => allN_false hlt hv
 have fin : ¬ i < (0) → allN (0) (fun _ => true) = true := fun h => allN_true fun j hj => hall j (by omega)
 try dsimp only at bad fin hall
 exact ⟨fun h => absurd h (by omega), fun _ => trivial⟩
def cliA : Prin := ([⟨#[97]⟩], ⟨#[82]⟩)
def rq1 : Req := (10, [], 0, cliA, tgsP, 0, 100, 0, 7, [1, 2], [], [])
def rq2 : Req := (10, [], 0, cliA, tgsP, 0, 100, 0, 7, [1, 1], [], [])
def rq3 : Req := (12, [], 0, cliA, tgsP, 0, 100, 0, 7, [1, 2], [], [])
def fl1 : Fail := (25, 10, 0, ([], ⟨#[]⟩), tgsP, ⟨#[]⟩, [])
theorem okstr (s : ByteArray) (h : s.size ≤ 140737488355328) : Ty.str.ok s := h
theorem okcli : PrinT.ok cliA := by
 refine ⟨⟨by decide, fun x hx => ?_⟩, okstr _ (by decide)⟩
 simp [cliA] at hx; subst hx; exact okstr _ (by decide)
theorem oktgs : PrinT.ok tgsP := by
 refine ⟨⟨by decide, fun x hx => ?_⟩, okstr _ (by decide)⟩
 simp [tgsP] at hx; rcases hx with rfl | rfl <;> exact okstr _ (by decide)
theorem rqC (k : Int) (pf : List Int) (hp : pf.length ≤ 10) : ReqC (k, [], 0, cliA, tgsP, 0, 100, 0, 7, pf, [], []) true true [] [] where
 ok := ⟨trivial, ⟨Nat.zero_le _, fun x hx => by cases hx⟩, trivial, okcli, oktgs, trivial, trivial, trivial, trivial, ⟨by show pf.length ≤ _; omega, fun _ _ => trivial⟩, ⟨Nat.zero_le _, fun x hx => by cases hx⟩, ⟨Nat.zero_le _, fun x hx => by cases hx⟩⟩
 opt := ⟨Int.le_refl _, by show (0 : Int) ≤ 4294967295; decide⟩
 va := vlist0_c
 vt := vtick0_c
 wa := fun h => absurd rfl h
 wt := fun h => absurd rfl h
theorem okfl : FailT.ok fl1 := ⟨trivial, trivial, trivial, ⟨⟨by decide, fun x hx => by cases hx⟩, okstr _ (by decide)⟩, oktgs, okstr _ (by decide), ⟨by decide, fun x hx => by cases hx⟩⟩
theorem vrq1 : vReq rq1 true true [] [] = true := by decide +kernel
theorem vrq2 : vReq rq2 true true [] [] = false := by decide +kernel
theorem vrq3 : vReq rq3 true true [] [] = false := by decide +kernel
theorem lbod : (bodyS rq1 [] []).length = 76 := by decide +kernel
def rqB : List UInt8 := reqS rq1 [] []
theorem lrqB : rqB.length = 92 := by decide +kernel
theorem hrqB : (rqB.getD 0 Ty.u8.dflt) = 106 := by decide +kernel
theorem vfl1 : vFail fl1 = true := by decide +kernel
theorem lfl1 : (failS fl1).length = 58 := by decide +kernel
theorem hfl1 : (failS fl1).getD 0 Ty.u8.dflt = 126 := by decide +kernel
theorem rd1 : reqP 10 (rqB ++ [0]) = .ok (rq1, 92) := by kernel_rfl
theorem bad1 : badR 10 (rqB ++ [0]) := .inr ⟨rq1, 92, rd1, by rw [List.length_append, lrqB]; decide⟩
def noAT (b : List UInt8) : Prop := ∀ x ∈ b, x ≠ tagB 8 ∧ x ≠ tagB 9
theorem noAT_next {b : List UInt8} {i q : Nat} (h : ∀ x ∈ b, x ≠ tagB i) : nextB i (b.drop q) = false := by
 cases hn : nextB i (b.drop q) with
 | false => rfl
 | true =>
  simp only [nextB, Bool.and_eq_true, decide_eq_true_eq, ne_eq] at hn
  obtain ⟨h1, h2⟩ := hn
  exact absurd h2 (h _ (List.mem_of_mem_drop (getD_mem (by omega))))
theorem noATB : BodB noAT where
 tk := fun r h x hx => h x (List.mem_of_mem_take (List.mem_of_mem_drop hx))
 dr := fun r n h x hx => h x (List.mem_of_mem_drop hx)
 h := fun k pre c h => ⟨fun q _ hn => (by rw [noAT_next (fun x hx => (h x hx).1)] at hn; cases hn), fun _ _ _ _ _ _ _ _ _ q _ hn => (by rw [noAT_next (fun x hx => (h x hx).2)] at hn; cases hn), fun _ _ _ _ _ _ _ _ q _ hn => (by rw [noAT_next (fun x hx => (h x hx).2)] at hn; cases hn)⟩
theorem rqAT : noAT (rqB ++ [0]) := by
 have h : (rqB ++ [0]).all (fun x => decide (x ≠ tagB 8) && decide (x ≠ tagB 9)) = true := by decide +kernel
 intro x hx
 have := List.all_eq_true.1 h x hx
 simpa using this
theorem krq : kindB (rqB ++ [0]) 0 = true ∧ kindV (rqB ++ [0]) 0 = ((10 : Nat) : Int) := ⟨by decide +kernel, by decide +kernel⟩
theorem dec1_c : PC Tryz.prog 24 [.isl .u8 (rqB ++ [0])] (.tup [.agg (ReqT.cells ReqT.dflt), rI 6]) :=
 decReq_bad noATB 10 (by decide) (rqB ++ [0]) (by rw [List.length_append, lrqB]; decide) rqAT krq.1 krq.2 bad1
end Go.Proofs.YthmoognbccfpiaaGreatDoor

/- Contracts: messages: known. -/
namespace Go.Proofs.YthmoognbccfpiaaGreatDoor
open Go Go.Sx Go.Proofs
set_option maxRecDepth 100000
set_option maxHeartbeats 4000000
set_option linter.unusedSimpArgs false

theorem mknown_c : PC Tryz.prog 5 [] (rB true) := by
 have hc1 := rqC 10 [1, 2] (by decide)
 have hc2 := rqC 10 [1, 1] (by decide)
 have hc3 := rqC 12 [1, 2] (by decide)
 have cb := body_c hc1
 have ce := encReq_o hc1 vrq1 (fun h => by have := lrqB; unfold rqB at this; change reqS rq1 [] [] = [] at h; rw [h] at this; cases this)
 have cf := encFail_c fl1 okfl
 have v2 := validReq_c hc2
 have v3 := validReq_c hc3
 have cd := dec1_c
 change PC _ _ [.agg (ReqT.cells rq1)] (.tup [.isl .u8 (if vReq rq1 true true [] [] then bodyS rq1 [] [] else []), rI (if vReq rq1 true true [] [] then 0 else 2)]) at cb
 change VC _ _ [.agg (ReqT.cells rq1)] [] (RowT .u8 rqB _) at ce
 change PC _ _ [.agg (ReqT.cells rq2)] (rB (vReq rq2 true true [] [])) at v2
 change PC _ _ [.agg (ReqT.cells rq3)] (rB (vReq rq3 true true [] [])) at v3
 rw [vrq1, if_pos rfl, if_pos rfl] at cb
 rw [vfl1, if_pos rfl, if_pos rfl] at cf
 rw [vrq2] at v2
 rw [vrq3] at v3
 have l1 := lbod
 have l2 := lrqB
 have l3 := lfl1
 have g2 := hrqB
 have g3 := hfl1
 have ct := type_c (failS fl1)
 have ht : typB (failS fl1) = true ∧ typN (failS fl1) = 30 := by unfold typB typN; rw [show (failS fl1).getD 0 0 = 126 from g3]; refine ⟨?_, by decide⟩; rw [decide_eq_true (fun e => by rw [e] at l3; cases l3)]; decide
 rw [ht.1, if_pos rfl, if_pos rfl, ht.2] at ct
 clear ht hc1 hc2 hc3
 generalize bodyS rq1 [] [] = bd at *
 generalize rqB = rb at *
 generalize failS fl1 = fb at *
 refine pc_of rfl rfl ?_
 refine runE mixed fi5 ?_
 refine ⟨by decide, callI_pure lrealm_c ?_⟩
 refine run_sound mixed 5 _ ?_
 with_reducible refine sxE ?_
 refine si_freeze 0 rfl rfl (by simp) ?_ ?_ ?_
 · with_reducible refine sxE ?_; trivial
 · with_reducible refine sxE ?_; trivial
 with_reducible refine sxE ?_
 refine si_freeze 1 rfl rfl (by simp) ?_ ?_ ?_
 · with_reducible refine sxE ?_; trivial
 · with_reducible refine sxE ?_; trivial
 with_reducible refine sxE ?_
 refine goE mixed ?_
 refine callI_pure lrealm_c ?_
 refine goE mixed ?_
 refine callI_pure (cb.arg ?_) ?_
 · simp (maxSteps := 3000000) only [rq1, cliA, tgsP, go_sem, ↓zA, ↓reduceIte, ↓reduceDIte, reduceCtorEq, Nat.reduceAdd, Nat.reduceSub, Nat.reduceLeDiff, Nat.reduceLT, Nat.reduceEqDiff, Nat.reduceBEq, Nat.reduceMul, Int.reduceToNat, Int.reduceEq, Int.reduceLT, Int.reduceLE] <;> try simp only [zB]
 refine goE mixed ?_
 refine callI_rowT (VC.arg ce ?_) rfl rfl (fun h0 => by rw [h0] at l2; cases l2) ?_
 · simp (maxSteps := 3000000) only [rq1, cliA, tgsP, go_sem, ↓zA, ↓reduceIte, ↓reduceDIte, reduceCtorEq, Nat.reduceAdd, Nat.reduceSub, Nat.reduceLeDiff, Nat.reduceLT, Nat.reduceEqDiff, Nat.reduceBEq, Nat.reduceMul, Int.reduceToNat, Int.reduceEq, Int.reduceLT, Int.reduceLE] <;> try simp only [zB]
 refine goE mixed ?_
 refine callI_pure (cf.arg ?_) ?_
 · simp (maxSteps := 3000000) only [fl1, tgsP, go_sem, ↓zA, ↓reduceIte, ↓reduceDIte, reduceCtorEq, Nat.reduceAdd, Nat.reduceSub, Nat.reduceLeDiff, Nat.reduceLT, Nat.reduceEqDiff, Nat.reduceBEq, Nat.reduceMul, Int.reduceToNat, Int.reduceEq, Int.reduceLT, Int.reduceLE] <;> try simp only [zB]
 refine goE mixed ?_
 refine callI_pure (lnum_c _) ?_
 refine goE mixed ?_
 refine callI_pure (lnum_c _) ?_
 refine goE mixed ?_
 refine callI_pure (lnum_c _) ?_
 have hw00 : IntKind.i64.wrap (0 + 0) = 0 := by decide
 refine run_sound mixed 600 _ ?_
 simp (maxSteps := 3000000) only [hw00, g2, g3, go_sem, ↓zA, ↓reduceIte, ↓reduceDIte, reduceCtorEq, Nat.reduceAdd, Nat.reduceSub, Nat.reduceLeDiff, Nat.reduceLT, Nat.reduceEqDiff, Nat.reduceBEq, Nat.reduceMul, Int.reduceToNat, Int.reduceEq, Int.reduceLT, Int.reduceLE] <;> try simp only [zB]
 refine ⟨fun _ => ⟨fun _ => ⟨by omega, by omega, fun _ => ⟨fun _ => ⟨by omega, fun h => absurd rfl h, fun _ => ?_⟩, fun h => absurd (by omega) h⟩, fun h => absurd rfl h⟩, fun h => absurd (by omega) h⟩, fun h => absurd (by omega) h⟩
 refine callI_inl fi22 ?_
 refine run_sound mixed 600 _ ?_
 simp (maxSteps := 3000000) only [opK, g2, go_sem, ↓zA, ↓reduceIte, ↓reduceDIte, reduceCtorEq, Nat.reduceAdd, Nat.reduceSub, Nat.reduceLeDiff, Nat.reduceLT, Nat.reduceEqDiff, Nat.reduceBEq, Nat.reduceMul, Int.reduceToNat, Int.reduceEq, Int.reduceLT, Int.reduceLE] <;> try simp only [zB]
 refine ⟨fun h => absurd h (by omega), fun _ => ⟨by omega, by omega, callI_pure (mbtw_c _ _ _) ?_⟩⟩
 refine run_sound mixed 600 _ ?_
 simp (maxSteps := 3000000) only [opK, go_sem, ↓zA, ↓reduceIte, ↓reduceDIte, reduceCtorEq, Nat.reduceAdd, Nat.reduceSub, Nat.reduceLeDiff, Nat.reduceLT, Nat.reduceEqDiff, Nat.reduceBEq, Nat.reduceMul, Int.reduceToNat, Int.reduceEq, Int.reduceLT, Int.reduceLE] <;> try simp only [zB]
 have hty : IntKind.i64.wrap (IntKind.i64.wrap ((UInt8.toNat 106 : Nat) : Int) - 96) = 10 := by decide
 refine ⟨fun h => absurd h (by decide), fun _ => ?_⟩
 rw [hty]
 refine goE mixed ?_
 refine callI_pure ct ?_
 refine goE mixed ?_
 have ct0 : PC Tryz.prog 22 [.isl .u8 [UInt8.ofNat 48, UInt8.ofNat 0]] (.tup [rI 0, rI 6]) := type_c [48, 0]
 refine ⟨⟨by decide, by decide⟩, callI_hand 5 ?_⟩
 with_reducible refine sxE ?_
 refine callI_pure ct0 ?_
 refine run_sound mixed 10 _ ?_
 with_reducible refine sxE ?_
 refine ⟨by decide, ?_⟩
 refine si_freeze 6 rfl rfl (by simp) ?_ ?_ ?_
 · with_reducible refine sxE ?_; trivial
 · with_reducible refine sxE ?_; trivial
 with_reducible refine sxE ?_
 refine goE mixed ?_
 have cp := preauth_c [(2, []), (2, [UInt8.ofNat 1])] 2 (by simp) (fun j hj => by
  match j, hj with
  | 0, _ => decide
  | 1, _ => decide)
 have cp1 : preV [(2, []), (2, [UInt8.ofNat 1])] 2 = [] := by decide
 have cp2 : preB [(2, []), (2, [UInt8.ofNat 1])] 2 = true := by decide
 rw [cp1, cp2] at cp
 refine callI_hand 7 ?_
 with_reducible refine sxE ?_
 refine callI_pure (cp.arg ?_) ?_
 · with_reducible refine sxE ?_; trivial
 refine goE mixed ?_
 have l4 : (rb ++ [UInt8.ofNat 0]).length = rb.length + 1 := List.length_append
 refine ⟨by decide, ⟨by omega, by omega⟩, callI_hand 9 ?_⟩
 with_reducible refine sxE ?_
 rw [List.take_of_length_le (by omega)]
 refine ⟨by omega, by omega, callI_pure cd ?_⟩
 refine goE mixed ?_
 refine callI_pure (lnum_c _) ?_
 refine goE mixed ?_
 refine callI_pure (lnum_c _) ?_
 refine run_sound mixed 600 _ ?_
 with_reducible refine sx1 hw00 ?_
 refine callI_pure (lnum_c _) ?_
 refine goE mixed ?_
 refine callI_pure (lnum_c _) ?_
 refine run_sound mixed 14 _ ?_
 with_reducible refine sxE ?_
 refine si_freeze 12 rfl rfl (by simp) ?_ ?_ ?_
 · with_reducible refine sxE ?_; trivial
 · with_reducible refine sxE ?_; trivial
 with_reducible refine sxE ?_
 refine goE mixed ?_
 refine callI_pure (v2.arg ?_) ?_
 · simp (maxSteps := 3000000) only [rq2, cliA, tgsP, go_sem, ↓zA, ↓reduceIte, ↓reduceDIte, reduceCtorEq, Nat.reduceAdd, Nat.reduceSub, Nat.reduceLeDiff, Nat.reduceLT, Nat.reduceEqDiff, Nat.reduceBEq, Nat.reduceMul, Int.reduceToNat, Int.reduceEq, Int.reduceLT, Int.reduceLE] <;> try simp only [zB]
 refine goE mixed ?_
 refine callI_pure (v3.arg ?_) ?_
 · simp (maxSteps := 3000000) only [rq3, cliA, tgsP, go_sem, ↓zA, ↓reduceIte, ↓reduceDIte, reduceCtorEq, Nat.reduceAdd, Nat.reduceSub, Nat.reduceLeDiff, Nat.reduceLT, Nat.reduceEqDiff, Nat.reduceBEq, Nat.reduceMul, Int.reduceToNat, Int.reduceEq, Int.reduceLT, Int.reduceLE] <;> try simp only [zB]
 refine goE mixed ?_; trivial
end Go.Proofs.YthmoognbccfpiaaGreatDoor

/- MessageTypes: the law answers true. -/
namespace Go.Proofs.YthmoognbccfpiaaGreatDoor
open Go Go.Sx Go.Proofs
set_option maxRecDepth 100000
set_option maxHeartbeats 4000000
set_option linter.unusedSimpArgs false

def s300 (l : List Pre) (j : Nat) : Bool := decide (((l.getD j PreT.dflt).2.length : Int) ≤ 300)
def fewB (l : List Pre) : Bool := allN l.length (s300 l) && decide ((l.length : Int) ≤ 20)
theorem few_c (l : List Pre) (hl : l.length ≤ 1125899906842624) : PC Tryz.prog 15 [.isl PreT l] (rB (fewB l)) := by
 refine pc_of rfl rfl ?_
 refine runE mixed fi15 ?_
 refine si_cntD (fun i => [(3, .raw (.int .i64 ((i : Nat) : Int)))]) (l.length) (fun j => (s300 l) j = true) (by first | decide | simp) (fun i => rfl) ?_ fun i hi hall => ?_
 · (with_reducible refine sxE ?_ <;> try exact True.intro)
   all_goals (try rfl)
 have hwr : IntKind.i64.wrap ((i : Int) + 1) = ((i + 1 : Nat) : Int) := wrap_succ (by omega)
 refine goE mixed ?_
 have bad : i < (l.length) → (s300 l) i = false → allN (l.length) (s300 l) = false := fun hlt hv => allN_false hlt hv
 have fin : ¬ i < (l.length) → allN (l.length) (s300 l) = true := fun h => allN_true fun j hj => hall j (by omega)
 try dsimp only at bad fin hall
 refine ⟨fun hlt => ⟨⟨by omega, hlt⟩, fun h => ?_, fun h => ?_⟩, fun hge => ?_⟩
 · unfold fewB; rw [bad hlt (decide_eq_false (by omega))]; rfl
 · refine ⟨hlt, next_all hall (decide_eq_true (by omega)), ⟨[], rfl⟩, ?_⟩
   with_reducible refine sx1 hwr ?_; trivial
 · unfold fewB; rw [fin hge]; rfl
end Go.Proofs.YthmoognbccfpiaaGreatDoor

/- MessageFailures: the law answers true. -/
namespace Go.Proofs.YthmoognbccfpiaaGreatDoor
open Go Go.Sx Go.Proofs
set_option maxRecDepth 100000
set_option maxHeartbeats 4000000
set_option linter.unusedSimpArgs false

def s40 (l : List ByteArray) (j : Nat) : Bool := decide (((l.getD j (Ty.dflt .str)).size : Int) ≤ 40)
def shortB (p : Prin) : Bool := (decide ((p.1.length : Int) ≤ 6) && decide ((p.2.size : Int) ≤ 40)) && allN p.1.length (s40 p.1)
theorem lshort_c (p : Prin) (hp : PrinT.ok p) : PC Tryz.prog 16 [.agg (PrinT.cells p)] (rB (shortB p)) := by
 obtain ⟨l, r⟩ := p
 have hl : l.length ≤ 1125899906842624 := hp.1.1
 have hd : shortB (l, r) = ((decide ((l.length : Int) ≤ 6) && decide ((r.size : Int) ≤ 40)) && allN l.length (s40 l)) := rfl
 refine pc_of rfl rfl ?_
 refine runE mixed fi16 ?_
 refine si_cntD (fun i => [(3, .raw (.int .i64 ((i : Nat) : Int)))]) (l.length) (fun j => (s40 l) j = true) (by first | decide | simp) (fun i => rfl) ?_ fun i hi hall => ?_
 · (with_reducible refine sxE ?_ <;> try exact True.intro)
   all_goals (try rfl)
 have hwr : IntKind.i64.wrap ((i : Int) + 1) = ((i + 1 : Nat) : Int) := wrap_succ (by omega)
 refine goE mixed ?_
 have bad : i < (l.length) → (s40 l) i = false → allN (l.length) (s40 l) = false := fun hlt hv => allN_false hlt hv
 have fin : ¬ i < (l.length) → allN (l.length) (s40 l) = true := fun h => allN_true fun j hj => hall j (by omega)
 try dsimp only at bad fin hall
 refine ⟨fun hlt => ⟨⟨by omega, hlt⟩, fun h => ?_, fun h => ?_⟩, fun hge => ?_⟩
 · rw [hd, bad hlt (decide_eq_false (fun q => absurd h (Int.not_lt.2 q))), Bool.and_false]
 · refine ⟨hlt, next_all hall (decide_eq_true (Int.not_lt.1 h)), ⟨[], rfl⟩, ?_⟩
   with_reducible refine sx1 hwr ?_; trivial
 · rw [hd, fin hge, Bool.and_true]
   exact ⟨fun h => by rw [decide_eq_true h, Bool.true_and], fun h => by rw [decide_eq_false h, Bool.false_and]⟩
theorem short_sh {p : Prin} (h : shortB p = true) : shP p := by
 simp only [shortB, Bool.and_eq_true, decide_eq_true_eq] at h
 refine ⟨by omega, fun x hx => ?_, by omega⟩
 obtain ⟨j, hj, rfl⟩ := List.getElem_of_mem hx
 have := allN_iff.1 h.2 j hj
 simp only [s40, decide_eq_true_eq, List.getD_eq_getElem?_getD, List.getElem?_eq_getElem hj, Option.getD_some] at this
 omega
theorem few_sh {l : List Pre} (h : fewB l = true) (hr : (Ty.slice PreT).inR l) : shD l := by
 simp only [fewB, Bool.and_eq_true, decide_eq_true_eq] at h
 refine ⟨by omega, fun x hx => ⟨(hr x hx).1, ?_⟩⟩
 obtain ⟨j, hj, rfl⟩ := List.getElem_of_mem hx
 have := allN_iff.1 h.1 j hj
 simp only [s300, decide_eq_true_eq, List.getD_eq_getElem?_getD, List.getElem?_eq_getElem hj, Option.getD_some] at this
 omega
theorem lsame_c (b w : List UInt8) (e : Int) (v : Bool) : PC Tryz.prog 11 [.isl .u8 b, rI e, rB v, .isl .u8 w] (rB (if v then decide (b = w) && decide (e = 0) else decide (b.length = 0) && decide (e = 2))) := by
 refine pc_of rfl rfl ?_
 refine runE mixed fi11 ?_ <;> try with_reducible exact True.intro
 repeat' (first
  | (refine callI_pure (lnum_c _) ?_; refine run_sound mixed 600 _ ?_; simp (maxSteps := 3000000) only [go_sem, ↓zA, ↓reduceIte, ↓reduceDIte, reduceCtorEq, Nat.reduceAdd, Nat.reduceSub, Nat.reduceLeDiff, Nat.reduceLT, Nat.reduceEqDiff, Nat.reduceBEq, Nat.reduceMul, Int.reduceToNat, Int.reduceEq, Int.reduceLT, Int.reduceLE] <;> try simp only [zB])
  | (refine callR_pure (lnum_c _) ?_; refine run_sound mixed 600 _ ?_; simp (maxSteps := 3000000) only [go_sem, ↓zA, ↓reduceIte, ↓reduceDIte, reduceCtorEq, Nat.reduceAdd, Nat.reduceSub, Nat.reduceLeDiff, Nat.reduceLT, Nat.reduceEqDiff, Nat.reduceBEq, Nat.reduceMul, Int.reduceToNat, Int.reduceEq, Int.reduceLT, Int.reduceLE] <;> try simp only [zB])
  | (refine callF_pure (lnum_c _) ?_; refine run_sound mixed 600 _ ?_; simp (maxSteps := 3000000) only [go_sem, ↓zA, ↓reduceIte, ↓reduceDIte, reduceCtorEq, Nat.reduceAdd, Nat.reduceSub, Nat.reduceLeDiff, Nat.reduceLT, Nat.reduceEqDiff, Nat.reduceBEq, Nat.reduceMul, Int.reduceToNat, Int.reduceEq, Int.reduceLT, Int.reduceLE] <;> try simp only [zB])
  | (with_reducible refine And.intro ?_ ?_)
  | (with_reducible intro _))
 all_goals (simp_all [strOf_inj])
theorem rsamePre_c (l : List Pre) (hl : l.length ≤ 1125899906842624) : PC Tryz.prog 53 [.isl PreT l, .isl PreT l] (rB true) := by
 refine pc_of rfl rfl ?_
 refine runE mixed fi53 ?_
 refine si_cntD (fun i => [(5, .raw (.int .i64 ((i : Nat) : Int)))]) (l.length) (fun j => (fun _ => true) j = true) (by first | decide | simp) (fun i => rfl) ?_ fun i hi hall => ?_
 · (with_reducible refine sxE ?_ <;> try exact True.intro)
   all_goals (try rfl)
 have hwr : IntKind.i64.wrap ((i : Int) + 1) = ((i + 1 : Nat) : Int) := wrap_succ (by omega)
 refine goE mixed ?_
 have bad : i < (l.length) → (fun _ => true) i = false → allN (l.length) (fun _ => true) = false := fun hlt hv => allN_false hlt hv
 have fin : ¬ i < (l.length) → allN (l.length) (fun _ => true) = true := fun h => allN_true fun j hj => hall j (by omega)
 try dsimp only at bad fin hall
 refine ⟨fun hlt => ⟨⟨by omega, hlt⟩, ⟨by omega, hlt⟩, ⟨by omega, hlt⟩, ⟨by omega, hlt⟩, ?_⟩, fun _ => trivial⟩
 refine ⟨hlt, trivial, ⟨[], rfl⟩, ?_⟩
 with_reducible refine sx1 hwr ?_; trivial
end Go.Proofs.YthmoognbccfpiaaGreatDoor

/- MessageReplies: the law answers true. -/
namespace Go.Proofs.YthmoognbccfpiaaGreatDoor
open Go Go.Sx Go.Proofs
set_option maxRecDepth 100000
set_option maxHeartbeats 4000000
set_option linter.unusedSimpArgs false

def tick3 (t : Tick) : Bool := shortB t.1 && decide ((t.2.2.2.length : Int) ≤ 300)
theorem ltick_c (t : Tick) (ho : TickT.ok t) : PC Tryz.prog 17 [.agg (TickT.cells t)] (rB (tick3 t)) := by
 obtain ⟨p, a, v, c⟩ := t
 have hd : tick3 (p, a, v, c) = (shortB p && decide ((c.length : Int) ≤ 300)) := rfl
 rw [hd]
 refine pc_of rfl rfl ?_
 refine runE mixed fi17 ?_ <;> try with_reducible exact True.intro
 repeat' (first
  | (refine callI_pure (lshort_c p ho.1) ?_; refine run_sound mixed 600 _ ?_; simp (maxSteps := 3000000) only [go_sem, ↓zA, ↓reduceIte, ↓reduceDIte, reduceCtorEq, Nat.reduceAdd, Nat.reduceSub, Nat.reduceLeDiff, Nat.reduceLT, Nat.reduceEqDiff, Nat.reduceBEq, Nat.reduceMul, Int.reduceToNat, Int.reduceEq, Int.reduceLT, Int.reduceLE] <;> try simp only [zB])
  | (refine callR_pure (lshort_c p ho.1) ?_; refine run_sound mixed 600 _ ?_; simp (maxSteps := 3000000) only [go_sem, ↓zA, ↓reduceIte, ↓reduceDIte, reduceCtorEq, Nat.reduceAdd, Nat.reduceSub, Nat.reduceLeDiff, Nat.reduceLT, Nat.reduceEqDiff, Nat.reduceBEq, Nat.reduceMul, Int.reduceToNat, Int.reduceEq, Int.reduceLT, Int.reduceLE] <;> try simp only [zB])
  | (refine callF_pure (lshort_c p ho.1) ?_; refine run_sound mixed 600 _ ?_; simp (maxSteps := 3000000) only [go_sem, ↓zA, ↓reduceIte, ↓reduceDIte, reduceCtorEq, Nat.reduceAdd, Nat.reduceSub, Nat.reduceLeDiff, Nat.reduceLT, Nat.reduceEqDiff, Nat.reduceBEq, Nat.reduceMul, Int.reduceToNat, Int.reduceEq, Int.reduceLT, Int.reduceLE] <;> try simp only [zB])
  | (with_reducible refine And.intro ?_ ?_)
  | (with_reducible intro _))
 all_goals ((simp_all <;> (intros; omega)))
def rplB (r : Rpl) : Bool := fewB r.2.1 && (shortB r.2.2.1 && (tick3 r.2.2.2.1 && decide ((r.2.2.2.2.2.2.length : Int) ≤ 300)))
theorem lrpl_c (r : Rpl) (ho : RplT.ok r) : PC Tryz.prog 4 [.agg (RplT.cells r)] (rB (rplB r)) := by
 obtain ⟨k, l, p, t, a, v, c⟩ := r
 obtain ⟨_, o2, o3, o4, o5⟩ := ho
 have hd : rplB (k, l, p, t, a, v, c) = (fewB l && (shortB p && (tick3 t && decide ((c.length : Int) ≤ 300)))) := rfl
 rw [hd]
 have ht := ltick_c t o4
 refine pc_of rfl rfl ?_
 refine runE mixed fi4 ?_ <;> try with_reducible exact True.intro
 repeat' (first
  | (refine callI_pure (few_c l o2.1) ?_; refine run_sound mixed 600 _ ?_; simp (maxSteps := 3000000) only [go_sem, ↓zA, ↓reduceIte, ↓reduceDIte, reduceCtorEq, Nat.reduceAdd, Nat.reduceSub, Nat.reduceLeDiff, Nat.reduceLT, Nat.reduceEqDiff, Nat.reduceBEq, Nat.reduceMul, Int.reduceToNat, Int.reduceEq, Int.reduceLT, Int.reduceLE] <;> try simp only [zB])
  | (refine callR_pure (few_c l o2.1) ?_; refine run_sound mixed 600 _ ?_; simp (maxSteps := 3000000) only [go_sem, ↓zA, ↓reduceIte, ↓reduceDIte, reduceCtorEq, Nat.reduceAdd, Nat.reduceSub, Nat.reduceLeDiff, Nat.reduceLT, Nat.reduceEqDiff, Nat.reduceBEq, Nat.reduceMul, Int.reduceToNat, Int.reduceEq, Int.reduceLT, Int.reduceLE] <;> try simp only [zB])
  | (refine callF_pure (few_c l o2.1) ?_; refine run_sound mixed 600 _ ?_; simp (maxSteps := 3000000) only [go_sem, ↓zA, ↓reduceIte, ↓reduceDIte, reduceCtorEq, Nat.reduceAdd, Nat.reduceSub, Nat.reduceLeDiff, Nat.reduceLT, Nat.reduceEqDiff, Nat.reduceBEq, Nat.reduceMul, Int.reduceToNat, Int.reduceEq, Int.reduceLT, Int.reduceLE] <;> try simp only [zB])
  | (refine callI_pure (lshort_c p o3) ?_; refine run_sound mixed 600 _ ?_; simp (maxSteps := 3000000) only [go_sem, ↓zA, ↓reduceIte, ↓reduceDIte, reduceCtorEq, Nat.reduceAdd, Nat.reduceSub, Nat.reduceLeDiff, Nat.reduceLT, Nat.reduceEqDiff, Nat.reduceBEq, Nat.reduceMul, Int.reduceToNat, Int.reduceEq, Int.reduceLT, Int.reduceLE] <;> try simp only [zB])
  | (refine callR_pure (lshort_c p o3) ?_; refine run_sound mixed 600 _ ?_; simp (maxSteps := 3000000) only [go_sem, ↓zA, ↓reduceIte, ↓reduceDIte, reduceCtorEq, Nat.reduceAdd, Nat.reduceSub, Nat.reduceLeDiff, Nat.reduceLT, Nat.reduceEqDiff, Nat.reduceBEq, Nat.reduceMul, Int.reduceToNat, Int.reduceEq, Int.reduceLT, Int.reduceLE] <;> try simp only [zB])
  | (refine callF_pure (lshort_c p o3) ?_; refine run_sound mixed 600 _ ?_; simp (maxSteps := 3000000) only [go_sem, ↓zA, ↓reduceIte, ↓reduceDIte, reduceCtorEq, Nat.reduceAdd, Nat.reduceSub, Nat.reduceLeDiff, Nat.reduceLT, Nat.reduceEqDiff, Nat.reduceBEq, Nat.reduceMul, Int.reduceToNat, Int.reduceEq, Int.reduceLT, Int.reduceLE] <;> try simp only [zB])
  | (refine callI_pure (ht) ?_; refine run_sound mixed 600 _ ?_; simp (maxSteps := 3000000) only [go_sem, ↓zA, ↓reduceIte, ↓reduceDIte, reduceCtorEq, Nat.reduceAdd, Nat.reduceSub, Nat.reduceLeDiff, Nat.reduceLT, Nat.reduceEqDiff, Nat.reduceBEq, Nat.reduceMul, Int.reduceToNat, Int.reduceEq, Int.reduceLT, Int.reduceLE] <;> try simp only [zB])
  | (refine callR_pure (ht) ?_; refine run_sound mixed 600 _ ?_; simp (maxSteps := 3000000) only [go_sem, ↓zA, ↓reduceIte, ↓reduceDIte, reduceCtorEq, Nat.reduceAdd, Nat.reduceSub, Nat.reduceLeDiff, Nat.reduceLT, Nat.reduceEqDiff, Nat.reduceBEq, Nat.reduceMul, Int.reduceToNat, Int.reduceEq, Int.reduceLT, Int.reduceLE] <;> try simp only [zB])
  | (refine callF_pure (ht) ?_; refine run_sound mixed 600 _ ?_; simp (maxSteps := 3000000) only [go_sem, ↓zA, ↓reduceIte, ↓reduceDIte, reduceCtorEq, Nat.reduceAdd, Nat.reduceSub, Nat.reduceLeDiff, Nat.reduceLT, Nat.reduceEqDiff, Nat.reduceBEq, Nat.reduceMul, Int.reduceToNat, Int.reduceEq, Int.reduceLT, Int.reduceLE] <;> try simp only [zB])
  | (with_reducible refine And.intro ?_ ?_)
  | (with_reducible intro _))
 all_goals ((simp_all <;> (intros; omega)))
theorem rsameSeal_c (s : Key) : PC Tryz.prog 56 [.agg (KeyT.cells s), .agg (KeyT.cells s)] (rB true) := by
 obtain ⟨a, v, c⟩ := s
 refine pc_of rfl rfl ?_
 refine runE mixed fi56 ?_; trivial
theorem rsameTick_c (t : Tick) (ho : TickT.ok t) : PC Tryz.prog 55 [.agg (TickT.cells t), .agg (TickT.cells t)] (rB true) := by
 obtain ⟨p, s⟩ := t
 have hs := rsameSeal_c s
 refine pc_of rfl rfl ?_
 refine runE mixed fi55 ?_ <;> try with_reducible exact True.intro
 repeat' (first
  | (refine callI_pure (rsp_c _ _ ho.1) ?_; refine run_sound mixed 600 _ ?_; simp (maxSteps := 3000000) only [go_sem, ↓zA, ↓reduceIte, ↓reduceDIte, reduceCtorEq, Nat.reduceAdd, Nat.reduceSub, Nat.reduceLeDiff, Nat.reduceLT, Nat.reduceEqDiff, Nat.reduceBEq, Nat.reduceMul, Int.reduceToNat, Int.reduceEq, Int.reduceLT, Int.reduceLE] <;> try simp only [zB])
  | (refine callR_pure (rsp_c _ _ ho.1) ?_; refine run_sound mixed 600 _ ?_; simp (maxSteps := 3000000) only [go_sem, ↓zA, ↓reduceIte, ↓reduceDIte, reduceCtorEq, Nat.reduceAdd, Nat.reduceSub, Nat.reduceLeDiff, Nat.reduceLT, Nat.reduceEqDiff, Nat.reduceBEq, Nat.reduceMul, Int.reduceToNat, Int.reduceEq, Int.reduceLT, Int.reduceLE] <;> try simp only [zB])
  | (refine callF_pure (rsp_c _ _ ho.1) ?_; refine run_sound mixed 600 _ ?_; simp (maxSteps := 3000000) only [go_sem, ↓zA, ↓reduceIte, ↓reduceDIte, reduceCtorEq, Nat.reduceAdd, Nat.reduceSub, Nat.reduceLeDiff, Nat.reduceLT, Nat.reduceEqDiff, Nat.reduceBEq, Nat.reduceMul, Int.reduceToNat, Int.reduceEq, Int.reduceLT, Int.reduceLE] <;> try simp only [zB])
  | (refine callI_pure (hs) ?_; refine run_sound mixed 600 _ ?_; simp (maxSteps := 3000000) only [go_sem, ↓zA, ↓reduceIte, ↓reduceDIte, reduceCtorEq, Nat.reduceAdd, Nat.reduceSub, Nat.reduceLeDiff, Nat.reduceLT, Nat.reduceEqDiff, Nat.reduceBEq, Nat.reduceMul, Int.reduceToNat, Int.reduceEq, Int.reduceLT, Int.reduceLE] <;> try simp only [zB])
  | (refine callR_pure (hs) ?_; refine run_sound mixed 600 _ ?_; simp (maxSteps := 3000000) only [go_sem, ↓zA, ↓reduceIte, ↓reduceDIte, reduceCtorEq, Nat.reduceAdd, Nat.reduceSub, Nat.reduceLeDiff, Nat.reduceLT, Nat.reduceEqDiff, Nat.reduceBEq, Nat.reduceMul, Int.reduceToNat, Int.reduceEq, Int.reduceLT, Int.reduceLE] <;> try simp only [zB])
  | (refine callF_pure (hs) ?_; refine run_sound mixed 600 _ ?_; simp (maxSteps := 3000000) only [go_sem, ↓zA, ↓reduceIte, ↓reduceDIte, reduceCtorEq, Nat.reduceAdd, Nat.reduceSub, Nat.reduceLeDiff, Nat.reduceLT, Nat.reduceEqDiff, Nat.reduceBEq, Nat.reduceMul, Int.reduceToNat, Int.reduceEq, Int.reduceLT, Int.reduceLE] <;> try simp only [zB])
  | (with_reducible refine And.intro ?_ ?_)
  | (with_reducible intro _))
 all_goals (simp_all)
theorem rsameRpl_c (r : Rpl) (ho : RplT.ok r) : PC Tryz.prog 13 [.agg (RplT.cells r), .agg (RplT.cells r)] (rB true) := by
 obtain ⟨k, l, p, t, s⟩ := r
 obtain ⟨_, o2, o3, o4, o5⟩ := ho
 have ht := rsameTick_c t o4
 have hs := rsameSeal_c s
 refine pc_of rfl rfl ?_
 refine runE mixed fi13 ?_ <;> try with_reducible exact True.intro
 repeat' (first
  | (refine callI_pure (rsamePre_c _ o2.1) ?_; refine run_sound mixed 600 _ ?_; simp (maxSteps := 3000000) only [go_sem, ↓zA, ↓reduceIte, ↓reduceDIte, reduceCtorEq, Nat.reduceAdd, Nat.reduceSub, Nat.reduceLeDiff, Nat.reduceLT, Nat.reduceEqDiff, Nat.reduceBEq, Nat.reduceMul, Int.reduceToNat, Int.reduceEq, Int.reduceLT, Int.reduceLE] <;> try simp only [zB])
  | (refine callR_pure (rsamePre_c _ o2.1) ?_; refine run_sound mixed 600 _ ?_; simp (maxSteps := 3000000) only [go_sem, ↓zA, ↓reduceIte, ↓reduceDIte, reduceCtorEq, Nat.reduceAdd, Nat.reduceSub, Nat.reduceLeDiff, Nat.reduceLT, Nat.reduceEqDiff, Nat.reduceBEq, Nat.reduceMul, Int.reduceToNat, Int.reduceEq, Int.reduceLT, Int.reduceLE] <;> try simp only [zB])
  | (refine callF_pure (rsamePre_c _ o2.1) ?_; refine run_sound mixed 600 _ ?_; simp (maxSteps := 3000000) only [go_sem, ↓zA, ↓reduceIte, ↓reduceDIte, reduceCtorEq, Nat.reduceAdd, Nat.reduceSub, Nat.reduceLeDiff, Nat.reduceLT, Nat.reduceEqDiff, Nat.reduceBEq, Nat.reduceMul, Int.reduceToNat, Int.reduceEq, Int.reduceLT, Int.reduceLE] <;> try simp only [zB])
  | (refine callI_pure (rsp_c _ _ o3) ?_; refine run_sound mixed 600 _ ?_; simp (maxSteps := 3000000) only [go_sem, ↓zA, ↓reduceIte, ↓reduceDIte, reduceCtorEq, Nat.reduceAdd, Nat.reduceSub, Nat.reduceLeDiff, Nat.reduceLT, Nat.reduceEqDiff, Nat.reduceBEq, Nat.reduceMul, Int.reduceToNat, Int.reduceEq, Int.reduceLT, Int.reduceLE] <;> try simp only [zB])
  | (refine callR_pure (rsp_c _ _ o3) ?_; refine run_sound mixed 600 _ ?_; simp (maxSteps := 3000000) only [go_sem, ↓zA, ↓reduceIte, ↓reduceDIte, reduceCtorEq, Nat.reduceAdd, Nat.reduceSub, Nat.reduceLeDiff, Nat.reduceLT, Nat.reduceEqDiff, Nat.reduceBEq, Nat.reduceMul, Int.reduceToNat, Int.reduceEq, Int.reduceLT, Int.reduceLE] <;> try simp only [zB])
  | (refine callF_pure (rsp_c _ _ o3) ?_; refine run_sound mixed 600 _ ?_; simp (maxSteps := 3000000) only [go_sem, ↓zA, ↓reduceIte, ↓reduceDIte, reduceCtorEq, Nat.reduceAdd, Nat.reduceSub, Nat.reduceLeDiff, Nat.reduceLT, Nat.reduceEqDiff, Nat.reduceBEq, Nat.reduceMul, Int.reduceToNat, Int.reduceEq, Int.reduceLT, Int.reduceLE] <;> try simp only [zB])
  | (refine callI_pure (ht) ?_; refine run_sound mixed 600 _ ?_; simp (maxSteps := 3000000) only [go_sem, ↓zA, ↓reduceIte, ↓reduceDIte, reduceCtorEq, Nat.reduceAdd, Nat.reduceSub, Nat.reduceLeDiff, Nat.reduceLT, Nat.reduceEqDiff, Nat.reduceBEq, Nat.reduceMul, Int.reduceToNat, Int.reduceEq, Int.reduceLT, Int.reduceLE] <;> try simp only [zB])
  | (refine callR_pure (ht) ?_; refine run_sound mixed 600 _ ?_; simp (maxSteps := 3000000) only [go_sem, ↓zA, ↓reduceIte, ↓reduceDIte, reduceCtorEq, Nat.reduceAdd, Nat.reduceSub, Nat.reduceLeDiff, Nat.reduceLT, Nat.reduceEqDiff, Nat.reduceBEq, Nat.reduceMul, Int.reduceToNat, Int.reduceEq, Int.reduceLT, Int.reduceLE] <;> try simp only [zB])
  | (refine callF_pure (ht) ?_; refine run_sound mixed 600 _ ?_; simp (maxSteps := 3000000) only [go_sem, ↓zA, ↓reduceIte, ↓reduceDIte, reduceCtorEq, Nat.reduceAdd, Nat.reduceSub, Nat.reduceLeDiff, Nat.reduceLT, Nat.reduceEqDiff, Nat.reduceBEq, Nat.reduceMul, Int.reduceToNat, Int.reduceEq, Int.reduceLT, Int.reduceLE] <;> try simp only [zB])
  | (refine callI_pure (hs) ?_; refine run_sound mixed 600 _ ?_; simp (maxSteps := 3000000) only [go_sem, ↓zA, ↓reduceIte, ↓reduceDIte, reduceCtorEq, Nat.reduceAdd, Nat.reduceSub, Nat.reduceLeDiff, Nat.reduceLT, Nat.reduceEqDiff, Nat.reduceBEq, Nat.reduceMul, Int.reduceToNat, Int.reduceEq, Int.reduceLT, Int.reduceLE] <;> try simp only [zB])
  | (refine callR_pure (hs) ?_; refine run_sound mixed 600 _ ?_; simp (maxSteps := 3000000) only [go_sem, ↓zA, ↓reduceIte, ↓reduceDIte, reduceCtorEq, Nat.reduceAdd, Nat.reduceSub, Nat.reduceLeDiff, Nat.reduceLT, Nat.reduceEqDiff, Nat.reduceBEq, Nat.reduceMul, Int.reduceToNat, Int.reduceEq, Int.reduceLT, Int.reduceLE] <;> try simp only [zB])
  | (refine callF_pure (hs) ?_; refine run_sound mixed 600 _ ?_; simp (maxSteps := 3000000) only [go_sem, ↓zA, ↓reduceIte, ↓reduceDIte, reduceCtorEq, Nat.reduceAdd, Nat.reduceSub, Nat.reduceLeDiff, Nat.reduceLT, Nat.reduceEqDiff, Nat.reduceBEq, Nat.reduceMul, Int.reduceToNat, Int.reduceEq, Int.reduceLT, Int.reduceLE] <;> try simp only [zB])
  | (with_reducible refine And.intro ?_ ?_)
  | (with_reducible intro _))
 all_goals (simp_all)
theorem decRpl_ok {b : List UInt8} (hb : b.length ≤ 1099511627776) : RplT.ok ((decRpl b).getD RplT.dflt) := by
 cases h : decRpl b with
 | none => exact ⟨trivial, nil_ok, zP_ok, ⟨zP_ok, trivial, trivial, nil_ok⟩, trivial, trivial, nil_ok⟩
 | some r =>
  unfold decRpl at h
  split at h
  · generalize (kindV b 1).toNat = k at h
    unfold decRp allP at h
    cases hx : rpP k b with
    | error e' => rw [hx] at h; cases h
    | ok y =>
     obtain ⟨u, m⟩ := y
     rw [hx] at h
     have := okP_rpl k b u m hb hx
     by_cases hm : m < b.length
     · simp [hm] at h
     · simp [hm] at h
       exact h.2 ▸ this
  · cases h
theorem replies_law (r : Rpl) (ho : RplT.ok r) (hr : RplT.inR r) (b : List UInt8) : PC Tryz.prog 3 [.agg (RplT.cells r), .isl .u8 b] (rB true) := by
 have cf := lrpl_c r ho
 have hsh : rplB r = true → shR r := fun h => by
  simp only [rplB, tick3, Bool.and_eq_true, decide_eq_true_eq] at h
  obtain ⟨g1, g2, ⟨g3, g4⟩, g5⟩ := h
  exact ⟨hr.1, few_sh g1 hr.2.1, short_sh g2, ⟨short_sh g3, hr.2.2.2.1.2.1, hr.2.2.2.1.2.2.1, by omega⟩, hr.2.2.2.2.1, hr.2.2.2.2.2.1, by omega⟩
 have cv := rvRpl_c r ho
 have ce := encRpl_c r ho
 have cd := fun hb => decReply_c b hb
 have cr := fun hb => rdecRpl_c b hb
 have cs := fun hb => rsameRpl_c _ (decRpl_ok (b := b) hb)
 have cm := validRpl_c r ho
 have cw := fun h => rencRpl_c r (hsh h)
 have hw : vRpl r = true → rplA r = rplS r := fun h => by
  unfold vRpl at h; rw [Bool.and_eq_true] at h; exact rplA_ok h.1
 have cl : PC Tryz.prog 11 [.isl .u8 (if vRpl r then rplS r else []), rI (if vRpl r then 0 else 2), rB (vRpl r), .isl .u8 (rplA r)] (rB true) := by
  have := lsame_c (if vRpl r then rplS r else []) (rplA r) (if vRpl r then 0 else 2) (vRpl r)
  cases hv : vRpl r with
  | false => rw [hv] at this; simpa using this
  | true => rw [hv, hw hv] at this; rw [hw hv]; simpa using this
 generalize (decRpl b).getD RplT.dflt = q at *
 generalize (if (decRpl b).isSome then (0 : Int) else 6) = g at *
 generalize rplB r = fb at *
 generalize rplA r = w at *
 generalize rplS r = w' at *
 generalize vRpl r = v at *
 obtain ⟨k, l, p, t, s⟩ := r
 refine pc_of rfl rfl ?_
 refine runE mixed fi3 ?_
 refine callI_pure cf ?_
 refine goE mixed ?_
 refine ⟨fun hf => ⟨fun h => callI_pure mknown_c ?_, fun hle => callI_pure cv ?_⟩, fun hf => callI_pure mknown_c ?_⟩
 rotate_left
 rotate_left
 · refine goE mixed ?_; trivial
 · refine goE mixed ?_; trivial
 refine goE mixed ?_
 refine callI_pure ce ?_
 refine goE mixed ?_
 refine callI_pure (cd (by omega)) ?_
 refine goE mixed ?_
 refine callI_pure (cr (by omega)) ?_
 refine goE mixed ?_
 refine callI_pure cm ?_
 refine goE mixed ?_
 refine callI_pure (cw hf) ?_
 refine goE mixed ?_
 refine callI_pure cl ?_
 refine goE mixed ?_
 refine callI_pure (cs (by omega)) ?_
 refine goE mixed ?_
 refine callI_pure (lnum_c _) ?_
 refine goE mixed ?_
 refine callI_pure mknown_c ?_
 refine goE mixed ?_; trivial
end Go.Proofs.YthmoognbccfpiaaGreatDoor

