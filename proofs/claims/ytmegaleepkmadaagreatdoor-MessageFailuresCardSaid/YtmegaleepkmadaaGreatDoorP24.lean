/- Contracts: messages: reading an error message. -/
import Derived.Test.YtmegaleepkmadaaGreatDoorP21
import Derived.Test.YtmegaleepkmadaaGreatDoorP23
import Derived.Test.YtmegaleepkmadaaGreatDoorP20
set_option linter.unusedSimpArgs false
set_option linter.unusedVariables false
set_option linter.unusedSectionVars false
namespace Go.Proofs.YtmegaleepkmadaaGreatDoor
open Go Go.Sx Go.Proofs
set_option maxRecDepth 100000
set_option maxHeartbeats 4000000
set_option linter.unusedSimpArgs false

theorem maybe_d1 {α : Type} (g : Nat) (i : Nat) (hi : i ≤ 30) (b : List UInt8) (n : Nat) (hn : n ≤ b.length) (hb : b.length ≤ 1099511627776) (T : TypeId) (cs : List SV) (hc : Cln cs) (p : PR α) (hp : FitsP p) (upd : α → List SV) (hu : ∀ v, Cln (upd v)) (d : α) (hd : SV.leAL cs (upd d))
 (hg : Eff Tryz.prog g [.agg [.ptr 0 0], .ptr 1 0] (takeC (b.drop n)) 0 [.cells T cs] (fun _ => .tup []) (fun v => [.cells T (upd v)]) (p (takeC (b.drop n)))) :
 Eff Tryz.prog 85 [.agg [.ptr 0 0], rI i, .fn g [] [.ptr 1 0]] b n [.cells T cs] (fun _ => rB (nextB i (b.drop n))) (fun v => [.cells T (upd v)]) (dfltP d i p (b.drop n)) := by
 cases h : nextB i (b.drop n) with
 | false =>
  rw [dfltP_no h]
  have w1 := cln_rb hc
  have hs := rtag_no i hi b n hn h
  refine pe_seal (by simp) ?_
  refine runE mixed fi85 ?_
  refine effC mixed [0] (hs) w1 ?_
  refine callI_require (fun _ => ?_) fun h => absurd h (by decide)
  refine run_sound mixed 600 _ ?_
  simp (maxSteps := 3000000) only [w1, hd, go_sem, ↓zA, ↓reduceIte, ↓reduceDIte, reduceCtorEq, Nat.reduceAdd, Nat.reduceSub, Nat.reduceLeDiff, Nat.reduceLT, Nat.reduceEqDiff, Nat.reduceBEq, Nat.reduceMul, Int.reduceToNat, Int.reduceEq, Int.reduceLT, Int.reduceLE] <;> try simp only [zB]
  rfl
 | true =>
  rw [dfltP_in h]
  exact maybe_in1 g i hi b n hn hb T cs hc p hp upd hu hg h
@[go_sem] abbrev faO (cs : List SV) : SObj := .cells 27 cs
theorem fa11_c (b : List UInt8) (n : Nat) (hn : n ≤ b.length) (hb : b.length ≤ 1099511627776) (c t m : Int) :
 Eff Tryz.prog 86 [.agg [.ptr 0 0], .ptr 1 0] b n [faO [rI c, rI t, rI m, .raw (.slice none 0 0), rS ⟨#[]⟩, .raw (.slice none 0 0), rS ⟨#[]⟩, rS ⟨#[]⟩, .raw (.slice none 0 0)]] (fun _ => .tup []) (fun p : Prin => [faO [rI c, rI t, rI m, .isl .str p.1, rS p.2, .raw (.slice none 0 0), rS ⟨#[]⟩, rS ⟨#[]⟩, .raw (.slice none 0 0)]]) (nameP (b.drop n)) := by
 have hr := read_c b n hn hb
 cases hx : nameP (b.drop n) with
 | error e =>
  have hr' := effR_er hr hx
  refine pe_seal (by simp) ?_
  refine runE mixed fi86 ?_
  refine effE mixed [0] (hr') ?_
  refine effP [] (take_er_prin e (nameP_ne _ _ hx)) ?_; trivial
 | ok x =>
  obtain ⟨v, k⟩ := x
  have hr' := effR_ok hr hx
  refine pe_seal (by simp) ?_
  refine runE mixed fi86 ?_
  refine effE mixed [0] (hr') ?_
  refine callI_pure (take_prin _) ?_
  refine goE mixed ?_; trivial
theorem fa12_c (b : List UInt8) (n : Nat) (hn : n ≤ b.length) (hb : b.length ≤ 1099511627776) (c t m : Int) (p s : Prin) :
 Eff Tryz.prog 90 [.agg [.ptr 0 0], .ptr 1 0] b n [faO [rI c, rI t, rI m, .isl .str p.1, rS p.2, .isl .str s.1, rS s.2, rS ⟨#[]⟩, .raw (.slice none 0 0)]] (fun _ => .tup []) (fun x : ByteArray => [faO [rI c, rI t, rI m, .isl .str p.1, rS p.2, .isl .str s.1, rS s.2, rS x, .raw (.slice none 0 0)]]) (strP (b.drop n)) := by
 cases hx : strP (b.drop n) with
 | error e =>
  have hr := rstr_er b n hn hb hx
  refine pe_seal (by simp) ?_
  refine runE mixed fi90 ?_
  refine effE mixed [0] (hr) ?_
  refine effP [] (take_er_str _ e (rdP_ne hx)) ?_; trivial
 | ok x =>
  obtain ⟨v, k⟩ := x
  have hr := rstr_ok b n hn hb hx
  refine pe_seal (by simp) ?_
  refine runE mixed fi90 ?_
  refine effE mixed [0] (hr) ?_
  refine callI_pure (take_str _) ?_
  refine goE mixed ?_; trivial
def zP : Prin := ([], ⟨#[]⟩)
def faIn : PR Fail := bindP (needP 0 (cstP 5)) fun _ => bindP (needP 1 (cstP 30)) fun _ => bindP (needP 2 timeP) fun t => bindP (needP 3 intP) fun m => bindP (needP 4 intP) fun c => bindP (dfltP zP 5 nameP) fun p => bindP (needP 6 nameP) fun s => bindP (dfltP ⟨#[]⟩ 7 strP) fun x => bindP (dfltP [] 8 dataP) fun d => retP ((c, ((t : Nat) : Int), m, p, s, x, d) : Fail)
theorem faIn_fits : FitsP faIn := bindP_fits needP_fits fun _ => bindP_fits needP_fits fun _ => bindP_fits needP_fits fun _ => bindP_fits needP_fits fun _ => bindP_fits needP_fits fun _ => bindP_fits dfltP_fits fun _ => bindP_fits needP_fits fun _ => bindP_fits dfltP_fits fun _ => bindP_fits dfltP_fits fun _ => retP_fits
@[go_sem] abbrev fa0 : List SV := [rI 0, rI 0, rI 0, .raw (.slice none 0 0), rS ⟨#[]⟩, .raw (.slice none 0 0), rS ⟨#[]⟩, rS ⟨#[]⟩, .raw (.slice none 0 0)]
theorem cln_fa (c t m : Int) (x : ByteArray) : Cln [rI c, rI t, rI m, .raw (.slice none 0 0), rS ⟨#[]⟩, .raw (.slice none 0 0), rS ⟨#[]⟩, rS x, .raw (.slice none 0 0)] := cln_raw (cln_raw (cln_raw (cln_raw (cln_raw (cln_raw (cln_raw (cln_raw (cln_raw cln_nil))))))))
theorem cln_fa1 (c t m : Int) (p : Prin) (x : ByteArray) : Cln [rI c, rI t, rI m, .isl .str p.1, rS p.2, .raw (.slice none 0 0), rS ⟨#[]⟩, rS x, .raw (.slice none 0 0)] := cln_raw (cln_raw (cln_raw (cln_isl (cln_raw (cln_raw (cln_raw (cln_raw (cln_raw cln_nil))))))))
theorem cln_fa2 (c t m : Int) (p s : Prin) (x : ByteArray) : Cln [rI c, rI t, rI m, .isl .str p.1, rS p.2, .isl .str s.1, rS s.2, rS x, .raw (.slice none 0 0)] := cln_raw (cln_raw (cln_raw (cln_isl (cln_raw (cln_isl (cln_raw (cln_raw (cln_raw cln_nil))))))))
theorem fa_le6 (c t m : Int) (x : ByteArray) : SV.leAL [rI c, rI t, rI m, .raw (.slice none 0 0), rS ⟨#[]⟩, .raw (.slice none 0 0), rS ⟨#[]⟩, rS x, .raw (.slice none 0 0)] [rI c, rI t, rI m, .isl .str zP.1, rS zP.2, .raw (.slice none 0 0), rS ⟨#[]⟩, rS x, .raw (.slice none 0 0)] := by
 simp [leAL_cons, leAL_nil, leA_raw, leA_nil, zP]
theorem fa1_c (b : List UInt8) (n : Nat) (hn : n ≤ b.length) (hb : b.length ≤ 1099511627776) :
 Eff Tryz.prog 81 [.agg [.ptr 0 0], .ptr 1 0] b n [faO fa0] (fun _ => .tup []) (fun f => [faO (FailT.cells f)]) (faIn (b.drop n)) := by
 refine eff_of (fun _ => Nat.le_refl _) ?_
 obtain ⟨X, hX0⟩ : ∃ X, X = faIn (b.drop n) := ⟨_, rfl⟩
 rw [← hX0]
 have hX := hX0.trans bind_x0
 clear hX0
 unfold faIn at hX
 refine runE mixed fi81 ?_
 have c1 := mcst_c 0 (by omega) 5 b (n) hn hb
 rcases h1 : needP 0 (cstP 5) (b.drop (n)) with e | ⟨v1, k1⟩
 · have c1' := eff_er c1 h1
   obtain rfl := bind_xe hX h1
   refine effP [0] (c1') ?_; trivial
 replace hX := bind_xo hX h1
 have c1' := eff_ok c1 h1
 have f1 := fits_at needP_fits hn h1
 refine effE mixed [0] (c1') ?_
 have c2 := mcst_c 1 (by omega) 30 b (n + k1) f1 hb
 rcases h2 : needP 1 (cstP 30) (b.drop (n + k1)) with e | ⟨v2, k2⟩
 · have c2' := eff_er c2 h2
   obtain rfl := bind_xe hX h2
   refine effP [0] (c2') ?_; trivial
 replace hX := bind_xo hX h2
 have c2' := eff_ok c2 h2
 have f2 := fits_at needP_fits f1 h2
 refine effE mixed [0] (c2') ?_
 have c3 := mrtime_c 2 (by omega) b (n + k1 + k2) f2 hb
 rcases h3 : needP 2 timeP (b.drop (n + k1 + k2)) with e | ⟨v3, k3⟩
 · have c3' := eff_er c3 h3
   obtain rfl := bind_xe hX h3
   refine effP [0] (c3') ?_; trivial
 replace hX := bind_xo hX h3
 have c3' := eff_ok c3 h3
 have f3 := fits_at needP_fits f2 h3
 refine effE mixed [0] (c3') ?_
 have c4 := mrint_c 3 (by omega) b (n + k1 + k2 + k3) f3 hb
 rcases h4 : needP 3 intP (b.drop (n + k1 + k2 + k3)) with e | ⟨v4, k4⟩
 · have c4' := eff_er c4 h4
   obtain rfl := bind_xe hX h4
   refine effP [0] (c4') ?_; trivial
 replace hX := bind_xo hX h4
 have c4' := eff_ok c4 h4
 have f4 := fits_at needP_fits f3 h4
 refine effE mixed [0] (c4') ?_
 have c5 := mrint_c 4 (by omega) b (n + k1 + k2 + k3 + k4) f4 hb
 rcases h5 : needP 4 intP (b.drop (n + k1 + k2 + k3 + k4)) with e | ⟨v5, k5⟩
 · have c5' := eff_er c5 h5
   obtain rfl := bind_xe hX h5
   refine effP [0] (c5') ?_; trivial
 replace hX := bind_xo hX h5
 have c5' := eff_ok c5 h5
 have f5 := fits_at needP_fits f4 h5
 refine effE mixed [0] (c5') ?_
 have c6 := maybe_d1 86 5 (by omega) b (n + k1 + k2 + k3 + k4 + k5) f5 hb 27 _ (cln_fa v5 (v3 : Nat) v4 ⟨#[]⟩) nameP nameP_fits _ (fun p => cln_fa1 v5 (v3 : Nat) v4 p ⟨#[]⟩) zP (fa_le6 _ _ _ _) (by have h := fa11_c (takeC (b.drop (n + k1 + k2 + k3 + k4 + k5))) 0 (Nat.zero_le _) (tkC_le hb) v5 (v3 : Nat) v4; rwa [List.drop_zero] at h)
 rcases h6 : dfltP zP 5 nameP (b.drop (n + k1 + k2 + k3 + k4 + k5)) with e | ⟨v6, k6⟩
 · have c6' := eff_er c6 h6
   obtain rfl := bind_xe hX h6
   refine effP [0, 1] (c6') ?_; trivial
 replace hX := bind_xo hX h6
 have c6' := eff_ok c6 h6
 have f6 := fits_at dfltP_fits f5 h6
 refine effE mixed [0, 1] (c6') ?_
 have c7 := mrprin_c 6 (by omega) b (n + k1 + k2 + k3 + k4 + k5 + k6) f6 hb
 rcases h7 : needP 6 nameP (b.drop (n + k1 + k2 + k3 + k4 + k5 + k6)) with e | ⟨v7, k7⟩
 · have c7' := eff_er c7 h7
   obtain rfl := bind_xe hX h7
   refine effP [0] (c7') ?_; trivial
 replace hX := bind_xo hX h7
 have c7' := eff_ok c7 h7
 have f7 := fits_at needP_fits f6 h7
 refine effE mixed [0] (c7') ?_
 have c8 := maybe_d1 90 7 (by omega) b (n + k1 + k2 + k3 + k4 + k5 + k6 + k7) f7 hb 27 _ (cln_fa2 v5 (v3 : Nat) v4 v6 v7 ⟨#[]⟩) strP rdP_fits _ (fun x => cln_fa2 v5 (v3 : Nat) v4 v6 v7 x) (⟨#[]⟩ : ByteArray) (cln_fa2 v5 (v3 : Nat) v4 v6 v7 ⟨#[]⟩).le (by have h := fa12_c (takeC (b.drop (n + k1 + k2 + k3 + k4 + k5 + k6 + k7))) 0 (Nat.zero_le _) (tkC_le hb) v5 (v3 : Nat) v4 v6 v7; rwa [List.drop_zero] at h)
 rcases h8 : dfltP ⟨#[]⟩ 7 strP (b.drop (n + k1 + k2 + k3 + k4 + k5 + k6 + k7)) with e | ⟨v8, k8⟩
 · have c8' := eff_er c8 h8
   obtain rfl := bind_xe hX h8
   refine effP [0, 1] (c8') ?_; trivial
 replace hX := bind_xo hX h8
 have c8' := eff_ok c8 h8
 have f8 := fits_at dfltP_fits f7 h8
 refine effE mixed [0, 1] (c8') ?_
 have c9 := mpre_c 8 (by omega) b (n + k1 + k2 + k3 + k4 + k5 + k6 + k7 + k8) f8 hb
 rcases h9 : dfltP [] 8 dataP (b.drop (n + k1 + k2 + k3 + k4 + k5 + k6 + k7 + k8)) with e | ⟨v9, k9⟩
 · have c9' := eff_er c9 h9
   obtain rfl := bind_xe hX h9
   refine effP [0] (c9') ?_; trivial
 replace hX := bind_xo hX h9
 have c9' := eff_ok c9 h9
 have f9 := fits_at dfltP_fits f8 h9
 refine effE mixed [0] (c9') ?_
 subst hX
 simp only [shiftP, retP]
 with_reducible refine sxE ?_
 exact congrArg (Value.int .i64) (by omega)
end Go.Proofs.YtmegaleepkmadaaGreatDoor

/- Contracts: reading an entry. -/
namespace Go.Proofs.YtmegaleepkmadaaGreatDoor
open Go Go.Sx Go.Proofs
set_option maxRecDepth 100000
set_option maxHeartbeats 4000000
set_option linter.unusedSimpArgs false

end Go.Proofs.YtmegaleepkmadaaGreatDoor

/- Contracts: decoding an entry. -/
namespace Go.Proofs.YtmegaleepkmadaaGreatDoor
open Go Go.Sx Go.Proofs
set_option maxRecDepth 100000
set_option maxHeartbeats 4000000
set_option linter.unusedSimpArgs false

end Go.Proofs.YtmegaleepkmadaaGreatDoor

/- Contracts: messages: decoding an error message. -/
namespace Go.Proofs.YtmegaleepkmadaaGreatDoor
open Go Go.Sx Go.Proofs
set_option maxRecDepth 100000
set_option maxHeartbeats 4000000
set_option linter.unusedSimpArgs false

def failP : PR Fail := inP (appB 30) (inP 48 faIn)
theorem readFail_c (b : List UInt8) (n : Nat) (hn : n ≤ b.length) (hb : b.length ≤ 1099511627776) :
 Eff Tryz.prog 33 [.agg [.ptr 0 0]] b n [] (fun f => .agg (FailT.cells f)) (fun _ => []) (failP (b.drop n)) := by
 have h1 := fa1_c (takeC (takeC (b.drop n))) 0 (Nat.zero_le _) (Nat.le_trans (takeC_len _) (tkC_le hb))
 rw [List.drop_zero] at h1
 have hm := application1 81 30 (by omega) b n hn hb 27 _ (cln_fa 0 0 0 ⟨#[]⟩) faIn faIn_fits (fun f => FailT.cells f) (fun f => cln_ty FailT f) h1
 change Eff _ _ _ _ _ _ _ _ (failP (b.drop n)) at hm
 cases hx : failP (b.drop n) with
 | error e =>
  have hm' := eff_er hm hx
  refine pe_seal (by simp) ?_
  refine runE mixed fi33 ?_
  refine effP [0, 2] (hm') ?_; trivial
 | ok x =>
  obtain ⟨v, q⟩ := x
  have hm' := eff_ok hm hx
  refine pe_seal (by simp) ?_
  refine runE mixed fi33 ?_
  refine effE mixed [0, 2] (hm') ?_; trivial
theorem dpanF_c (o : SObj) (T : TypeId) (x : Value) (R : List SObj) (K : List SObj → Prop) (h : ∀ G, K (o :: .cells T [rI 6] :: (R ++ G))) : DCall Tryz.prog 75 [.ptr 1 0] (some wrongV) (o :: .cells T [.raw x] :: R) K := by
 refine recE mixed fi75 ?_
 exact h _
theorem dretF_c (o o' : SObj) (R : List SObj) (K : List SObj → Prop) (h : ∀ G, K (o :: o' :: (R ++ G))) : DCall Tryz.prog 75 [.ptr 1 0] none (o :: o' :: R) K := by
 refine recE mixed fi75 ?_
 exact h _
theorem okP_dat : OkP datP PreT.ok := okP_in (okP_bind (Q1 := fun _ => True) okP_true fun _ _ => okP_bind (okP_need okP_oct) fun _ hc => okP_ret ⟨trivial, hc⟩)
theorem okP_data : OkP dataP (Ty.slice PreT).ok := okP_l (t := PreT) 16 (by omega) okP_dat
theorem zP_ok : PrinT.ok zP := ⟨nil_ok, estr_ok⟩
theorem okP_fail : OkP failP FailT.ok :=
 okP_in (okP_in (okP_bind (Q1 := fun _ => True) okP_true fun _ _ => okP_bind (Q1 := fun _ => True) okP_true fun _ _ => okP_bind (Q1 := fun _ => True) okP_true fun _ _ => okP_bind (Q1 := fun _ => True) okP_true fun _ _ => okP_bind (Q1 := fun _ => True) okP_true fun _ _ =>
  okP_bind (okP_dflt zP_ok okP_name) fun _ h5 => okP_bind (okP_need okP_name) fun _ h6 => okP_bind (okP_dflt estr_ok okP_strn) fun _ h7 => okP_bind (okP_dflt nil_ok okP_data) fun _ h8 => okP_ret ⟨trivial, trivial, trivial, h5, h6, h7, h8⟩))
def decFail (b : List UInt8) : Option Fail := match allP failP b with
 | .ok f => if sFail f = true ∧ failS f = b then some f else none
 | .error _ => none
theorem decodeF_c (b : List UInt8) (hb : b.length ≤ 1099511627776) : PC Tryz.prog 32 [.isl .u8 b, .fn 33 [] [], .fn 29 [] [], .fn 31 [] []] (.tup [.agg (FailT.cells ((decFail b).getD FailT.dflt)), rI (if (decFail b).isSome then 0 else 6)]) := by
 have hnew := new_c b (by omega)
 have hread := readFail_c b 0 (Nat.zero_le _) hb
 have hok : ∀ e m, failP b = .ok (e, m) → FailT.ok e := fun e m h => okP_fail b e m hb h
 rw [List.drop_zero] at hread
 refine pc_seal rfl rfl ?_
 refine defE mixed fi32 ?_
 refine goE mixed ?_
 refine effE mixed [] (hnew) ?_
 cases hx : failP b with
 | error e =>
  have hd : decFail b = none := by unfold decFail allP; rw [hx]
  have hr := eff_er hread hx
  rw [hd]
  refine effP [2] (hr) ?_
  refine ⟨by simp, dpanF_c _ _ _ _ _ fun G => ?_⟩
  with_reducible refine sxE ?_
  exact ⟨⟨rfl, rfl, rfl, rfl, rfl, rfl, rfl, rfl, rfl⟩, rfl⟩
 | ok x =>
  obtain ⟨e, m⟩ := x
  have hr := eff_ok hread hx
  have heo := hok e m hx
  rw [Nat.zero_add] at hr
  refine effE mixed [2] (hr) ?_
  have hfit : m ≤ b.length := inP_fits _ _ _ hx
  by_cases hm : m < b.length
  · have hd : decFail b = none := by unfold decFail allP; rw [hx]; simp [hm]
    rw [hd]
    refine effP [2] (done_f b m hm) ?_
    refine ⟨by simp, dpanF_c _ _ _ _ _ fun G => ?_⟩
    with_reducible refine sxE ?_
    exact ⟨⟨rfl, rfl, rfl, rfl, rfl, rfl, rfl, rfl, rfl⟩, rfl⟩
  · refine effE mixed [2] (done_t b m (by omega)) ?_
    refine callI_pure (sfail_c e heo) ?_
    cases hv : sFail e with
    | false =>
     have hd : decFail b = none := by unfold decFail allP; rw [hx]; simp [hm, hv]
     rw [hd]
     refine goE mixed ?_
     refine callI_require (fun h => absurd h (by decide)) fun _ => ?_
     with_reducible refine sxE ?_
     refine ⟨by simp, dpanF_c _ _ _ _ _ fun G => ?_⟩
     with_reducible refine sxE ?_
     exact ⟨⟨rfl, rfl, rfl, rfl, rfl, rfl, rfl, rfl, rfl⟩, rfl⟩
    | true =>
     refine goE mixed ?_
     refine callI_pure (wfail_c e heo (sFail_len hv)) ?_
     refine goE mixed ?_
     refine callI_pure (equal_d _ _) ?_
     by_cases he : failS e = b
     · have hd : decFail b = some e := by unfold decFail allP; rw [hx]; simp [hm, hv, he]
       rw [hd, decide_eq_true he]
       refine goE mixed ?_
       refine callI_pure require_t ?_
       refine goE mixed ?_
       refine dretF_c _ _ _ _ fun G => ?_
       with_reducible refine sxE ?_
       exact ⟨⟨rfl, rfl, rfl, rfl, rfl, rfl, rfl, rfl, rfl⟩, rfl⟩
     · have hd : decFail b = none := by unfold decFail allP; rw [hx]; simp [hm, hv, he]
       rw [hd, decide_eq_false he]
       refine goE mixed ?_
       refine callI_require (fun h => absurd h (by decide)) fun _ => ?_
       with_reducible refine sxE ?_
       refine ⟨by simp, dpanF_c _ _ _ _ _ fun G => ?_⟩
       with_reducible refine sxE ?_
       exact ⟨⟨rfl, rfl, rfl, rfl, rfl, rfl, rfl, rfl, rfl⟩, rfl⟩
def decF (b : List UInt8) : Option Fail := if b.length ≤ 65536 then decFail b else none
theorem decFailure_c (b : List UInt8) (hb : b.length ≤ 1099511627776) : PC Tryz.prog 8 [.isl .u8 b] (.tup [.agg (FailT.cells ((decF b).getD FailT.dflt)), rI (if (decF b).isSome then 0 else 6)]) := by
 have h := decodeF_c b hb
 unfold decF
 refine pc_seal rfl rfl ?_
 refine runE mixed fi8 ?_
 refine ⟨fun hgt => ?_, fun hle => callI_pure h ?_⟩
 · rw [if_neg (by omega)]
   exact ⟨⟨rfl, rfl, rfl, rfl, rfl, rfl, rfl, rfl, rfl⟩, rfl⟩
 · rw [if_pos (show b.length ≤ 65536 by omega)]
   generalize (decFail b).getD FailT.dflt = l at *
   generalize (decFail b).isSome = s at *
   refine goE mixed ?_; trivial
end Go.Proofs.YtmegaleepkmadaaGreatDoor

/- The plain law of reading: pre-authentication data, error messages. -/
namespace Go.Proofs.YtmegaleepkmadaaGreatDoor
open Go Go.Sx Go.Proofs
set_option maxRecDepth 100000
set_option maxHeartbeats 4000000
set_option linter.unusedSimpArgs false

theorem datS_tlv (a : Int) (c : List UInt8) (ha : 0 ≤ a ∧ a ≤ 4611686018427387904) (hc : c.length ≤ 65536) : datS (a, c) = tlv 48 (sufS [intS a, elemS 4 [c]] 0 2) ∧ (sufS [intS a, elemS 4 [c]] 0 2).length ≤ c.length + 40 := by
 have i1 := intS_len a
 obtain ⟨c1, e1, _⟩ := intS_i (v := a) (by omega)
 have e3 : elemS 4 [c] = tlv 4 c := elemS_ok (by omega)
 have w3 := elemS_len 4 [c]
 simp only [List.flatten_cons, List.flatten_nil, List.append_nil] at w3
 have w0 := wrapS_len 160 0 (intS a)
 have w2 := wrapS_len 160 1 (elemS 4 [c])
 have n0 : wrapS 160 0 (intS a) ≠ [] := by rw [show (0 : Int) = ((0 : Nat) : Int) from rfl, wrapS_tlv (by omega) (by omega) (by rw [e1]; exact tlv_ne)]; exact tlv_ne
 have n2 : wrapS 160 1 (elemS 4 [c]) ≠ [] := by rw [show (1 : Int) = ((1 : Nat) : Int) from rfl, wrapS_tlv (by omega) (by omega) (by rw [e3]; exact tlv_ne)]; exact tlv_ne
 have hf : (tagN [intS a, elemS 4 [c]] 2).flatten = sufS [intS a, elemS 4 [c]] 0 2 := sufS_all [intS a, elemS 4 [c]]
 have ht : tagN [intS a, elemS 4 [c]] 2 = [wrapS 160 0 (intS a), wrapS 160 1 (elemS 4 [c])] := by simp [tagN, List.range_succ]
 have hl : (sufS [intS a, elemS 4 [c]] 0 2).length ≤ c.length + 40 := by
  rw [← hf, ht]
  simp only [List.flatten_cons, List.flatten_nil, List.append_nil, List.length_append]
  omega
 refine ⟨?_, hl⟩
 have hfull : allN 2 (fullAt [wrapS 160 0 (intS a), wrapS 160 1 (elemS 4 [c])]) = true := by
  refine allN_true fun j hj => ?_
  match j, hj with
  | 0, _ => exact decide_eq_true n0
  | 1, _ => exact decide_eq_true n2
 show wholeS (tagN [intS a, elemS 4 [c]] 2) = _
 rw [ht]
 unfold wholeS
 rw [show ([wrapS 160 0 (intS a), wrapS 160 1 (elemS 4 [c])] : List (List UInt8)).length = 2 from rfl, if_pos hfull, ← ht, elemS_flat (by rw [hf]; omega), hf]
theorem datP_at (a : Int) (c : List UInt8) (ha : 0 ≤ a ∧ a ≤ 4611686018427387904) (hc : c.length ≤ 65536) (r : List UInt8) : datP (datS (a, c) ++ r) = .ok ((a, c), (datS (a, c)).length) := by
 have i1 := intS_len a
 obtain ⟨c1, e1, _⟩ := intS_i (v := a) (by omega)
 have e3 : elemS 4 [c] = tlv 4 c := elemS_ok (by omega)
 have w3 := elemS_len 4 [c]
 simp only [List.flatten_cons, List.flatten_nil, List.append_nil] at w3
 have hL : ∀ j, (([intS a, elemS 4 [c]] : List (List UInt8)).getD j []).length ≤ 16777215 := fun j => by
  match j with
  | 0 => show (intS a).length ≤ _; omega
  | 1 => show (elemS 4 [c]).length ≤ _; omega
  | j + 2 => exact Nat.zero_le _
 obtain ⟨hS, hin⟩ := datS_tlv a c ha hc
 rw [hS]
 refine inP_tlv (by omega) ?_ r
 have q0 : intP (([intS a, elemS 4 [c]] : List (List UInt8)).getD 0 []) = .ok (a, (([intS a, elemS 4 [c]] : List (List UInt8)).getD 0 []).length) := full (e := intS a) (intP_ok (by omega))
 have q1 : octP (([intS a, elemS 4 [c]] : List (List UInt8)).getD 1 []) = .ok (c, (([intS a, elemS 4 [c]] : List (List UInt8)).getD 1 []).length) := full (e := elemS 4 [c]) (octP_ok (by omega))
 have n0 : ([intS a, elemS 4 [c]] : List (List UInt8)).getD 0 [] ≠ [] := by show intS a ≠ []; rw [e1]; exact tlv_ne
 have n1 : ([intS a, elemS 4 [c]] : List (List UInt8)).getD 1 [] ≠ [] := by show elemS 4 _ ≠ []; rw [e3]; exact tlv_ne
 unfold datIn
 refine bind_suf (n := 0) (k := 1) (need_suf hL (by omega) n0 q0) ?_
 refine bind_suf (n := 1) (k := 0) (need_suf hL (by omega) n1 q1) ?_
 rfl
theorem vPre1_f {p : Pre} (h : vPre1 p = true) : ((0 : Int) ≤ p.1 ∧ p.1 ≤ (2147483647 : Int)) ∧ p.2.length ≤ 16384 := by
 simp only [vPre1, mIn, Bool.and_eq_true, decide_eq_true_eq] at h
 exact ⟨h.1, by omega⟩
theorem vPre_f {l : List Pre} (h : vPre l = true) : l.length ≤ 16 ∧ ∀ p ∈ l, ((0 : Int) ≤ p.1 ∧ p.1 ≤ (2147483647 : Int)) ∧ p.2.length ≤ 16384 := by
 simp only [vPre, Bool.and_eq_true, decide_eq_true_eq] at h
 refine ⟨by omega, fun p hp => ?_⟩
 obtain ⟨j, hj, rfl⟩ := List.getElem_of_mem hp
 have := allN_iff.1 h.2 j hj
 unfold preAt at this
 rw [List.getD_eq_getElem?_getD, List.getElem?_eq_getElem hj] at this
 exact vPre1_f this
theorem dat_ok {p : Pre} (h : ((0 : Int) ≤ p.1 ∧ p.1 ≤ (2147483647 : Int)) ∧ p.2.length ≤ 16384) : datS p ≠ [] ∧ (∀ r, datP (datS p ++ r) = .ok (p, (datS p).length)) ∧ (datS p).length ≤ 16434 := by
 obtain ⟨a, c⟩ := p
 obtain ⟨h1, h2⟩ := h
 have ha : (0 : Int) ≤ a ∧ a ≤ 4611686018427387904 := ⟨h1.1, Int.le_trans h1.2 (by decide)⟩
 dsimp only at h2
 obtain ⟨e, hl⟩ := datS_tlv a c ha (by omega)
 refine ⟨by rw [e]; exact tlv_ne, datP_at a c ha (by omega), ?_⟩
 rw [e, tlv_length]
 have := lenS_len (sufS [intS a, elemS 4 [c]] 0 2).length
 omega
theorem dataS_tlv {l : List Pre} (h : vPre l = true) : dataS l = tlv 48 (l.map datS).flatten ∧ (l.map datS).flatten.length ≤ 16434 * l.length := by
 obtain ⟨h16, hv⟩ := vPre_f h
 have hb : (l.map datS).flatten.length ≤ 16434 * l.length := flat_len datS 16434 l fun x hx => (dat_ok (hv x hx)).2.2
 have hm : mapN (t := PreT) datS l l.length = l.map datS := by unfold mapN; rw [List.take_length]
 refine ⟨?_, hb⟩
 unfold dataS wholeS
 rw [if_pos h16, hm, List.length_map, if_pos, elemS_flat (by omega)]
 refine allN_true fun j hj => decide_eq_true ?_
 rw [List.getD_eq_getElem?_getD, List.getElem?_eq_getElem (by rw [List.length_map]; exact hj), List.getElem_map]
 exact (dat_ok (hv _ (List.getElem_mem hj))).1
theorem dataP_ok {l : List Pre} (h : vPre l = true) (r : List UInt8) : dataP (dataS l ++ r) = .ok (l, (dataS l).length) := by
 obtain ⟨h16, hv⟩ := vPre_f h
 obtain ⟨e, hl⟩ := dataS_tlv h
 rw [e]
 exact inP_tlv (by omega) (listP_ok l 16 h16 fun s hs => ⟨(dat_ok (hv s hs)).1, (dat_ok (hv s hs)).2.1⟩) r
def preO (l : List Pre) : List UInt8 := if l.length = 0 then [] else dataS l
theorem preS_eq (n : Int) (l : List Pre) : preS n l = wrapS 160 n (preO l) := by
 unfold preS optS preO
 by_cases h : l.length = 0
 · rw [if_pos h, decide_eq_false (by omega)]; simp [wrapS]
 · rw [if_neg h, decide_eq_true (by omega)]; rfl
theorem pre_q {l : List Pre} (h : vPre l = true) : (if preO l = [] then l = [] else dataP (preO l) = .ok (l, (preO l).length)) ∧ (preO l).length ≤ 262960 := by
 obtain ⟨h16, hv⟩ := vPre_f h
 obtain ⟨e, hl⟩ := dataS_tlv h
 unfold preO
 by_cases h0 : l.length = 0
 · simp [h0, List.length_eq_zero_iff.1 h0]
 · rw [if_neg h0, if_neg (by rw [e]; exact tlv_ne)]
   refine ⟨full (dataP_ok h), ?_⟩
   rw [e, tlv_length]
   have := lenS_len (l.map datS).flatten.length
   omega
def optN (p : Prin) : List UInt8 := if noN p then [] else prinE p
theorem noN_z {p : Prin} (h : noN p = true) : p = zP := by
 obtain ⟨l, r⟩ := p
 simp only [noN, Bool.and_eq_true, decide_eq_true_eq] at h
 obtain ⟨h1, h2⟩ := h
 rw [show l = [] from List.length_eq_zero_iff.1 h1, show r = ⟨#[]⟩ from h2]; rfl
theorem optN_q {p : Prin} (h : noN p = true ∨ vPrin p = true) : (if optN p = [] then p = zP else nameP (optN p) = .ok (p, (optN p).length)) ∧ (optN p).length ≤ 205 := by
 unfold optN
 cases hn : noN p with
 | true => simp [noN_z hn]
 | false =>
  have hv : vPrin p = true := h.resolve_left (by rw [hn]; decide)
  obtain ⟨p0, p1, p2⟩ := nameP_ok hv
  rw [show (if false = true then ([] : List UInt8) else prinE p) = prinE p from rfl, if_neg p2]
  exact ⟨full p0, p1⟩
def failL (f : Fail) : List (List UInt8) := [intS 5, intS 30, timeS f.2.1, intS f.2.2.1, intS f.1, optN f.2.2.2.1, prinE f.2.2.2.2.1, txtO f.2.2.2.2.2.1, preO f.2.2.2.2.2.2]
theorem optS_eq (n : Int) (c : Bool) (w : List UInt8) : optS n (!c) w = wrapS 160 n (if c then [] else w) := by
 unfold optS; cases c <;> simp [wrapS]
theorem failS_eq (f : Fail) : failS f = wrapS 96 30 (tagS (failL f)) := by
 unfold failS tagS
 congr 2
 rw [preS_eq, optS_eq, show optS 7 (!decide (f.2.2.2.2.2.1 = ⟨#[]⟩)) (elemS 27 [f.2.2.2.2.2.1.data.toList]) = wrapS 160 7 (txtO f.2.2.2.2.2.1) from by rw [optS_eq]; unfold txtO; simp]
 show _ = tagN (failL f) 9
 simp [tagN, List.range_succ, failL, optN]
theorem faIn_at {L : List (List UInt8)} {t : Nat} {m c : Int} {p s : Prin} {x : ByteArray} {d : List Pre} (hL : ∀ j, (L.getD j []).length ≤ 16777215)
 (n0 : L.getD 0 [] ≠ []) (q0 : cstP 5 (L.getD 0 []) = .ok ((), (L.getD 0 []).length))
 (n1 : L.getD 1 [] ≠ []) (q1 : cstP 30 (L.getD 1 []) = .ok ((), (L.getD 1 []).length))
 (n2 : L.getD 2 [] ≠ []) (q2 : timeP (L.getD 2 []) = .ok (t, (L.getD 2 []).length))
 (n3 : L.getD 3 [] ≠ []) (q3 : intP (L.getD 3 []) = .ok (m, (L.getD 3 []).length))
 (n4 : L.getD 4 [] ≠ []) (q4 : intP (L.getD 4 []) = .ok (c, (L.getD 4 []).length))
 (q5 : if L.getD 5 [] = [] then p = zP else nameP (L.getD 5 []) = .ok (p, (L.getD 5 []).length))
 (n6 : L.getD 6 [] ≠ []) (q6 : nameP (L.getD 6 []) = .ok (s, (L.getD 6 []).length))
 (q7 : if L.getD 7 [] = [] then x = ⟨#[]⟩ else strP (L.getD 7 []) = .ok (x, (L.getD 7 []).length))
 (q8 : if L.getD 8 [] = [] then d = [] else dataP (L.getD 8 []) = .ok (d, (L.getD 8 []).length)) :
 faIn (sufS L 0 9) = .ok ((c, ((t : Nat) : Int), m, p, s, x, d), (sufS L 0 9).length) := by
 unfold faIn
 refine bind_suf (n := 0) (k := 8) (need_suf hL (by omega) n0 q0) ?_
 refine bind_suf (n := 1) (k := 7) (need_suf hL (by omega) n1 q1) ?_
 refine bind_suf (n := 2) (k := 6) (need_suf hL (by omega) n2 q2) ?_
 refine bind_suf (n := 3) (k := 5) (need_suf hL (by omega) n3 q3) ?_
 refine bind_suf (n := 4) (k := 4) (need_suf hL (by omega) n4 q4) ?_
 refine bind_suf (n := 5) (k := 3) (dflt_suf hL (by omega) q5) ?_
 refine bind_suf (n := 6) (k := 2) (need_suf hL (by omega) n6 q6) ?_
 refine bind_suf (n := 7) (k := 1) (dflt_suf (p := strP) (d := (⟨#[]⟩ : ByteArray)) (v := x) hL (by omega) q7) ?_
 refine bind_suf (n := 8) (k := 0) (dflt_suf hL (by omega) q8) ?_
 rfl
theorem fail_fields {f : Fail} (h : sFail f = true) : f.2.2.2.2.2.1.size ≤ 256 ∧ ((0 : Int) ≤ f.1 ∧ f.1 ≤ (65535 : Int)) ∧ ((0 : Int) ≤ f.2.1 ∧ f.2.1 ≤ (1099511627776 : Int)) ∧ ((0 : Int) ≤ f.2.2.1 ∧ f.2.2.1 ≤ (999999 : Int)) ∧ (noN f.2.2.2.1 = true ∨ vPrin f.2.2.2.1 = true) ∧ vPrin f.2.2.2.2.1 = true ∧ vPre f.2.2.2.2.2.2 = true := by
 simp only [sFail, vTime, mIn, Bool.and_eq_true, Bool.or_eq_true, decide_eq_true_eq] at h
 obtain ⟨h1, _, h2, h3, h4, h5, h6, h7⟩ := h
 exact ⟨by omega, h2, h3, h4, h5, h6, h7⟩
theorem cst_ok {v : Int} (h : 0 ≤ v ∧ v ≤ 4611686018427387904) : cstP v (intS v) = .ok ((), (intS v).length) := by
 unfold cstP
 rw [full (intP_ok h)]
 simp
theorem intS_ne {v : Int} (h : 0 ≤ v ∧ v ≤ 4611686018427387904) : intS v ≠ [] := by
 obtain ⟨c1, e1, _⟩ := intS_i h
 rw [e1]; exact tlv_ne
theorem failP_at (f : Fail) (hv : sFail f = true) :
 failS f = tlv (appB 30) (tlv 48 (sufS (failL f) 0 9)) ∧ (∀ j, ((failL f).getD j []).length ≤ 16777215) ∧ (sufS (failL f) 0 9).length ≤ 1048576 ∧ ∀ r, failP (failS f ++ r) = .ok (f, (failS f).length) := by
 obtain ⟨f7, f4, f2, f3, f5, f6, f8⟩ := fail_fields hv
 have hE := failS_eq f
 clear hv
 obtain ⟨c, t, m, p, s, x, d⟩ := f
 dsimp only at *
 change Int at c t m
 change ByteArray at x
 have z4 : (0 : Int) ≤ c ∧ c ≤ 4611686018427387904 := ⟨f4.1, Int.le_trans f4.2 (by decide)⟩
 have z3 : (0 : Int) ≤ m ∧ m ≤ 4611686018427387904 := ⟨f3.1, Int.le_trans f3.2 (by decide)⟩
 have z7 : x.size ≤ 16777215 := Nat.le_trans f7 (by decide)
 obtain ⟨t, rfl, g2⟩ := nat_of (t := t) f2
 obtain ⟨p5, p5l⟩ := optN_q f5
 obtain ⟨p6, p6l, p6n⟩ := nameP_ok f6
 obtain ⟨p8, p8l⟩ := pre_q f8
 have n2 : timeS (t : Int) ≠ [] := by rw [timeS_tlv (by omega)]; exact tlv_ne
 have p2 := full (timeP_ok g2)
 have l0 := intS_len 5
 have l1 := intS_len 30
 have l2 : (timeS (t : Int)).length ≤ 11 := by
  rw [timeS_tlv (by omega), tlv_length, numS_length]; decide
 have l3 := intS_len m
 have l4 := intS_len c
 have l7 := txtO_le x
 have hL : ∀ j, ((failL (c, (t : Int), m, p, s, x, d)).getD j []).length ≤ 16777215 := fun j => by
  match j with
  | 0 => show (intS 5).length ≤ _; omega
  | 1 => show (intS 30).length ≤ _; omega
  | 2 => show (timeS (t : Int)).length ≤ _; omega
  | 3 => show (intS m).length ≤ _; omega
  | 4 => show (intS c).length ≤ _; omega
  | 5 => exact Nat.le_trans p5l (by omega)
  | 6 => exact Nat.le_trans p6l (by omega)
  | 7 => show (txtO x).length ≤ _; omega
  | 8 => exact Nat.le_trans p8l (by omega)
  | j + 9 => exact Nat.zero_le _
 have hs : (sufS (failL (c, (t : Int), m, p, s, x, d)) 0 9).length ≤ 1048576 := by
  refine Nat.le_trans (sufS_le 9 0) ?_
  show (intS 5).length + 5 + ((intS 30).length + 5 + ((timeS (t : Int)).length + 5 + ((intS m).length + 5 + ((intS c).length + 5 + ((optN p).length + 5 + ((prinE s).length + 5 + ((txtO x).length + 5 + ((preO d).length + 5 + 0)))))))) ≤ _
  omega
 have hT : tagS (failL (c, (t : Int), m, p, s, x, d)) = tlv 48 (sufS (failL (c, (t : Int), m, p, s, x, d)) 0 9) := tagS_tlv (l := failL (c, (t : Int), m, p, s, x, d)) (Nat.le_trans hs (by decide))
 have hl48 : (tlv 48 (sufS (failL (c, (t : Int), m, p, s, x, d)) 0 9)).length ≤ 1048590 := by
  rw [tlv_length]; have := lenS_len (sufS (failL (c, (t : Int), m, p, s, x, d)) 0 9).length; omega
 have hS : failS (c, (t : Int), m, p, s, x, d) = tlv (appB 30) (tlv 48 (sufS (failL (c, (t : Int), m, p, s, x, d)) 0 9)) := by
  rw [hE, hT]
  unfold wrapS
  rw [if_pos ⟨by decide, by decide, tlv_ne⟩, elemS_ok (by omega)]
  rfl
 have hin := faIn_at (t := t) (m := m) (c := c) (p := p) (s := s) (x := x) (d := d) hL (intS_ne (v := 5) (by decide)) (cst_ok (by decide)) (intS_ne (v := 30) (by decide)) (cst_ok (by decide)) n2 p2 (intS_ne z3) (full (intP_ok z3)) (intS_ne z4) (full (intP_ok z4)) p5 p6n (full p6) (txtO_q z7) p8
 refine ⟨hS, hL, hs, fun r => ?_⟩
 rw [hS]
 exact inP_tlv (by omega) (full (inP_tlv (by omega) hin)) r
theorem decF_of {b : List UInt8} {f : Fail} (h : vFail f = true) (he : failS f = b) : decF b = some f := by
 subst he
 unfold vFail at h
 rw [Bool.and_eq_true, decide_eq_true_eq] at h
 have := full (failP_at f h.1).2.2.2
 unfold decF decFail allP
 rw [if_pos h.2, this]
 simp [h.1]
theorem decF_some {b : List UInt8} {f : Fail} (h : decF b = some f) : vFail f = true ∧ failS f = b := by
 unfold decF at h
 split at h
 · unfold decFail at h
   split at h
   · split at h
     · rename_i hl _ _ _ h2
       cases h
       refine ⟨?_, h2.2⟩
       unfold vFail
       rw [Bool.and_eq_true, decide_eq_true_eq, h2.2]
       exact ⟨h2.1, hl⟩
     · cases h
   · cases h
 · cases h
end Go.Proofs.YtmegaleepkmadaaGreatDoor

/- Contracts: the reference's error messages: what is valid, and their encoding. -/
namespace Go.Proofs.YtmegaleepkmadaaGreatDoor
open Go Go.Sx Go.Proofs
set_option maxRecDepth 100000
set_option maxHeartbeats 4000000
set_option linter.unusedSimpArgs false

theorem rempty_c (p : Prin) : PC Tryz.prog 26 [.agg (PrinT.cells p)] (rB (noN p)) := by
 refine pc_of rfl rfl ?_
 refine runE mixed fi26 ?_
 grind [noN]
theorem rIn_c (v lo hi : Int) : PC Tryz.prog 24 [rI v, rI lo, rI hi] (rB (mIn lo hi v)) := rin_c v lo hi
theorem rmoment_c (t m : Int) : PC Tryz.prog 25 [rI t, rI m, rI 0] (rB (mIn 0 1099511627776 t && mIn 0 999999 m)) := by
 refine pc_of rfl rfl ?_
 refine runE mixed fi25 ?_ <;> try with_reducible exact True.intro
 repeat' (first
  | (refine callI_pure (rIn_c _ _ _) ?_; refine run_sound mixed 600 _ ?_; simp (maxSteps := 3000000) only [go_sem, ↓zA, ↓reduceIte, ↓reduceDIte, reduceCtorEq, Nat.reduceAdd, Nat.reduceSub, Nat.reduceLeDiff, Nat.reduceLT, Nat.reduceEqDiff, Nat.reduceBEq, Nat.reduceMul, Int.reduceToNat, Int.reduceEq, Int.reduceLT, Int.reduceLE] <;> try simp only [zB])
  | (refine callR_pure (rIn_c _ _ _) ?_; refine run_sound mixed 600 _ ?_; simp (maxSteps := 3000000) only [go_sem, ↓zA, ↓reduceIte, ↓reduceDIte, reduceCtorEq, Nat.reduceAdd, Nat.reduceSub, Nat.reduceLeDiff, Nat.reduceLT, Nat.reduceEqDiff, Nat.reduceBEq, Nat.reduceMul, Int.reduceToNat, Int.reduceEq, Int.reduceLT, Int.reduceLE] <;> try simp only [zB])
  | (refine callF_pure (rIn_c _ _ _) ?_; refine run_sound mixed 600 _ ?_; simp (maxSteps := 3000000) only [go_sem, ↓zA, ↓reduceIte, ↓reduceDIte, reduceCtorEq, Nat.reduceAdd, Nat.reduceSub, Nat.reduceLeDiff, Nat.reduceLT, Nat.reduceEqDiff, Nat.reduceBEq, Nat.reduceMul, Int.reduceToNat, Int.reduceEq, Int.reduceLT, Int.reduceLE] <;> try simp only [zB])
  | (with_reducible refine And.intro ?_ ?_)
  | (with_reducible intro _))
 all_goals ((simp_all [mIn]; try omega))
theorem rvpre_c (l : List Pre) (hl : l.length ≤ 1125899906842624) : PC Tryz.prog 28 [.isl PreT l] (rB (vPre l)) := by
 have hd : vPre l = (decide ((l.length : Int) ≤ 16) && allN l.length (preAt l)) := rfl
 refine pc_of rfl rfl ?_
 refine runE mixed fi28 ?_
 refine si_cntD (fun i => [(3, .raw (.int .i64 ((i : Nat) : Int)))]) (l.length) (fun j => (preAt l) j = true) (by first | decide | simp) (fun i => rfl) ?_ fun i hi hall => ?_
 · (with_reducible refine sxE ?_ <;> try exact True.intro)
   all_goals (try rfl)
 have hwr : IntKind.i64.wrap ((i : Int) + 1) = ((i + 1 : Nat) : Int) := wrap_succ (by omega)
 refine goE mixed ?_
 have bad : i < (l.length) → (preAt l) i = false → allN (l.length) (preAt l) = false := fun hlt hv => allN_false hlt hv
 have fin : ¬ i < (l.length) → allN (l.length) (preAt l) = true := fun h => allN_true fun j hj => hall j (by omega)
 try dsimp only at bad fin hall
 repeat' (first
  | (refine callI_pure (rIn_c _ _ _) ?_; refine run_sound mixed 600 _ ?_; simp (maxSteps := 3000000) only [go_sem, ↓zA, ↓reduceIte, ↓reduceDIte, reduceCtorEq, Nat.reduceAdd, Nat.reduceSub, Nat.reduceLeDiff, Nat.reduceLT, Nat.reduceEqDiff, Nat.reduceBEq, Nat.reduceMul, Int.reduceToNat, Int.reduceEq, Int.reduceLT, Int.reduceLE] <;> try simp only [zB])
  | (refine callR_pure (rIn_c _ _ _) ?_; refine run_sound mixed 600 _ ?_; simp (maxSteps := 3000000) only [go_sem, ↓zA, ↓reduceIte, ↓reduceDIte, reduceCtorEq, Nat.reduceAdd, Nat.reduceSub, Nat.reduceLeDiff, Nat.reduceLT, Nat.reduceEqDiff, Nat.reduceBEq, Nat.reduceMul, Int.reduceToNat, Int.reduceEq, Int.reduceLT, Int.reduceLE] <;> try simp only [zB])
  | (refine callF_pure (rIn_c _ _ _) ?_; refine run_sound mixed 600 _ ?_; simp (maxSteps := 3000000) only [go_sem, ↓zA, ↓reduceIte, ↓reduceDIte, reduceCtorEq, Nat.reduceAdd, Nat.reduceSub, Nat.reduceLeDiff, Nat.reduceLT, Nat.reduceEqDiff, Nat.reduceBEq, Nat.reduceMul, Int.reduceToNat, Int.reduceEq, Int.reduceLT, Int.reduceLE] <;> try simp only [zB])
  | (with_reducible refine And.intro ?_ ?_)
  | (with_reducible intro _))
 all_goals (first | (with_reducible (refine (id ?_ : SoundI _ _ _))) | ((try simp only [Ty.dflt] at *); first | omega | (refine ⟨by omega, next_all hall (by grind [preAt, vPre1]), ⟨_, by first | rfl | exact List.append_assoc _ _ _ | (simp only [List.append_assoc, List.cons_append, List.nil_append]; rfl)⟩, ?_⟩; simp only [hwr, go_sem, ↓zA, ↓reduceIte, ↓reduceDIte, reduceCtorEq, Nat.reduceAdd, Nat.reduceSub, Nat.reduceLeDiff, Nat.reduceLT, Nat.reduceEqDiff, Nat.reduceBEq, Nat.reduceMul, Int.reduceToNat, Int.reduceEq, Int.reduceLT, Int.reduceLE] <;> (first | rfl | (grind [preAt, vPre1]))) | (refine ⟨_, rfl⟩) | (refine ⟨_, List.append_assoc _ _ _⟩) | (grind [preAt, vPre1])))
def preR2 (l : List Pre) : List UInt8 := if l.length = 0 then [] else dataR l
theorem rpre_c (l : List Pre) (h : shD l) : PC Tryz.prog 47 [.isl PreT l] (.isl .u8 (preR2 l)) := by
 have hl := h.1
 have hd : preR2 l = if decide ((l.length : Int) = 0) = true then [] else dataR l := by unfold preR2; simp
 rw [hd]
 refine pc_seal rfl rfl ?_
 refine runE mixed fi47 ?_
 refine si_accN 3 PreT (fun i => l.take i) (fun i => [(4, rI i)]) l.length (fun _ => True) rfl (by simp) (by simp) rfl (fun i => rfl) ?_ fun i hi _ => ?_
 · with_reducible refine sxE ?_; trivial
 have hwr : IntKind.i64.wrap ((i : Int) + 1) = ((i + 1 : Nat) : Int) := wrap_succ (by omega)
 have hln : (l.take i).length = i := List.length_take_of_le hi
 by_cases hlt : i < l.length
 · have hst := take_succ_getD (d := PreT.dflt) hlt
   refine goE mixed ?_
   refine ⟨fun _ => ⟨⟨by omega, hlt⟩, ⟨by omega, hlt⟩, ⟨by omega, by omega⟩, acc_next [_, _] [] hlt trivial (by rw [hst]; rfl) ?_⟩, fun h => absurd hlt h⟩
   with_reducible refine sx3 hwr hst ?_; trivial
 · obtain rfl : i = l.length := by omega
   have hall : l.take l.length = l := List.take_length
   rw [hall]
   rw [hall] at hln
   refine si_freeze 0 rfl rfl (by omega) ?_ ?_ ?_
   · with_reducible refine sxE ?_; trivial
   · with_reducible refine sxE ?_
     exact Nat.le_refl _
   with_reducible refine sxE ?_
   rw [List.take_of_length_le (Nat.le_refl _)]
   refine goE mixed ?_
   refine ⟨fun h => absurd h hlt, fun _ => callI_pure (rdata_a l h) ?_⟩
   refine goE mixed ?_
   refine callI_pure (runless_c _ _) ?_
   refine goE mixed ?_; trivial
def shF (f : Fail) : Prop := (-9223372036854775808 ≤ (f.1 : Int) ∧ (f.1 : Int) ≤ 9223372036854775807) ∧ (-9223372036854775808 ≤ (f.2.2.1 : Int) ∧ (f.2.2.1 : Int) ≤ 9223372036854775807) ∧ shP f.2.2.2.1 ∧ shP f.2.2.2.2.1 ∧ f.2.2.2.2.2.1.size ≤ 1000 ∧ shD f.2.2.2.2.2.2
def failR (f : Fail) : List (List UInt8) := [wrapS 160 0 (intS 5), wrapS 160 1 (intS 30), wrapS 160 2 (timR f.2.1), wrapS 160 3 (intR f.2.2.1), wrapS 160 4 (intR f.1), wrapS 160 5 (if noN f.2.2.2.1 = true then [] else prinS f.2.2.2.1), wrapS 160 6 (prinS f.2.2.2.2.1), wrapS 160 7 (if f.2.2.2.2.2.1 = ⟨#[]⟩ then [] else elemS 27 [f.2.2.2.2.2.1.data.toList]), wrapS 160 8 (preR2 f.2.2.2.2.2.2)]
theorem preR2_len {l : List Pre} (h : shD l) : (preR2 l).length ≤ 525740 := by
 have := dataR_len h
 unfold preR2; split <;> first | (simp; done) | omega
theorem failR_fl {f : Fail} (h : shF f) : (failR f).flatten.length ≤ 800000 := by
 obtain ⟨_, _, h4, h5, h6, h7⟩ := h
 have l2 := timR_len f.2.1
 have l3 := intR_len f.2.2.1
 have l4 := intR_len f.1
 have l5 := prinS_sh h4
 have l6 := prinS_sh h5
 have l7 := elemS_len 27 [f.2.2.2.2.2.1.data.toList]
 have l7' : f.2.2.2.2.2.1.data.toList.length = f.2.2.2.2.2.1.size := by simp
 simp only [List.flatten_cons, List.flatten_nil, List.append_nil] at l7
 have l8 := preR2_len h7
 have w0 := wrapS_len 160 0 (intS 5)
 have w1 := wrapS_len 160 1 (intS 30)
 have w2 := wrapS_len 160 2 (timR f.2.1)
 have w3 := wrapS_len 160 3 (intR f.2.2.1)
 have w4 := wrapS_len 160 4 (intR f.1)
 have w5 := wrapS_len 160 5 (if noN f.2.2.2.1 = true then [] else prinS f.2.2.2.1)
 have w6 := wrapS_len 160 6 (prinS f.2.2.2.2.1)
 have w7 := wrapS_len 160 7 (if f.2.2.2.2.2.1 = ⟨#[]⟩ then [] else elemS 27 [f.2.2.2.2.2.1.data.toList])
 have w8 := wrapS_len 160 8 (preR2 f.2.2.2.2.2.2)
 have l0 := intS_len 5
 have l1 := intS_len 30
 have x5 : (if noN f.2.2.2.1 = true then ([] : List UInt8) else prinS f.2.2.2.1).length ≤ 65400 := by split <;> first | (simp; done) | omega
 have x7 : (if f.2.2.2.2.2.1 = ⟨#[]⟩ then ([] : List UInt8) else elemS 27 [f.2.2.2.2.2.1.data.toList]).length ≤ 1100 := by split <;> first | (simp; done) | omega
 unfold failR
 simp only [List.flatten_cons, List.flatten_nil, List.append_nil, List.length_append]
 omega
def faiR (f : Fail) : List UInt8 := elemS (byteOf (96 + 30)) [elemS 48 (failR f)]
theorem renc_c (f : Fail) (h : shF f) : PC Tryz.prog 12 [.agg (FailT.cells f)] (.isl .u8 (faiR f)) := by
 have hfl := failR_fl h
 have hf : faiR f = elemS (byteOf (96 + 30)) [elemS 48 (failR f)] := rfl
 have hr : failR f = [wrapS 160 0 (intS 5), wrapS 160 1 (intS 30), wrapS 160 2 (timR f.2.1), wrapS 160 3 (intR f.2.2.1), wrapS 160 4 (intR f.1), wrapS 160 5 (if noN f.2.2.2.1 = true then [] else prinS f.2.2.2.1), wrapS 160 6 (prinS f.2.2.2.2.1), wrapS 160 7 (if f.2.2.2.2.2.1 = ⟨#[]⟩ then [] else elemS 27 [f.2.2.2.2.2.1.data.toList]), wrapS 160 8 (preR2 f.2.2.2.2.2.2)] := rfl
 obtain ⟨h1, h2, h4, h5, h6, h7⟩ := h
 have l2 := timR_len f.2.1
 have l3 := intR_len f.2.2.1
 have l4 := intR_len f.1
 have l5 := prinS_sh h4
 have l6 := prinS_sh h5
 have l7 := elemS_len 27 [f.2.2.2.2.2.1.data.toList]
 have l7' : f.2.2.2.2.2.1.data.toList.length = f.2.2.2.2.2.1.size := by simp
 simp only [List.flatten_cons, List.flatten_nil, List.append_nil] at l7
 have l8 := preR2_len h7
 have l0 := intS_len 5
 have l1 := intS_len 30
 have x5 : (if noN f.2.2.2.1 = true then ([] : List UInt8) else prinS f.2.2.2.1).length ≤ 65400 := by split <;> first | (simp; done) | omega
 have x7 : (if f.2.2.2.2.2.1 = ⟨#[]⟩ then ([] : List UInt8) else elemS 27 [f.2.2.2.2.2.1.data.toList]).length ≤ 1100 := by split <;> first | (simp; done) | omega
 have g := elemS_len 48 (failR f)
 generalize faiR f = R at *
 generalize failR f = L at *
 obtain ⟨c, t, m, p, s, x, d⟩ := f
 dsimp only at *
 refine pc_seal rfl rfl ?_
 refine runE mixed fi12 ?_
 refine callR_pure (rint_i 5 (by decide)) ?_
 refine goE mixed ?_
 refine callR_pure (rtag_c 0 (by decide) _ (by omega)) ?_
 refine goE mixed ?_
 refine callR_pure (rint_i 30 (by decide)) ?_
 refine goE mixed ?_
 refine callR_pure (rtag_c 1 (by decide) _ (by omega)) ?_
 refine goE mixed ?_
 refine callR_pure (rtime_a t) ?_
 refine goE mixed ?_
 refine callR_pure (rtag_c 2 (by decide) _ (by omega)) ?_
 refine goE mixed ?_
 refine callR_pure (rint_a m h2) ?_
 refine goE mixed ?_
 refine callR_pure (rtag_c 3 (by decide) _ (by omega)) ?_
 refine goE mixed ?_
 refine callR_pure (rint_a c h1) ?_
 refine goE mixed ?_
 refine callR_pure (rtag_c 4 (by decide) _ (by omega)) ?_
 refine goE mixed ?_
 refine callR_pure (rempty_c p) ?_
 refine goE mixed ?_
 refine callR_pure (rprin_a p h4) ?_
 refine goE mixed ?_
 refine callR_pure (runless_c _ _) ?_
 refine goE mixed ?_
 refine callR_pure (rtag_c 5 (by decide) _ (by omega)) ?_
 refine goE mixed ?_
 refine callR_pure (rprin_a s h5) ?_
 refine goE mixed ?_
 refine callR_pure (rtag_c 6 (by decide) _ (by omega)) ?_
 refine goE mixed ?_
 refine callR_pure (rstr_c x (by omega)) ?_
 refine goE mixed ?_
 refine callR_pure (runless_c _ _) ?_
 refine goE mixed ?_
 refine callR_pure (rtag_c 7 (by decide) _ (by omega)) ?_
 refine goE mixed ?_
 refine callR_pure (rpre_c d h7) ?_
 refine goE mixed ?_
 refine callR_pure (rtag_c 8 (by decide) _ (by omega)) ?_
 refine goE mixed ?_
 refine callR_hand 1 (by decide) ?_
 with_reducible refine sxE ?_
 rw [← hr]
 refine callR_pure (rseq_c _ (by rw [hr]; simp) (by omega)) ?_
 refine goE mixed ?_
 refine callR_pure (rapp_c 30 (by decide) _ (by omega)) ?_
 refine goE mixed ?_
 exact hf.symm
end Go.Proofs.YtmegaleepkmadaaGreatDoor

