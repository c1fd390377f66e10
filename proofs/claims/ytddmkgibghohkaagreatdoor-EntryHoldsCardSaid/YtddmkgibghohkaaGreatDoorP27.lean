/- Contracts: reading a key set. -/
import Derived.Test.YtddmkgibghohkaaGreatDoorP26
import Derived.Test.YtddmkgibghohkaaGreatDoorPKn
set_option linter.unusedSimpArgs false
set_option linter.unusedVariables false
namespace Go.Proofs.YtddmkgibghohkaaGreatDoor
open Go Go.Sx Go.Proofs
set_option maxRecDepth 100000
set_option maxHeartbeats 4000000
set_option linter.unusedSimpArgs false

theorem bind_xe {α β : Type} {p : PR α} {f : α → PR β} {b : List UInt8} {n N : Nat} {X : Except Nat (β × Nat)} {e : Nat} (hX : X = shiftP N (bindP p f (b.drop n))) (h : p (b.drop n) = .error e) : X = .error e := by
 rw [hX, bindP_er h]; rfl
theorem bind_xo {α β : Type} {p : PR α} {f : α → PR β} {b : List UInt8} {n N : Nat} {X : Except Nat (β × Nat)} {v : α} {k : Nat} (hX : X = shiftP N (bindP p f (b.drop n))) (h : p (b.drop n) = .ok (v, k)) : X = shiftP (N + k) (f v (b.drop (n + k))) := by
 rw [hX, bindP_st h]
 cases f v (b.drop (n + k)) with
 | error e => rfl
 | ok y => obtain ⟨u, m⟩ := y; simp only [shiftP, Nat.add_assoc]
theorem bind_x0 {α : Type} {p : PR α} {b : List UInt8} {n : Nat} : p (b.drop n) = shiftP 0 (p (b.drop n)) := by
 cases p (b.drop n) with
 | error e => rfl
 | ok y => obtain ⟨u, m⟩ := y; simp only [shiftP, Nat.zero_add]
theorem set11_c (b : List UInt8) (n : Nat) (hn : n ≤ b.length) (hb : b.length ≤ 1099511627776) (v : Int) (ks : List Key) (t : ByteArray) (m : Int) (x : Value) :
 Eff Tryz.prog 231 [.agg [.ptr 0 0], .ptr 1 0] b n [.cells 34 [rI v, .isl KeyT ks, rS t, rI m, .raw x]] (fun _ => .tup []) (fun w => [.cells 34 [rI v, .isl KeyT ks, rS t, rI m, rI ((w : Nat) : Int)]]) (timeP (b.drop n)) := by
 cases hx : timeP (b.drop n) with
 | error e =>
  have hr := rtime_er b n hn hb hx
  refine pe_seal (by simp) ?_
  refine runE mixed fi231 ?_
  refine effE mixed [0] (hr) ?_
  refine effP [] (take_er_int _ e (rdP_ne hx)) ?_; trivial
 | ok x =>
  obtain ⟨v, k⟩ := x
  have hr := rtime_ok b n hn hb hx
  refine pe_seal (by simp) ?_
  refine runE mixed fi231 ?_
  refine effE mixed [0] (hr) ?_
  refine callI_pure (take_int _) ?_
  refine goE mixed ?_; trivial
theorem set1_c (b : List UInt8) (n : Nat) (hn : n ≤ b.length) (hb : b.length ≤ 1099511627776) :
 Eff Tryz.prog 228 [.agg [.ptr 0 0], .ptr 1 0] b n [.cells 34 [rI 0, .raw (.slice none 0 0), rS ⟨#[]⟩, rI 0, rI 0]] (fun _ => .tup []) (fun s : KSet => [.cells 34 (SetT.cells s)]) (setIn (b.drop n)) := by
 refine eff_of (fun _ => Nat.le_refl _) ?_
 obtain ⟨X, hX0⟩ : ∃ X, X = setIn (b.drop n) := ⟨_, rfl⟩
 rw [← hX0]
 have hX := hX0.trans bind_x0
 clear hX0
 unfold setIn at hX
 refine runE mixed fi228 ?_
 have cS : ∀ (v : Int) (ks : List Key) (t : ByteArray) (m w : Int), Cln [rI v, .isl KeyT ks, rS t, rI m, rI w] := fun _ _ _ _ _ => cln_raw (cln_isl (cln_raw (cln_raw (cln_raw cln_nil))))
 have c1 := eint_c 0 (by omega) b n hn hb
 rcases h1 : dfltP (0 : Int) 0 intP (b.drop (n)) with e | ⟨v1, k1⟩
 · have c1' := eff_er c1 h1
   obtain rfl := bind_xe hX h1
   refine effP [0] (c1') ?_; trivial
 replace hX := bind_xo hX h1
 have c1' := eff_ok c1 h1
 have f1 := fits_at dfltP_fits hn h1
 refine effE mixed [0] (c1') ?_
 have c2 := mlist_key 230 keyP inP_fits 1 (by omega) 4 (by omega) b (n + k1) f1 hb (fun c v q hc h => okP_key c v q hc h) (fun c m hm hc => ekey_c c m hm hc)
 rcases h2 : dfltP [] 1 (inP 48 (listP keyP 4)) (b.drop (n + k1)) with e | ⟨v2, k2⟩
 · have c2' := eff_er c2 h2
   obtain rfl := bind_xe hX h2
   refine effP [0] (c2') ?_; trivial
 replace hX := bind_xo hX h2
 have c2' := eff_ok c2 h2
 have f2 := fits_at dfltP_fits f1 h2
 refine effE mixed [0] (c2') ?_
 have c3 := estr_c 2 (by omega) b (n + k1 + k2) f2 hb
 rcases h3 : dfltP ⟨#[]⟩ 2 strP (b.drop (n + k1 + k2)) with e | ⟨v3, k3⟩
 · have c3' := eff_er c3 h3
   obtain rfl := bind_xe hX h3
   refine effP [0] (c3') ?_; trivial
 replace hX := bind_xo hX h3
 have c3' := eff_ok c3 h3
 have f3 := fits_at dfltP_fits f2 h3
 refine effE mixed [0] (c3') ?_
 have c4 := eint_c 3 (by omega) b (n + k1 + k2 + k3) f3 hb
 rcases h4 : dfltP (0 : Int) 3 intP (b.drop (n + k1 + k2 + k3)) with e | ⟨v4, k4⟩
 · have c4' := eff_er c4 h4
   obtain rfl := bind_xe hX h4
   refine effP [0] (c4') ?_; trivial
 replace hX := bind_xo hX h4
 have c4' := eff_ok c4 h4
 have f4 := fits_at dfltP_fits f3 h4
 refine effE mixed [0] (c4') ?_
 have c5 := need1 231 4 (by omega) b (n + k1 + k2 + k3 + k4) f4 hb 34 _ (cS v1 v2 v3 v4 0) timeP rdP_fits _ (fun w => cS v1 v2 v3 v4 ((w : Nat) : Int)) (set11_c (takeC (b.drop _)) 0 (Nat.zero_le _) (tkC_le hb) v1 v2 v3 v4 _)
 rcases h5 : needP 4 timeP (b.drop (n + k1 + k2 + k3 + k4)) with e | ⟨v5, k5⟩
 · have c5' := eff_er c5 h5
   obtain rfl := bind_xe hX h5
   refine effP [0, 1] (c5') ?_; trivial
 replace hX := bind_xo hX h5
 have c5' := eff_ok c5 h5
 have f5 := fits_at needP_fits f4 h5
 refine effE mixed [0, 1] (c5') ?_
 subst hX
 simp only [shiftP, retP]
 with_reducible refine sxE ?_
 exact congrArg (Value.int .i64) (by omega)
theorem setIn_fits : FitsP setIn := bindP_fits dfltP_fits fun _ => bindP_fits dfltP_fits fun _ => bindP_fits dfltP_fits fun _ => bindP_fits dfltP_fits fun _ => bindP_fits needP_fits fun _ => retP_fits
theorem eset_c (b : List UInt8) (n : Nat) (hn : n ≤ b.length) (hb : b.length ≤ 1099511627776) :
 Eff Tryz.prog 186 [.agg [.ptr 0 0]] b n [] (fun s : KSet => .agg (SetT.cells s)) (fun _ => []) (setP (b.drop n)) := by
 have h1 := set1_c (takeC (b.drop n)) 0 (Nat.zero_le _) (tkC_le hb)
 rw [List.drop_zero] at h1
 have hs := sequence1 228 b n hn hb 34 _ (cln_raw (cln_raw (cln_raw (cln_raw (cln_raw cln_nil))))) setIn setIn_fits (fun s => SetT.cells s) (fun s => cln_ty SetT s) h1
 have he : setP (b.drop n) = inP 48 setIn (b.drop n) := rfl
 rw [he]
 cases hx : inP 48 setIn (b.drop n) with
 | error e =>
  have hm' := eff_er hs hx
  refine pe_seal (by simp) ?_
  refine runE mixed fi186 ?_
  refine effP [0, 2] (hm') ?_; trivial
 | ok x =>
  obtain ⟨v, k⟩ := x
  have hm' := eff_ok hs hx
  refine pe_seal (by simp) ?_
  refine runE mixed fi186 ?_
  refine effE mixed [0, 2] (hm') ?_; trivial
end Go.Proofs.YtddmkgibghohkaaGreatDoor
/- Contracts: reading an entry. -/
namespace Go.Proofs.YtddmkgibghohkaaGreatDoor
open Go Go.Sx Go.Proofs
set_option maxRecDepth 100000
set_option maxHeartbeats 4000000
set_option linter.unusedSimpArgs false

theorem ent11_c (b : List UInt8) (n : Nat) (hn : n ≤ b.length) (hb : b.length ≤ 1099511627776) :
 Eff Tryz.prog 178 [.agg [.ptr 0 0], .ptr 1 0] b n [.cells 31 [.raw (.slice none 0 0), rS ⟨#[]⟩, .raw (.slice none 0 0), .raw (.int .u32 0), rI 0, .raw (.slice none 0 0), rS ⟨#[]⟩, rI 0, rI 0, rI 0, rI 0, rI 0, rI 0, rI 0, .raw (.slice none 0 0), .raw (.slice none 0 0), .raw (.slice none 0 0)]] (fun _ => .tup []) (fun p : Prin => [.cells 31 [.isl .str p.1, rS p.2, .raw (.slice none 0 0), .raw (.int .u32 0), rI 0, .raw (.slice none 0 0), rS ⟨#[]⟩, rI 0, rI 0, rI 0, rI 0, rI 0, rI 0, rI 0, .raw (.slice none 0 0), .raw (.slice none 0 0), .raw (.slice none 0 0)]]) (nameP (b.drop n)) := by
 have hr := eprin_c b n hn hb
 cases hx : nameP (b.drop n) with
 | error e =>
  have hr' := eff_er hr hx
  refine pe_seal (by simp) ?_
  refine runE mixed fi178 ?_
  refine effP [0] (hr') ?_; trivial
 | ok x =>
  obtain ⟨v, k⟩ := x
  have hr' := eff_ok hr hx
  refine pe_seal (by simp) ?_
  refine runE mixed fi178 ?_
  refine effE mixed [0] (hr') ?_; trivial
theorem ent12_c (b : List UInt8) (n : Nat) (hn : n ≤ b.length) (hb : b.length ≤ 1099511627776) (p : Prin) (al : List Prin) :
 Eff Tryz.prog 181 [.agg [.ptr 0 0], .ptr 1 0] b n [.cells 31 [.isl .str p.1, rS p.2, .isl PrinT al, .raw (.int .u32 0), rI 0, .raw (.slice none 0 0), rS ⟨#[]⟩, rI 0, rI 0, rI 0, rI 0, rI 0, rI 0, rI 0, .raw (.slice none 0 0), .raw (.slice none 0 0), .raw (.slice none 0 0)]] (fun _ => .tup []) (fun w => [.cells 31 [.isl .str p.1, rS p.2, .isl PrinT al, .raw (.int .u32 ((w : Nat) : Int)), rI 0, .raw (.slice none 0 0), rS ⟨#[]⟩, rI 0, rI 0, rI 0, rI 0, rI 0, rI 0, rI 0, .raw (.slice none 0 0), .raw (.slice none 0 0), .raw (.slice none 0 0)]]) (bitsP (b.drop n)) := by
 cases hx : bitsP (b.drop n) with
 | error e =>
  have hr := rbits_er b n hn hb hx
  refine pe_seal (by simp) ?_
  refine runE mixed fi181 ?_
  refine effE mixed [0] (hr) ?_
  refine effP [] (take_er_u32 _ e (rdP_ne hx)) ?_; trivial
 | ok x =>
  obtain ⟨v, k⟩ := x
  have hr := rbits_ok b n hn hb hx
  refine pe_seal (by simp) ?_
  refine runE mixed fi181 ?_
  refine effE mixed [0] (hr) ?_
  refine callI_pure (take_u32 _) ?_
  refine goE mixed ?_; trivial
theorem ent1_c (b : List UInt8) (n : Nat) (hn : n ≤ b.length) (hb : b.length ≤ 1099511627776) :
 Eff Tryz.prog 177 [.agg [.ptr 0 0], .ptr 1 0] b n [.cells 31 [.raw (.slice none 0 0), rS ⟨#[]⟩, .raw (.slice none 0 0), .raw (.int .u32 0), rI 0, .raw (.slice none 0 0), rS ⟨#[]⟩, rI 0, rI 0, rI 0, rI 0, rI 0, rI 0, rI 0, .raw (.slice none 0 0), .raw (.slice none 0 0), .raw (.slice none 0 0)]] (fun _ => .tup []) (fun e : Ent => [.cells 31 (EntT.cells e)]) (entIn (b.drop n)) := by
 refine eff_of (fun _ => Nat.le_refl _) ?_
 obtain ⟨X, hX0⟩ : ∃ X, X = entIn (b.drop n) := ⟨_, rfl⟩
 rw [← hX0]
 have hX := hX0.trans bind_x0
 clear hX0
 unfold entIn at hX
 have cA : Cln [.raw (.slice none 0 0), rS ⟨#[]⟩, .raw (.slice none 0 0), .raw (.int .u32 0), rI 0, .raw (.slice none 0 0), rS ⟨#[]⟩, rI 0, rI 0, rI 0, rI 0, rI 0, rI 0, rI 0, .raw (.slice none 0 0), .raw (.slice none 0 0), .raw (.slice none 0 0)] := (cln_raw (cln_raw (cln_raw (cln_raw (cln_raw (cln_raw (cln_raw (cln_raw (cln_raw (cln_raw (cln_raw (cln_raw (cln_raw (cln_raw (cln_raw (cln_raw (cln_raw cln_nil)))))))))))))))))
 have cB : ∀ p : Prin, Cln [.isl .str p.1, rS p.2, .raw (.slice none 0 0), .raw (.int .u32 0), rI 0, .raw (.slice none 0 0), rS ⟨#[]⟩, rI 0, rI 0, rI 0, rI 0, rI 0, rI 0, rI 0, .raw (.slice none 0 0), .raw (.slice none 0 0), .raw (.slice none 0 0)] := fun p => (cln_isl (cln_raw (cln_raw (cln_raw (cln_raw (cln_raw (cln_raw (cln_raw (cln_raw (cln_raw (cln_raw (cln_raw (cln_raw (cln_raw (cln_raw (cln_raw (cln_raw cln_nil)))))))))))))))))
 have cC : ∀ (p : Prin) (al : List Prin), Cln [.isl .str p.1, rS p.2, .isl PrinT al, .raw (.int .u32 0), rI 0, .raw (.slice none 0 0), rS ⟨#[]⟩, rI 0, rI 0, rI 0, rI 0, rI 0, rI 0, rI 0, .raw (.slice none 0 0), .raw (.slice none 0 0), .raw (.slice none 0 0)] := fun p al => (cln_isl (cln_raw (cln_isl (cln_raw (cln_raw (cln_raw (cln_raw (cln_raw (cln_raw (cln_raw (cln_raw (cln_raw (cln_raw (cln_raw (cln_raw (cln_raw (cln_raw cln_nil)))))))))))))))))
 have cD : ∀ (p : Prin) (al : List Prin) (w : Nat), Cln [.isl .str p.1, rS p.2, .isl PrinT al, .raw (.int .u32 ((w : Nat) : Int)), rI 0, .raw (.slice none 0 0), rS ⟨#[]⟩, rI 0, rI 0, rI 0, rI 0, rI 0, rI 0, rI 0, .raw (.slice none 0 0), .raw (.slice none 0 0), .raw (.slice none 0 0)] := fun p al w => (cln_isl (cln_raw (cln_isl (cln_raw (cln_raw (cln_raw (cln_raw (cln_raw (cln_raw (cln_raw (cln_raw (cln_raw (cln_raw (cln_raw (cln_raw (cln_raw (cln_raw cln_nil)))))))))))))))))
 refine runE mixed fi177 ?_
 have c1 := need1 178 0 (by omega) b n hn hb 31 _ cA nameP nameP_fits _ cB (ent11_c (takeC (b.drop _)) 0 (Nat.zero_le _) (tkC_le hb))
 rcases h1 : needP 0 nameP (b.drop (n)) with e | ⟨v1, k1⟩
 · have c1' := eff_er c1 h1
   obtain rfl := bind_xe hX h1
   refine effP [0, 1] (c1') ?_; trivial
 replace hX := bind_xo hX h1
 have c1' := eff_ok c1 h1
 have f1 := fits_at needP_fits hn h1
 refine effE mixed [0, 1] (c1') ?_
 have c2 := mlist_prin 179 nameP nameP_fits 1 (by omega) 16 (by omega) b (n + k1) f1 hb (fun c v q hc h => okP_name c v q hc h) (fun c m hm hc => eprin_c c m hm hc)
 rcases h2 : dfltP [] 1 nmsP (b.drop (n + k1)) with e | ⟨v2, k2⟩
 · have c2' := eff_er c2 h2
   obtain rfl := bind_xe hX h2
   refine effP [0] (c2') ?_; trivial
 replace hX := bind_xo hX h2
 have c2' := eff_ok c2 h2
 have f2 := fits_at dfltP_fits f1 h2
 refine effE mixed [0] (c2') ?_
 have c3 := need1 181 2 (by omega) b (n + k1 + k2) f2 hb 31 _ (cC v1 v2) bitsP rdP_fits _ (cD v1 v2) (ent12_c (takeC (b.drop _)) 0 (Nat.zero_le _) (tkC_le hb) v1 v2)
 rcases h3 : needP 2 bitsP (b.drop (n + k1 + k2)) with e | ⟨v3, k3⟩
 · have c3' := eff_er c3 h3
   obtain rfl := bind_xe hX h3
   refine effP [0, 1] (c3') ?_; trivial
 replace hX := bind_xo hX h3
 have c3' := eff_ok c3 h3
 have f3 := fits_at needP_fits f2 h3
 refine effE mixed [0, 1] (c3') ?_
 have c4 := eint_c 3 (by omega) b (n + k1 + k2 + k3) f3 hb
 rcases h4 : dfltP (0 : Int) 3 intP (b.drop (n + k1 + k2 + k3)) with e | ⟨v4, k4⟩
 · have c4' := eff_er c4 h4
   obtain rfl := bind_xe hX h4
   refine effP [0] (c4') ?_; trivial
 replace hX := bind_xo hX h4
 have c4' := eff_ok c4 h4
 have f4 := fits_at dfltP_fits f3 h4
 refine effE mixed [0] (c4') ?_
 have c5 := mlist_kset 186 setP inP_fits 4 (by omega) 16 (by omega) b (n + k1 + k2 + k3 + k4) f4 hb (fun c v q hc h => okP_set c v q hc h) (fun c m hm hc => eset_c c m hm hc)
 rcases h5 : dfltP [] 4 stsP (b.drop (n + k1 + k2 + k3 + k4)) with e | ⟨v5, k5⟩
 · have c5' := eff_er c5 h5
   obtain rfl := bind_xe hX h5
   refine effP [0] (c5') ?_; trivial
 replace hX := bind_xo hX h5
 have c5' := eff_ok c5 h5
 have f5 := fits_at dfltP_fits f4 h5
 refine effE mixed [0] (c5') ?_
 have c6 := estr_c 5 (by omega) b (n + k1 + k2 + k3 + k4 + k5) f5 hb
 rcases h6 : dfltP ⟨#[]⟩ 5 strP (b.drop (n + k1 + k2 + k3 + k4 + k5)) with e | ⟨v6, k6⟩
 · have c6' := eff_er c6 h6
   obtain rfl := bind_xe hX h6
   refine effP [0] (c6') ?_; trivial
 replace hX := bind_xo hX h6
 have c6' := eff_ok c6 h6
 have f6 := fits_at dfltP_fits f5 h6
 refine effE mixed [0] (c6') ?_
 have c7 := etime_c 6 (by omega) b (n + k1 + k2 + k3 + k4 + k5 + k6) f6 hb
 rcases h7 : dfltP (0 : Nat) 6 timeP (b.drop (n + k1 + k2 + k3 + k4 + k5 + k6)) with e | ⟨v7, k7⟩
 · have c7' := eff_er c7 h7
   obtain rfl := bind_xe hX h7
   refine effP [0] (c7') ?_; trivial
 replace hX := bind_xo hX h7
 have c7' := eff_ok c7 h7
 have f7 := fits_at dfltP_fits f6 h7
 refine effE mixed [0] (c7') ?_
 have c8 := etime_c 7 (by omega) b (n + k1 + k2 + k3 + k4 + k5 + k6 + k7) f7 hb
 rcases h8 : dfltP (0 : Nat) 7 timeP (b.drop (n + k1 + k2 + k3 + k4 + k5 + k6 + k7)) with e | ⟨v8, k8⟩
 · have c8' := eff_er c8 h8
   obtain rfl := bind_xe hX h8
   refine effP [0] (c8') ?_; trivial
 replace hX := bind_xo hX h8
 have c8' := eff_ok c8 h8
 have f8 := fits_at dfltP_fits f7 h8
 refine effE mixed [0] (c8') ?_
 have c9 := eint_c 8 (by omega) b (n + k1 + k2 + k3 + k4 + k5 + k6 + k7 + k8) f8 hb
 rcases h9 : dfltP (0 : Int) 8 intP (b.drop (n + k1 + k2 + k3 + k4 + k5 + k6 + k7 + k8)) with e | ⟨v9, k9⟩
 · have c9' := eff_er c9 h9
   obtain rfl := bind_xe hX h9
   refine effP [0] (c9') ?_; trivial
 replace hX := bind_xo hX h9
 have c9' := eff_ok c9 h9
 have f9 := fits_at dfltP_fits f8 h9
 refine effE mixed [0] (c9') ?_
 have c10 := eint_c 9 (by omega) b (n + k1 + k2 + k3 + k4 + k5 + k6 + k7 + k8 + k9) f9 hb
 rcases h10 : dfltP (0 : Int) 9 intP (b.drop (n + k1 + k2 + k3 + k4 + k5 + k6 + k7 + k8 + k9)) with e | ⟨v10, k10⟩
 · have c10' := eff_er c10 h10
   obtain rfl := bind_xe hX h10
   refine effP [0] (c10') ?_; trivial
 replace hX := bind_xo hX h10
 have c10' := eff_ok c10 h10
 have f10 := fits_at dfltP_fits f9 h10
 refine effE mixed [0] (c10') ?_
 have c11 := eint_c 10 (by omega) b (n + k1 + k2 + k3 + k4 + k5 + k6 + k7 + k8 + k9 + k10) f10 hb
 rcases h11 : dfltP (0 : Int) 10 intP (b.drop (n + k1 + k2 + k3 + k4 + k5 + k6 + k7 + k8 + k9 + k10)) with e | ⟨v11, k11⟩
 · have c11' := eff_er c11 h11
   obtain rfl := bind_xe hX h11
   refine effP [0] (c11') ?_; trivial
 replace hX := bind_xo hX h11
 have c11' := eff_ok c11 h11
 have f11 := fits_at dfltP_fits f10 h11
 refine effE mixed [0] (c11') ?_
 have c12 := etime_c 11 (by omega) b (n + k1 + k2 + k3 + k4 + k5 + k6 + k7 + k8 + k9 + k10 + k11) f11 hb
 rcases h12 : dfltP (0 : Nat) 11 timeP (b.drop (n + k1 + k2 + k3 + k4 + k5 + k6 + k7 + k8 + k9 + k10 + k11)) with e | ⟨v12, k12⟩
 · have c12' := eff_er c12 h12
   obtain rfl := bind_xe hX h12
   refine effP [0] (c12') ?_; trivial
 replace hX := bind_xo hX h12
 have c12' := eff_ok c12 h12
 have f12 := fits_at dfltP_fits f11 h12
 refine effE mixed [0] (c12') ?_
 have c13 := etime_c 12 (by omega) b (n + k1 + k2 + k3 + k4 + k5 + k6 + k7 + k8 + k9 + k10 + k11 + k12) f12 hb
 rcases h13 : dfltP (0 : Nat) 12 timeP (b.drop (n + k1 + k2 + k3 + k4 + k5 + k6 + k7 + k8 + k9 + k10 + k11 + k12)) with e | ⟨v13, k13⟩
 · have c13' := eff_er c13 h13
   obtain rfl := bind_xe hX h13
   refine effP [0] (c13') ?_; trivial
 replace hX := bind_xo hX h13
 have c13' := eff_ok c13 h13
 have f13 := fits_at dfltP_fits f12 h13
 refine effE mixed [0] (c13') ?_
 have c14 := mlist_prin 179 nameP nameP_fits 13 (by omega) 16 (by omega) b (n + k1 + k2 + k3 + k4 + k5 + k6 + k7 + k8 + k9 + k10 + k11 + k12 + k13) f13 hb (fun c v q hc h => okP_name c v q hc h) (fun c m hm hc => eprin_c c m hm hc)
 rcases h14 : dfltP [] 13 nmsP (b.drop (n + k1 + k2 + k3 + k4 + k5 + k6 + k7 + k8 + k9 + k10 + k11 + k12 + k13)) with e | ⟨v14, k14⟩
 · have c14' := eff_er c14 h14
   obtain rfl := bind_xe hX h14
   refine effP [0] (c14') ?_; trivial
 replace hX := bind_xo hX h14
 have c14' := eff_ok c14 h14
 have f14 := fits_at dfltP_fits f13 h14
 refine effE mixed [0] (c14') ?_
 have c15 := mlist_prin 179 nameP nameP_fits 14 (by omega) 16 (by omega) b (n + k1 + k2 + k3 + k4 + k5 + k6 + k7 + k8 + k9 + k10 + k11 + k12 + k13 + k14) f14 hb (fun c v q hc h => okP_name c v q hc h) (fun c m hm hc => eprin_c c m hm hc)
 rcases h15 : dfltP [] 14 nmsP (b.drop (n + k1 + k2 + k3 + k4 + k5 + k6 + k7 + k8 + k9 + k10 + k11 + k12 + k13 + k14)) with e | ⟨v15, k15⟩
 · have c15' := eff_er c15 h15
   obtain rfl := bind_xe hX h15
   refine effP [0] (c15') ?_; trivial
 replace hX := bind_xo hX h15
 have c15' := eff_ok c15 h15
 have f15 := fits_at dfltP_fits f14 h15
 refine effE mixed [0] (c15') ?_
 have c16 := mlist_bytes 190 octP rdP_fits 15 (by omega) 16 (by omega) b (n + k1 + k2 + k3 + k4 + k5 + k6 + k7 + k8 + k9 + k10 + k11 + k12 + k13 + k14 + k15) f15 hb (fun c v q hc h => okP_oct c v q hc h) (fun c m hm hc => eoct_c c m hm hc)
 rcases h16 : dfltP [] 15 hisP (b.drop (n + k1 + k2 + k3 + k4 + k5 + k6 + k7 + k8 + k9 + k10 + k11 + k12 + k13 + k14 + k15)) with e | ⟨v16, k16⟩
 · have c16' := eff_er c16 h16
   obtain rfl := bind_xe hX h16
   refine effP [0] (c16') ?_; trivial
 replace hX := bind_xo hX h16
 have c16' := eff_ok c16 h16
 have f16 := fits_at dfltP_fits f15 h16
 refine effE mixed [0] (c16') ?_
 subst hX
 simp only [shiftP, retP]
 with_reducible refine sxE ?_
 exact congrArg (Value.int .i64) (by omega)
theorem entIn_fits : FitsP entIn := bindP_fits needP_fits fun _ => bindP_fits dfltP_fits fun _ => bindP_fits needP_fits fun _ => bindP_fits dfltP_fits fun _ => bindP_fits dfltP_fits fun _ => bindP_fits dfltP_fits fun _ => bindP_fits dfltP_fits fun _ => bindP_fits dfltP_fits fun _ => bindP_fits dfltP_fits fun _ => bindP_fits dfltP_fits fun _ => bindP_fits dfltP_fits fun _ => bindP_fits dfltP_fits fun _ => bindP_fits dfltP_fits fun _ => bindP_fits dfltP_fits fun _ => bindP_fits dfltP_fits fun _ => bindP_fits dfltP_fits fun _ => retP_fits
theorem eent_c (b : List UInt8) (n : Nat) (hn : n ≤ b.length) (hb : b.length ≤ 1099511627776) :
 Eff Tryz.prog 105 [.agg [.ptr 0 0]] b n [] (fun e : Ent => .agg (EntT.cells e)) (fun _ => []) (entP (b.drop n)) := by
 have h1 := ent1_c (takeC (b.drop n)) 0 (Nat.zero_le _) (tkC_le hb)
 rw [List.drop_zero] at h1
 have hs := sequence1 177 b n hn hb 31 _ (cln_raw (cln_raw (cln_raw (cln_raw (cln_raw (cln_raw (cln_raw (cln_raw (cln_raw (cln_raw (cln_raw (cln_raw (cln_raw (cln_raw (cln_raw (cln_raw (cln_raw cln_nil))))))))))))))))) entIn entIn_fits (fun e => EntT.cells e) (fun e => cln_ty EntT e) h1
 have he : entP (b.drop n) = inP 48 entIn (b.drop n) := rfl
 rw [he]
 cases hx : inP 48 entIn (b.drop n) with
 | error e =>
  have hm' := eff_er hs hx
  refine pe_seal (by simp) ?_
  refine runE mixed fi105 ?_
  refine effP [0, 2] (hm') ?_; trivial
 | ok x =>
  obtain ⟨v, k⟩ := x
  have hm' := eff_ok hs hx
  refine pe_seal (by simp) ?_
  refine runE mixed fi105 ?_
  refine effE mixed [0, 2] (hm') ?_; trivial
end Go.Proofs.YtddmkgibghohkaaGreatDoor
/- Contracts: decoding an entry. -/
namespace Go.Proofs.YtddmkgibghohkaaGreatDoor
open Go Go.Sx Go.Proofs
set_option maxRecDepth 100000
set_option maxHeartbeats 4000000
set_option linter.unusedSimpArgs false

theorem dpanE_c (o : SObj) (T : TypeId) (x : Value) (R : List SObj) (K : List SObj → Prop) (h : ∀ G, K (o :: .cells T [rI 6] :: (R ++ G))) : DCall Tryz.prog 176 [.ptr 1 0] (some wrongV) (o :: .cells T [.raw x] :: R) K := by
 refine recE mixed fi176 ?_
 exact h _
theorem dretE_c (o o' : SObj) (R : List SObj) (K : List SObj → Prop) (h : ∀ G, K (o :: o' :: (R ++ G))) : DCall Tryz.prog 176 [.ptr 1 0] none (o :: o' :: R) K := by
 refine recE mixed fi176 ?_
 exact h _
theorem decodeE_c (b : List UInt8) (hb : b.length ≤ 1099511627776) : PC Tryz.prog 104 [.isl .u8 b, .fn 105 [] [], .fn 38 [] [], .fn 85 [] []] (.tup [.agg (EntT.cells ((decEnt b).getD EntT.dflt)), rI (if (decEnt b).isSome then 0 else 6)]) := by
 have hnew := new_c b (by omega)
 have hread := eent_c b 0 (Nat.zero_le _) hb
 have hok : ∀ e m, entP b = .ok (e, m) → EntT.ok e ∧ attrOk e := fun e m h => okP_ent b e m hb h
 rw [List.drop_zero] at hread
 refine pc_seal rfl rfl ?_
 refine defE mixed fi104 ?_
 refine goE mixed ?_
 refine effE mixed [] (hnew) ?_
 cases hx : entP b with
 | error e =>
  have hd : decEnt b = none := by unfold decEnt allP; rw [hx]
  have hr := eff_er hread hx
  rw [hd]
  refine effP [2] (hr) ?_
  refine ⟨by simp, dpanE_c _ _ _ _ _ fun G => ?_⟩
  with_reducible refine sxE ?_
  exact ⟨⟨rfl, rfl, rfl, rfl, rfl, rfl, rfl, rfl, rfl, rfl, rfl, rfl, rfl, rfl, rfl, rfl, rfl⟩, rfl⟩
 | ok x =>
  obtain ⟨e, m⟩ := x
  have hr := eff_ok hread hx
  obtain ⟨heo, hat⟩ := hok e m hx
  rw [Nat.zero_add] at hr
  refine effE mixed [2] (hr) ?_
  have hfit : m ≤ b.length := inP_fits _ _ _ hx
  by_cases hm : m < b.length
  · have hd : decEnt b = none := by unfold decEnt allP; rw [hx]; simp [hm]
    rw [hd]
    refine effP [2] (done_f b m hm) ?_
    refine ⟨by simp, dpanE_c _ _ _ _ _ fun G => ?_⟩
    with_reducible refine sxE ?_
    exact ⟨⟨rfl, rfl, rfl, rfl, rfl, rfl, rfl, rfl, rfl, rfl, rfl, rfl, rfl, rfl, rfl, rfl, rfl⟩, rfl⟩
  · refine effE mixed [2] (done_t b m (by omega)) ?_
    refine callI_pure (valid_k e heo) ?_
    cases hv : vEnt e with
    | false =>
     have hd : decEnt b = none := by unfold decEnt allP; rw [hx]; simp [hm, hv]
     rw [hd]
     refine goE mixed ?_
     refine callI_require (fun h => absurd h (by decide)) fun _ => ?_
     with_reducible refine sxE ?_
     refine ⟨by simp, dpanE_c _ _ _ _ _ fun G => ?_⟩
     with_reducible refine sxE ?_
     exact ⟨⟨rfl, rfl, rfl, rfl, rfl, rfl, rfl, rfl, rfl, rfl, rfl, rfl, rfl, rfl, rfl, rfl, rfl⟩, rfl⟩
    | true =>
     refine goE mixed ?_
     refine callI_pure (write_c e heo (vEnt_small hv) hat) ?_
     refine goE mixed ?_
     refine callI_pure (equal_d _ _) ?_
     by_cases he : entS e = b
     · have hd : decEnt b = some e := by unfold decEnt allP; rw [hx]; simp [hm, hv, he]
       rw [hd, decide_eq_true he]
       refine goE mixed ?_
       refine callI_pure require_t ?_
       refine goE mixed ?_
       refine dretE_c _ _ _ _ fun G => ?_
       with_reducible refine sxE ?_
       exact ⟨⟨rfl, rfl, rfl, rfl, rfl, rfl, rfl, rfl, rfl, rfl, rfl, rfl, rfl, rfl, rfl, rfl, rfl⟩, rfl⟩
     · have hd : decEnt b = none := by unfold decEnt allP; rw [hx]; simp [hm, hv, he]
       rw [hd, decide_eq_false he]
       refine goE mixed ?_
       refine callI_require (fun h => absurd h (by decide)) fun _ => ?_
       with_reducible refine sxE ?_
       refine ⟨by simp, dpanE_c _ _ _ _ _ fun G => ?_⟩
       with_reducible refine sxE ?_
       exact ⟨⟨rfl, rfl, rfl, rfl, rfl, rfl, rfl, rfl, rfl, rfl, rfl, rfl, rfl, rfl, rfl, rfl, rfl⟩, rfl⟩
theorem decodeEnt_c (b : List UInt8) (hb : b.length ≤ 1099511627776) : PC Tryz.prog 40 [.isl .u8 b] (.tup [.agg (EntT.cells ((decEnt b).getD EntT.dflt)), rI (if (decEnt b).isSome then 0 else 6)]) := by
 have h := decodeE_c b hb
 generalize (decEnt b).getD EntT.dflt = l at *
 generalize (decEnt b).isSome = s at *
 refine pc_seal rfl rfl ?_
 refine runE mixed fi40 ?_
 refine callI_pure h ?_
 refine goE mixed ?_; trivial
end Go.Proofs.YtddmkgibghohkaaGreatDoor
/- Contracts: what is small. -/
namespace Go.Proofs.YtddmkgibghohkaaGreatDoor
open Go Go.Sx Go.Proofs
set_option maxRecDepth 100000
set_option maxHeartbeats 4000000
set_option linter.unusedSimpArgs false

def k300 (l : List Key) (j : Nat) : Bool := decide (((l.getD j KeyT.dflt).2.2.length : Int) ≤ 300)
def smSet (s : KSet) : Bool := allN s.2.1.length (k300 s.2.1) && (decide ((s.2.1.length : Int) ≤ 6) && decide ((s.2.2.1.size : Int) ≤ 300))
theorem smallSet_c (s : KSet) (hs : SetT.ok s) : PC Tryz.prog 11 [.agg (SetT.cells s)] (rB (smSet s)) := by
 have hl : List.length s.2.1 ≤ 1125899906842624 := hs.2.1.1
 refine pc_of rfl rfl ?_
 refine runE mixed fi11 ?_
 refine si_cntD (fun i => [(3, .raw (.int .i64 ((i : Nat) : Int)))]) (List.length s.2.1) (fun j => (k300 s.2.1) j = true) (by first | decide | simp) (fun i => rfl) ?_ fun i hi hall => ?_
 · (with_reducible refine sxE ?_ <;> try exact True.intro)
   all_goals (try rfl)
 have hwr : IntKind.i64.wrap ((i : Int) + 1) = ((i + 1 : Nat) : Int) := wrap_succ (by omega)
 refine goE mixed ?_
 have bad : i < (List.length s.2.1) → (k300 s.2.1) i = false → allN (List.length s.2.1) (k300 s.2.1) = false := fun hlt hv => allN_false hlt hv
 have fin : ¬ i < (List.length s.2.1) → allN (List.length s.2.1) (k300 s.2.1) = true := fun h => allN_true fun j hj => hall j (by omega)
 try dsimp only at bad fin hall
 refine ⟨fun hlt => ⟨⟨by omega, hlt⟩, fun h => ?_, fun h => ?_⟩, fun hge => ⟨fun h => ?_, fun h => ?_⟩⟩
 · have hb := bad hlt (decide_eq_false (by omega))
   unfold smSet; rw [hb]; rfl
 · refine ⟨hlt, next_all hall (decide_eq_true (by omega)), ⟨[], rfl⟩, ?_⟩
   with_reducible refine sx1 hwr ?_; trivial
 · unfold smSet; rw [fin hge, decide_eq_true h]; rfl
 · unfold smSet; rw [fin hge, decide_eq_false h]; rfl
def p40 (l : List ByteArray) (k : Nat) : Bool := decide (((l.getD k Ty.str.dflt).size : Int) ≤ 40)
def shAt (l : List Prin) (j : Nat) : Bool := decide (((l.getD j PrinT.dflt).1.length : Int) ≤ 6) && (decide (((l.getD j PrinT.dflt).2.size : Int) ≤ 40) && allN (l.getD j PrinT.dflt).1.length (p40 (l.getD j PrinT.dflt).1))
def shB (l : List Prin) : Bool := allN l.length (shAt l) && decide ((l.length : Int) ≤ 20)
theorem short_c (l : List Prin) (hl : (Ty.slice PrinT).ok l) : PC Tryz.prog 42 [.isl PrinT l] (rB (shB l)) := by
 have hlen := hl.1
 have hok : ∀ {j}, j < l.length → List.length (l.getD j PrinT.dflt).1 ≤ 1125899906842624 := fun h => (hl.2 _ (getD_mem h)).1.1
 refine pc_of rfl rfl ?_
 refine runE mixed fi42 ?_
 refine si_cntD (fun i => [(3, .raw (.int .i64 ((i : Nat) : Int)))]) (l.length) (fun j => (shAt l) j = true) (by first | decide | simp) (fun i => rfl) ?_ fun i hi hall => ?_
 · (with_reducible refine sxE ?_ <;> try exact True.intro)
   all_goals (try rfl)
 have hwr : IntKind.i64.wrap ((i : Int) + 1) = ((i + 1 : Nat) : Int) := wrap_succ (by omega)
 refine goE mixed ?_
 have bad : i < (l.length) → (shAt l) i = false → allN (l.length) (shAt l) = false := fun hlt hv => allN_false hlt hv
 have fin : ¬ i < (l.length) → allN (l.length) (shAt l) = true := fun h => allN_true fun j hj => hall j (by omega)
 try dsimp only at bad fin hall
 refine ⟨fun hlt => ⟨⟨by omega, hlt⟩, fun h1 => ⟨⟨by omega, hlt⟩, fun h2 => ?_, fun h2 => ?_⟩, fun h1 => ?_⟩, fun hge => ?_⟩
 · have hb := bad hlt (by unfold shAt; rw [decide_eq_false (show ¬ (((l.getD i PrinT.dflt).2.size : Int) ≤ 40) by omega)]; simp)
   unfold shB; rw [hb]; rfl
 · have hp := hok hlt
   refine si_cntD (fun k => [(3, .raw (.int .i64 ((i : Nat) : Int))), (4, .raw (.int .i64 ((k : Nat) : Int)))]) (List.length (l.getD i PrinT.dflt).1) (fun j => (p40 (l.getD i PrinT.dflt).1) j = true) (by first | decide | simp) (fun i => rfl) ?_ fun k hik hallk => ?_
   · (with_reducible refine sxE ?_ <;> try exact True.intro)
     all_goals (try rfl)
   have hwrk : IntKind.i64.wrap ((k : Int) + 1) = ((k + 1 : Nat) : Int) := wrap_succ (by omega)
   refine goE mixed ?_
   have badk : k < (List.length (l.getD i PrinT.dflt).1) → (p40 (l.getD i PrinT.dflt).1) k = false → allN (List.length (l.getD i PrinT.dflt).1) (p40 (l.getD i PrinT.dflt).1) = false := fun hlt hv => allN_false hlt hv
   have fink : ¬ k < (List.length (l.getD i PrinT.dflt).1) → allN (List.length (l.getD i PrinT.dflt).1) (p40 (l.getD i PrinT.dflt).1) = true := fun h => allN_true fun j hj => hallk j (by omega)
   try dsimp only at badk fink hallk
   refine ⟨⟨by omega, hlt⟩, fun hk => ⟨⟨by omega, hlt⟩, ⟨by omega, hk⟩, fun h3 => ?_, fun h3 => ?_⟩, fun hk => ?_⟩
   · have hb := bad hlt (by unfold shAt; rw [badk hk (decide_eq_false (by omega))]; simp)
     unfold shB; rw [hb]; rfl
   · refine ⟨hk, next_all hallk (decide_eq_true (by omega)), ⟨[], rfl⟩, ?_⟩
     with_reducible refine sx1 hwrk ?_; trivial
   · refine ⟨hlt, next_all hall ?_, ⟨[], rfl⟩, ?_⟩
     · unfold shAt; rw [fink hk, decide_eq_true (show (((l.getD i PrinT.dflt).2.size : Int) ≤ 40) by omega), decide_eq_true (show ((List.length (l.getD i PrinT.dflt).1 : Int) ≤ 6) by omega)]; rfl
     · with_reducible refine sx1 hwr ?_; trivial
 · have hb := bad hlt (by unfold shAt; rw [decide_eq_false (show ¬ ((List.length (l.getD i PrinT.dflt).1 : Int) ≤ 6) by omega)]; rfl)
   unfold shB; rw [hb]; rfl
 · unfold shB; rw [fin hge]; rfl
def h300 (l : List (List UInt8)) (j : Nat) : Bool := decide (((l.getD j (Ty.slice .u8).dflt).length : Int) ≤ 300)
def sAt (l : List KSet) (j : Nat) : Bool := smSet (l.getD j SetT.dflt)
def smB (e : Ent) : Bool := shB [e.1] && (shB e.2.1 && (shB e.2.2.2.2.2.2.2.2.2.2.2.2.2.1 && (shB e.2.2.2.2.2.2.2.2.2.2.2.2.2.2.1 && (decide ((e.2.2.2.2.1.length : Int) ≤ 20) && (decide ((e.2.2.2.2.2.2.2.2.2.2.2.2.2.2.2.length : Int) ≤ 20) && (decide ((e.2.2.2.2.2.1.size : Int) ≤ 300) &&
 (allN e.2.2.2.2.1.length (sAt e.2.2.2.2.1) && allN e.2.2.2.2.2.2.2.2.2.2.2.2.2.2.2.length (h300 e.2.2.2.2.2.2.2.2.2.2.2.2.2.2.2))))))))
theorem small_c (e : Ent) (ho : EntT.ok e) : PC Tryz.prog 10 [.agg (EntT.cells e)] (rB (smB e)) := by
 obtain ⟨e1, e2, e3, e4, e5, e6, e7, e8, e9, e10, e11, e12, e13, e14, e15, e16⟩ := e
 obtain ⟨o1, o2, _, _, o5, _, _, _, _, _, _, _, _, o14, o15, o16⟩ := ho
 have hl5 : List.length e5 ≤ 1125899906842624 := o5.1
 have hl16 : List.length e16 ≤ 1125899906842624 := o16.1
 have hok5 : ∀ {j}, j < List.length e5 → SetT.ok (List.getD e5 j SetT.dflt) := fun h => o5.2 _ (getD_mem h)
 have hd : smB (e1, e2, e3, e4, e5, e6, e7, e8, e9, e10, e11, e12, e13, e14, e15, e16) = (shB [e1] && (shB e2 && (shB e14 && (shB e15 && (decide ((List.length e5 : Int) ≤ 20) && (decide ((List.length e16 : Int) ≤ 20) && (decide ((e6.size : Int) ≤ 300) && (allN (List.length e5) (sAt e5) && allN (List.length e16) (h300 e16))))))))) := rfl
 rw [hd]
 clear hd
 have o1' : (Ty.slice PrinT).ok [e1] := ⟨by simp, fun x hx => by simp at hx; subst hx; exact o1⟩
 have hst : e1.2.size ≤ 140737488355328 := o1.2
 refine pc_of rfl rfl ?_
 refine runE mixed fi10 ?_
 refine ⟨hst, callI_hand 1 ?_⟩
 with_reducible refine sxE ?_
 refine callI_pure (short_c [e1] o1') ?_
 refine goE mixed ?_
 refine ⟨fun h => ?_, fun h => by rw [h]; rfl⟩
 rw [h]
 simp only [Bool.true_and]
 refine callI_pure (short_c e2 o2) ?_
 refine goE mixed ?_
 refine ⟨fun h => ?_, fun h => by rw [h]; rfl⟩
 rw [h]
 simp only [Bool.true_and]
 refine callI_pure (short_c e14 o14) ?_
 refine goE mixed ?_
 refine ⟨fun h => ?_, fun h => by rw [h]; rfl⟩
 rw [h]
 simp only [Bool.true_and]
 refine callI_pure (short_c e15 o15) ?_
 refine goE mixed ?_
 refine ⟨fun h => ?_, fun h => by rw [h]; rfl⟩
 rw [h]
 simp only [Bool.true_and]
 clear o1 o2 o5 o14 o15 o16 o1' hst h
 refine ⟨fun h1 => ⟨fun h2 => ⟨fun h3 => ?_, fun h3 => ?_⟩, fun h2 => ?_⟩, fun h1 => ?_⟩
 · rw [decide_eq_false (show ¬ ((e6.size : Int) ≤ 300) by omega)]; simp
 rotate_left
 · rw [decide_eq_false (show ¬ ((List.length e16 : Int) ≤ 20) by omega)]; simp
 · rw [decide_eq_false (show ¬ ((List.length e5 : Int) ≤ 20) by omega)]; rfl
 rw [decide_eq_true (show ((e6.size : Int) ≤ 300) by omega), decide_eq_true (show ((List.length e16 : Int) ≤ 20) by omega), decide_eq_true (show ((List.length e5 : Int) ≤ 20) by omega)]
 simp only [Bool.true_and]
 refine si_cntD (fun i => [(3, .raw (.int .i64 ((i : Nat) : Int)))]) (List.length e5) (fun j => (sAt e5) j = true) (by first | decide | simp) (fun i => rfl) ?_ fun i hi hall => ?_
 · (with_reducible refine sxE ?_ <;> try exact True.intro)
   all_goals (try rfl)
 have hwr : IntKind.i64.wrap ((i : Int) + 1) = ((i + 1 : Nat) : Int) := wrap_succ (by omega)
 refine goE mixed ?_
 have bad : i < (List.length e5) → (sAt e5) i = false → allN (List.length e5) (sAt e5) = false := fun hlt hv => allN_false hlt hv
 have fin : ¬ i < (List.length e5) → allN (List.length e5) (sAt e5) = true := fun h => allN_true fun j hj => hall j (by omega)
 try dsimp only at bad fin hall
 refine ⟨fun hlt => ⟨⟨by omega, hlt⟩, callI_pure (smallSet_c _ (hok5 hlt)) ?_⟩, fun hge => ?_⟩
 · refine goE mixed ?_
   refine ⟨fun h => ?_, fun h => ?_⟩
   · rw [bad hlt h]; rfl
   · refine ⟨hlt, next_all hall h, ⟨[], rfl⟩, ?_⟩
     with_reducible refine sx1 hwr ?_; trivial
 rw [fin hge]
 simp only [Bool.true_and]
 clear fin bad hall hwr
 refine si_cntD (fun i => [(4, .raw (.int .i64 ((i : Nat) : Int)))]) (List.length e16) (fun j => (h300 e16) j = true) (by first | decide | simp) (fun i => rfl) ?_ fun i hi hall => ?_
 · (with_reducible refine sxE ?_ <;> try exact True.intro)
   all_goals (try rfl)
 have hwr : IntKind.i64.wrap ((i : Int) + 1) = ((i + 1 : Nat) : Int) := wrap_succ (by omega)
 refine goE mixed ?_
 have bad : i < (List.length e16) → (h300 e16) i = false → allN (List.length e16) (h300 e16) = false := fun hlt hv => allN_false hlt hv
 have fin : ¬ i < (List.length e16) → allN (List.length e16) (h300 e16) = true := fun h => allN_true fun j hj => hall j (by omega)
 try dsimp only at bad fin hall
 refine ⟨fun hlt => ⟨⟨by omega, hlt⟩, fun h => ?_, fun h => ?_⟩, fun hge => ?_⟩
 · rw [bad hlt (decide_eq_false (by omega))]
 · refine ⟨hlt, next_all hall (decide_eq_true (by omega)), ⟨[], rfl⟩, ?_⟩
   with_reducible refine sx1 hwr ?_; trivial
 · rw [fin hge]
end Go.Proofs.YtddmkgibghohkaaGreatDoor
