/- The law on copies. -/
import Derived.Test.YtddmkgibghohkaaGreatDoorP19
import Derived.Test.YtddmkgibghohkaaGreatDoorPEq2
import Derived.Test.YtddmkgibghohkaaGreatDoorPKn
import Derived.Test.YtddmkgibghohkaaGreatDoorP24
set_option linter.unusedSimpArgs false
set_option linter.unusedVariables false
set_option linter.unusedSectionVars false
namespace Go.Proofs.YtddmkgibghohkaaGreatDoor
open Go Go.Sx Go.Proofs
set_option maxRecDepth 100000
set_option maxHeartbeats 4000000
set_option linter.unusedSimpArgs false

theorem copies_l (a b : Ent) (ha : EntT.ok a) (hb : EntT.ok b) : PC Tryz.prog 6 [.agg (EntT.cells a), .agg (EntT.cells b)] (rB true) := by
 refine pc_of rfl rfl ?_
 refine vc_xi fix6 ?_
 refine run_sound mixed 600 _ ?_
 generalize hR : xreg Tryz.prog 6 = R
 (with_reducible refine sxE ?_ <;> try exact True.intro)
 repeat' (first
  | (refine callI_pure (small_c a ha) ?_; refine run_sound mixed 600 _ ?_; simp (maxSteps := 3000000) only [go_sem, ↓zA, ↓reduceIte, ↓reduceDIte, reduceCtorEq, Nat.reduceAdd, Nat.reduceSub, Nat.reduceLeDiff, Nat.reduceLT, Nat.reduceEqDiff, Nat.reduceBEq, Nat.reduceMul, Int.reduceToNat, Int.reduceEq, Int.reduceLT, Int.reduceLE] <;> try simp only [zB])
  | (refine callR_pure (small_c a ha) ?_; refine run_sound mixed 600 _ ?_; simp (maxSteps := 3000000) only [go_sem, ↓zA, ↓reduceIte, ↓reduceDIte, reduceCtorEq, Nat.reduceAdd, Nat.reduceSub, Nat.reduceLeDiff, Nat.reduceLT, Nat.reduceEqDiff, Nat.reduceBEq, Nat.reduceMul, Int.reduceToNat, Int.reduceEq, Int.reduceLT, Int.reduceLE] <;> try simp only [zB])
  | (refine callF_pure (small_c a ha) ?_; refine run_sound mixed 600 _ ?_; simp (maxSteps := 3000000) only [go_sem, ↓zA, ↓reduceIte, ↓reduceDIte, reduceCtorEq, Nat.reduceAdd, Nat.reduceSub, Nat.reduceLeDiff, Nat.reduceLT, Nat.reduceEqDiff, Nat.reduceBEq, Nat.reduceMul, Int.reduceToNat, Int.reduceEq, Int.reduceLT, Int.reduceLE] <;> try simp only [zB])
  | (refine callI_pure (small_c b hb) ?_; refine run_sound mixed 600 _ ?_; simp (maxSteps := 3000000) only [go_sem, ↓zA, ↓reduceIte, ↓reduceDIte, reduceCtorEq, Nat.reduceAdd, Nat.reduceSub, Nat.reduceLeDiff, Nat.reduceLT, Nat.reduceEqDiff, Nat.reduceBEq, Nat.reduceMul, Int.reduceToNat, Int.reduceEq, Int.reduceLT, Int.reduceLE] <;> try simp only [zB])
  | (refine callR_pure (small_c b hb) ?_; refine run_sound mixed 600 _ ?_; simp (maxSteps := 3000000) only [go_sem, ↓zA, ↓reduceIte, ↓reduceDIte, reduceCtorEq, Nat.reduceAdd, Nat.reduceSub, Nat.reduceLeDiff, Nat.reduceLT, Nat.reduceEqDiff, Nat.reduceBEq, Nat.reduceMul, Int.reduceToNat, Int.reduceEq, Int.reduceLT, Int.reduceLE] <;> try simp only [zB])
  | (refine callF_pure (small_c b hb) ?_; refine run_sound mixed 600 _ ?_; simp (maxSteps := 3000000) only [go_sem, ↓zA, ↓reduceIte, ↓reduceDIte, reduceCtorEq, Nat.reduceAdd, Nat.reduceSub, Nat.reduceLeDiff, Nat.reduceLT, Nat.reduceEqDiff, Nat.reduceBEq, Nat.reduceMul, Int.reduceToNat, Int.reduceEq, Int.reduceLT, Int.reduceLE] <;> try simp only [zB])
  | (refine callI_pure (known_c) ?_; refine run_sound mixed 600 _ ?_; simp (maxSteps := 3000000) only [go_sem, ↓zA, ↓reduceIte, ↓reduceDIte, reduceCtorEq, Nat.reduceAdd, Nat.reduceSub, Nat.reduceLeDiff, Nat.reduceLT, Nat.reduceEqDiff, Nat.reduceBEq, Nat.reduceMul, Int.reduceToNat, Int.reduceEq, Int.reduceLT, Int.reduceLE] <;> try simp only [zB])
  | (refine callR_pure (known_c) ?_; refine run_sound mixed 600 _ ?_; simp (maxSteps := 3000000) only [go_sem, ↓zA, ↓reduceIte, ↓reduceDIte, reduceCtorEq, Nat.reduceAdd, Nat.reduceSub, Nat.reduceLeDiff, Nat.reduceLT, Nat.reduceEqDiff, Nat.reduceBEq, Nat.reduceMul, Int.reduceToNat, Int.reduceEq, Int.reduceLT, Int.reduceLE] <;> try simp only [zB])
  | (refine callF_pure (known_c) ?_; refine run_sound mixed 600 _ ?_; simp (maxSteps := 3000000) only [go_sem, ↓zA, ↓reduceIte, ↓reduceDIte, reduceCtorEq, Nat.reduceAdd, Nat.reduceSub, Nat.reduceLeDiff, Nat.reduceLT, Nat.reduceEqDiff, Nat.reduceBEq, Nat.reduceMul, Int.reduceToNat, Int.reduceEq, Int.reduceLT, Int.reduceLE] <;> try simp only [zB])
  | (refine callI_pure (equal_c a b ha) ?_; refine run_sound mixed 600 _ ?_; simp (maxSteps := 3000000) only [go_sem, ↓zA, ↓reduceIte, ↓reduceDIte, reduceCtorEq, Nat.reduceAdd, Nat.reduceSub, Nat.reduceLeDiff, Nat.reduceLT, Nat.reduceEqDiff, Nat.reduceBEq, Nat.reduceMul, Int.reduceToNat, Int.reduceEq, Int.reduceLT, Int.reduceLE] <;> try simp only [zB])
  | (refine callR_pure (equal_c a b ha) ?_; refine run_sound mixed 600 _ ?_; simp (maxSteps := 3000000) only [go_sem, ↓zA, ↓reduceIte, ↓reduceDIte, reduceCtorEq, Nat.reduceAdd, Nat.reduceSub, Nat.reduceLeDiff, Nat.reduceLT, Nat.reduceEqDiff, Nat.reduceBEq, Nat.reduceMul, Int.reduceToNat, Int.reduceEq, Int.reduceLT, Int.reduceLE] <;> try simp only [zB])
  | (refine callF_pure (equal_c a b ha) ?_; refine run_sound mixed 600 _ ?_; simp (maxSteps := 3000000) only [go_sem, ↓zA, ↓reduceIte, ↓reduceDIte, reduceCtorEq, Nat.reduceAdd, Nat.reduceSub, Nat.reduceLeDiff, Nat.reduceLT, Nat.reduceEqDiff, Nat.reduceBEq, Nat.reduceMul, Int.reduceToNat, Int.reduceEq, Int.reduceLT, Int.reduceLE] <;> try simp only [zB])
  | (refine callI_pure (rsame_c a b ha) ?_; refine run_sound mixed 600 _ ?_; simp (maxSteps := 3000000) only [go_sem, ↓zA, ↓reduceIte, ↓reduceDIte, reduceCtorEq, Nat.reduceAdd, Nat.reduceSub, Nat.reduceLeDiff, Nat.reduceLT, Nat.reduceEqDiff, Nat.reduceBEq, Nat.reduceMul, Int.reduceToNat, Int.reduceEq, Int.reduceLT, Int.reduceLE] <;> try simp only [zB])
  | (refine callR_pure (rsame_c a b ha) ?_; refine run_sound mixed 600 _ ?_; simp (maxSteps := 3000000) only [go_sem, ↓zA, ↓reduceIte, ↓reduceDIte, reduceCtorEq, Nat.reduceAdd, Nat.reduceSub, Nat.reduceLeDiff, Nat.reduceLT, Nat.reduceEqDiff, Nat.reduceBEq, Nat.reduceMul, Int.reduceToNat, Int.reduceEq, Int.reduceLT, Int.reduceLE] <;> try simp only [zB])
  | (refine callF_pure (rsame_c a b ha) ?_; refine run_sound mixed 600 _ ?_; simp (maxSteps := 3000000) only [go_sem, ↓zA, ↓reduceIte, ↓reduceDIte, reduceCtorEq, Nat.reduceAdd, Nat.reduceSub, Nat.reduceLeDiff, Nat.reduceLT, Nat.reduceEqDiff, Nat.reduceBEq, Nat.reduceMul, Int.reduceToNat, Int.reduceEq, Int.reduceLT, Int.reduceLE] <;> try simp only [zB])
  | (with_reducible refine And.intro ?_ ?_)
  | (with_reducible intro _))
 all_goals (skip)
 rename_i h1 h2
 have hs := sm_small a h1
 subst hR
 intro id k hns hrel
 refine sound_c2 (c := c2law a) (h := 0) (T' := 31) mixed (is_c2law a) ha rfl rfl (by intro d hd; simp [c2law] at hd ⊢; omega) hns (fun q w0 vs hv => copy_z a hv ha hs) (copy_c a ha hs) fun q w1 N vs hv hq => ?_
 change EntT.rel q w1 a vs at hv
 dsimp only [c2law]
 obtain ⟨A1, c1, A2, c2, A5, c5, A14, c14, A15, c15, A16, c16, rfl, r1, s2, s5, s14, s15, s16⟩ := rel_ent hv
 letI : Ghost := frzN q w1 N
 refine soundI_get ?_ hrel
 clear hrel hns
 refine run_sound mixed 600 _ ?_
 with_reducible refine sxE ?_
 have hse : sameE a a = true := (sameE_eq a a).2 rfl
 have hsame : PC Tryz.prog 17 [.agg (EntT.cells a), .agg (EntT.cells a)] (rB true) := by
  have := rsame_c a a ha
  rwa [hse] at this
 refine callN_lend hsame (lend_agg hv (lend_keep rfl lend_nil)) ?_
 refine run_sound mixed 7 _ ?_
 with_reducible refine sxE ?_
 refine si_litz (x := a.1) (us := [.slice A1 a.1.1.length c1, .string a.1.2]) rfl (by rfl) r1 hq rfl fun q' w' v htr hsl => ?_
 letI : Ghost := scrG q' w'
 replace s2 : Sl q' w' PrinT _ _ := htr (.slice PrinT) _ _ s2
 replace s5 : Sl q' w' SetT _ _ := htr (.slice SetT) _ _ s5
 replace s14 : Sl q' w' PrinT _ _ := htr (.slice PrinT) _ _ s14
 replace s15 : Sl q' w' PrinT _ _ := htr (.slice PrinT) _ _ s15
 replace s16 : Sl q' w' (.slice .u8) _ _ := htr (.slice (.slice .u8)) _ _ s16
 clear htr hq hv r1
 refine goE mixed ?_
 refine callS (spoil_s [a.1] hsl) ?_
 refine goE mixed ?_
 refine callS (spoil_s _ s2) ?_
 refine goE mixed ?_
 refine callS (spoil_s _ s14) ?_
 refine goE mixed ?_
 refine callS (spoil_s _ s15) ?_
 refine goE mixed ?_
 have hok5 := ha.2.2.2.2.1
 have hok16 : (Ty.slice (.slice .u8)).ok a.2.2.2.2.2.2.2.2.2.2.2.2.2.2.2 := ha.2.2.2.2.2.2.2.2.2.2.2.2.2.2.2
 have hl5 := hok5.1
 have hl16 := hok16.1
 obtain ⟨B5, d5, e5, hA5⟩ := s5.out
 cases e5
 obtain ⟨B16, d16, e16, hA16⟩ := s16.out
 cases e16
 refine si_cnt 7 a.2.2.2.2.1.length (fun _ => True) ?_ fun i hi _ => ?_
 · with_reducible refine sxE ?_; trivial
 refine run_sound mixed 11 _ ?_
 with_reducible refine sxE ?_
 have hwr : IntKind.i64.wrap ((i : Int) + 1) = ((i + 1 : Nat) : Int) := wrap_succ (by omega)
 refine ⟨fun hlt => ?_, fun hge => ?_⟩
 · rcases hA5 with h0 | ⟨b5, o5, rfl, hat5⟩
   · exfalso; rw [h0] at hlt; simp at hlt
   have hx := hat5 i (a.2.2.2.2.1.getD i SetT.dflt) (by rw [List.getD_eq_getElem?_getD, List.getElem?_eq_getElem hlt]; rfl)
   have hokx : SetT.ok (a.2.2.2.2.1.getD i SetT.dflt) := hok5.2 _ (getD_mem hlt)
   generalize a.2.2.2.2.1.getD i SetT.dflt = x at hx hokx
   have hlx := hokx.2.1.1
   refine goE mixed ?_
   refine si_cnt 8 x.2.1.length (fun _ => True) ?_ fun j hj _ => ?_
   · with_reducible refine sxE ?_; trivial
   refine goE mixed ?_
   refine ⟨⟨by omega, hlt⟩, zld_sl (t := KeyT) (ys := x.2.1) hx.snd.fst fun v1 hv1 => ?_⟩
   obtain ⟨K1, k1, rfl, _⟩ := hv1.out
   have hwr2 : IntKind.i64.wrap ((j : Int) + 1) = ((j + 1 : Nat) : Int) := wrap_succ (by omega)
   refine goE mixed ?_
   refine ⟨fun hlt2 => ?_, fun hge2 => ?_⟩
   · have hj' : x.2.1[j]? = some (x.2.1.getD j KeyT.dflt) := by rw [List.getD_eq_getElem?_getD, List.getElem?_eq_getElem hlt2]; rfl
     have hoky : KeyT.ok (x.2.1.getD j KeyT.dflt) := hokx.2.1.2 _ (getD_mem hlt2)
     generalize x.2.1.getD j KeyT.dflt = y at hj' hoky
     have hly : y.2.2.length ≤ 1125899906842624 := hoky.2.2.1
     refine si_cnt 9 y.2.2.length (fun _ => True) ?_ fun n hn _ => ?_
     · with_reducible refine sxE ?_; trivial
     refine goE mixed ?_
     refine ⟨⟨by omega, hlt⟩, zld_sl (t := KeyT) (ys := x.2.1) hx.snd.fst fun v2 hv2 => ?_⟩
     obtain ⟨K2, k2, rfl, hK2⟩ := hv2.out
     rcases hK2 with h0 | ⟨b2, o2, rfl, hat2⟩
     · exfalso; rw [h0] at hlt2; simp at hlt2
     have hy := hat2 j y hj'
     have hwr3 : IntKind.i64.wrap ((n : Int) + 1) = ((n + 1 : Nat) : Int) := wrap_succ (by omega)
     refine goE mixed ?_
     refine ⟨⟨by omega, hlt2⟩, zld_sl (t := .u8) (ys := y.2.2) hy.snd.snd fun v3 hv3 => ?_⟩
     obtain ⟨K3, k3, rfl, _⟩ := hv3.out
     refine goE mixed ?_
     refine ⟨fun hlt3 => ?_, fun hge3 => ?_⟩
     · refine ⟨⟨by omega, hlt⟩, zld_sl (t := KeyT) (ys := x.2.1) hx.snd.fst fun v4 hv4 => ?_⟩
       obtain ⟨K4, k4, rfl, hK4⟩ := hv4.out
       rcases hK4 with h0 | ⟨b4, o4, rfl, hat4⟩
       · exfalso; rw [h0] at hlt2; simp at hlt2
       have hy4 := hat4 j y hj'
       refine goE mixed ?_
       refine ⟨⟨by omega, hlt2⟩, zld_sl (t := .u8) (ys := y.2.2) hy4.snd.snd fun v5 hv5 => ?_⟩
       obtain ⟨K5, k5, rfl, hK5⟩ := hv5.out
       rcases hK5 with h0 | ⟨b6, o6, rfl, hat6⟩
       · exfalso; rw [h0] at hlt3; simp at hlt3
       have hz := hat6 n _ (List.getElem?_eq_getElem hlt3)
       refine goE mixed ?_
       refine ⟨⟨by omega, hlt3⟩, zld_int hz.1 hz.u8 fun m => ?_⟩
       refine goE mixed ?_
       refine ⟨⟨by omega, hlt3⟩, zst_int hz.1 hz.u8 ?_⟩
       refine goE mixed ?_
       refine ⟨n + 1, hlt3, by dsimp only; omega, rfl, ?_⟩
       with_reducible refine sx1 hwr3 ?_; trivial
     · refine ⟨⟨by omega, hlt⟩, zld_sl (t := KeyT) (ys := x.2.1) hx.snd.fst fun v4 hv4 => ?_⟩
       obtain ⟨K4, k4, rfl, hK4⟩ := hv4.out
       rcases hK4 with h0 | ⟨b4, o4, rfl, hat4⟩
       · exfalso; rw [h0] at hlt2; simp at hlt2
       have hy4 := hat4 j y hj'
       refine goE mixed ?_
       refine ⟨⟨by omega, hlt2⟩, zld_int hy4.1 hy4.fst.int fun m => ?_⟩
       refine goE mixed ?_
       refine ⟨⟨by omega, hlt2⟩, zst_int hy4.1 hy4.fst.int ?_⟩
       refine goE mixed ?_
       refine ⟨j + 1, hlt2, by dsimp only; omega, rfl, ?_⟩
       with_reducible refine sx1 hwr2 ?_; trivial
   · refine ⟨⟨by omega, hlt⟩, zld_int hx.1 hx.fst.int fun m => ?_⟩
     refine goE mixed ?_
     refine ⟨⟨by omega, hlt⟩, zst_int hx.1 hx.fst.int ?_⟩
     refine goE mixed ?_
     refine ⟨i + 1, hlt, by dsimp only; omega, rfl, ?_⟩
     with_reducible refine sx1 hwr ?_; trivial
 · refine goE mixed ?_
   refine si_cnt 10 a.2.2.2.2.2.2.2.2.2.2.2.2.2.2.2.length (fun _ => True) ?_ fun i' hi' _ => ?_
   · with_reducible refine sxE ?_; trivial
   refine run_sound mixed 11 _ ?_
   with_reducible refine sxE ?_
   have hwr4 : IntKind.i64.wrap ((i' : Int) + 1) = ((i' + 1 : Nat) : Int) := wrap_succ (by omega)
   refine ⟨fun hlt => ?_, fun hge2 => ?_⟩
   · rcases hA16 with h0 | ⟨b5, o5, rfl, hat5⟩
     · exfalso; rw [h0] at hlt; simp at hlt
     have hx := hat5 i' (a.2.2.2.2.2.2.2.2.2.2.2.2.2.2.2.getD i' (Ty.slice .u8).dflt) (by rw [List.getD_eq_getElem?_getD, List.getElem?_eq_getElem hlt]; rfl)
     have hokx : (Ty.slice .u8).ok (a.2.2.2.2.2.2.2.2.2.2.2.2.2.2.2.getD i' (Ty.slice .u8).dflt) := hok16.2 _ (getD_mem hlt)
     generalize a.2.2.2.2.2.2.2.2.2.2.2.2.2.2.2.getD i' (Ty.slice .u8).dflt = x at hx hokx
     have hlx := hokx.1
     refine goE mixed ?_
     refine si_cnt 11 x.length (fun _ => True) ?_ fun j hj _ => ?_
     · with_reducible refine sxE ?_; trivial
     refine goE mixed ?_
     refine ⟨⟨by omega, hlt⟩, zld_sl (t := .u8) (ys := x) hx fun v1 hv1 => ?_⟩
     obtain ⟨K1, k1, rfl, _⟩ := hv1.out
     have hwr5 : IntKind.i64.wrap ((j : Int) + 1) = ((j + 1 : Nat) : Int) := wrap_succ (by omega)
     refine goE mixed ?_
     refine ⟨fun hlt2 => ?_, fun hge3 => ?_⟩
     · refine ⟨⟨by omega, hlt⟩, zld_sl (t := .u8) (ys := x) hx fun v2 hv2 => ?_⟩
       obtain ⟨K2, k2, rfl, hK2⟩ := hv2.out
       rcases hK2 with h0 | ⟨b2, o2, rfl, hat2⟩
       · exfalso; rw [h0] at hlt2; simp at hlt2
       have hz := hat2 j _ (List.getElem?_eq_getElem hlt2)
       refine goE mixed ?_
       refine ⟨⟨by omega, hlt2⟩, zld_int hz.1 hz.u8 fun m => ?_⟩
       refine goE mixed ?_
       refine ⟨⟨by omega, hlt2⟩, zst_int hz.1 hz.u8 ?_⟩
       refine goE mixed ?_
       refine ⟨j + 1, hlt2, by dsimp only; omega, rfl, ?_⟩
       with_reducible refine sx1 hwr5 ?_; trivial
     · refine ⟨i' + 1, hlt, by dsimp only; omega, rfl, ?_⟩
       with_reducible refine sx1 hwr4 ?_; trivial
   · refine goE mixed ?_
     refine callI_pure hsame ?_
     refine goE mixed ?_
     refine callI_pure known_c ?_
     refine goE mixed ?_; trivial
end Go.Proofs.YtddmkgibghohkaaGreatDoor
