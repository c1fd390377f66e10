/- Contracts: tickets and replies: what is valid, the writers. -/
import Derived.Test.YthmoognbccfpiaaGreatDoorP21
import Derived.Test.YthmoognbccfpiaaGreatDoorP23
import Derived.Test.YthmoognbccfpiaaGreatDoorP24
import Derived.Test.YthmoognbccfpiaaGreatDoorPRv
import Derived.Test.YthmoognbccfpiaaGreatDoorP17
set_option linter.unusedSimpArgs false
set_option linter.unusedVariables false
set_option linter.unusedSectionVars false
namespace Go.Proofs.YthmoognbccfpiaaGreatDoor
open Go Go.Sx Go.Proofs
set_option maxRecDepth 100000
set_option maxHeartbeats 4000000
set_option linter.unusedSimpArgs false

abbrev RplT : Ty := .prod I64 (.prod (.slice PreT) (.prod PrinT (.prod TickT KeyT)))
abbrev Rpl := RplT.den
theorem keyLen_gt (p : Int) : decide (0 < keyLen p) = decide (keyLen p ≠ 0) := by unfold keyLen; split <;> (try split) <;> simp
theorem tvseal_c (s : Key) : PC Tryz.prog 138 [.agg (KeyT.cells s)] (rB (vSeal s)) := by
 obtain ⟨p, v, c⟩ := s
 have hd : vSeal (p, v, c) = (decide (0 < keyLen p) && ((decide (0 ≤ v) && decide (v ≤ 65535)) && decide ((c.length : Int) ≤ 65536))) := by rw [keyLen_gt]; rfl
 rw [hd]
 refine pc_of rfl rfl ?_
 refine runE mixed fi138 ?_ <;> try with_reducible exact True.intro
 repeat' (first
  | (refine callI_pure (keyLen_c _) ?_; refine run_sound mixed 600 _ ?_; simp (maxSteps := 3000000) only [go_sem, ↓zA, ↓reduceIte, ↓reduceDIte, reduceCtorEq, Nat.reduceAdd, Nat.reduceSub, Nat.reduceLeDiff, Nat.reduceLT, Nat.reduceEqDiff, Nat.reduceBEq, Nat.reduceMul, Int.reduceToNat, Int.reduceEq, Int.reduceLT, Int.reduceLE] <;> try simp only [zB])
  | (refine callR_pure (keyLen_c _) ?_; refine run_sound mixed 600 _ ?_; simp (maxSteps := 3000000) only [go_sem, ↓zA, ↓reduceIte, ↓reduceDIte, reduceCtorEq, Nat.reduceAdd, Nat.reduceSub, Nat.reduceLeDiff, Nat.reduceLT, Nat.reduceEqDiff, Nat.reduceBEq, Nat.reduceMul, Int.reduceToNat, Int.reduceEq, Int.reduceLT, Int.reduceLE] <;> try simp only [zB])
  | (refine callF_pure (keyLen_c _) ?_; refine run_sound mixed 600 _ ?_; simp (maxSteps := 3000000) only [go_sem, ↓zA, ↓reduceIte, ↓reduceDIte, reduceCtorEq, Nat.reduceAdd, Nat.reduceSub, Nat.reduceLeDiff, Nat.reduceLT, Nat.reduceEqDiff, Nat.reduceBEq, Nat.reduceMul, Int.reduceToNat, Int.reduceEq, Int.reduceLT, Int.reduceLE] <;> try simp only [zB])
  | (with_reducible refine And.intro ?_ ?_)
  | (with_reducible intro _))
 all_goals (grind)
theorem tvalid_c (t : Tick) (ho : TickT.ok t) : PC Tryz.prog 74 [.agg (TickT.cells t)] (rB (vTick t)) := by
 obtain ⟨p, s⟩ := t
 have hd : vTick (p, s) = (vPrin p && vSeal s) := rfl
 rw [hd]
 have hs := tvseal_c s
 refine pc_of rfl rfl ?_
 refine runE mixed fi74 ?_ <;> try with_reducible exact True.intro
 repeat' (first
  | (refine callI_pure (nvalid_c p ho.1) ?_; refine run_sound mixed 600 _ ?_; simp (maxSteps := 3000000) only [go_sem, ↓zA, ↓reduceIte, ↓reduceDIte, reduceCtorEq, Nat.reduceAdd, Nat.reduceSub, Nat.reduceLeDiff, Nat.reduceLT, Nat.reduceEqDiff, Nat.reduceBEq, Nat.reduceMul, Int.reduceToNat, Int.reduceEq, Int.reduceLT, Int.reduceLE] <;> try simp only [zB])
  | (refine callR_pure (nvalid_c p ho.1) ?_; refine run_sound mixed 600 _ ?_; simp (maxSteps := 3000000) only [go_sem, ↓zA, ↓reduceIte, ↓reduceDIte, reduceCtorEq, Nat.reduceAdd, Nat.reduceSub, Nat.reduceLeDiff, Nat.reduceLT, Nat.reduceEqDiff, Nat.reduceBEq, Nat.reduceMul, Int.reduceToNat, Int.reduceEq, Int.reduceLT, Int.reduceLE] <;> try simp only [zB])
  | (refine callF_pure (nvalid_c p ho.1) ?_; refine run_sound mixed 600 _ ?_; simp (maxSteps := 3000000) only [go_sem, ↓zA, ↓reduceIte, ↓reduceDIte, reduceCtorEq, Nat.reduceAdd, Nat.reduceSub, Nat.reduceLeDiff, Nat.reduceLT, Nat.reduceEqDiff, Nat.reduceBEq, Nat.reduceMul, Int.reduceToNat, Int.reduceEq, Int.reduceLT, Int.reduceLE] <;> try simp only [zB])
  | (refine callI_pure (hs) ?_; refine run_sound mixed 600 _ ?_; simp (maxSteps := 3000000) only [go_sem, ↓zA, ↓reduceIte, ↓reduceDIte, reduceCtorEq, Nat.reduceAdd, Nat.reduceSub, Nat.reduceLeDiff, Nat.reduceLT, Nat.reduceEqDiff, Nat.reduceBEq, Nat.reduceMul, Int.reduceToNat, Int.reduceEq, Int.reduceLT, Int.reduceLE] <;> try simp only [zB])
  | (refine callR_pure (hs) ?_; refine run_sound mixed 600 _ ?_; simp (maxSteps := 3000000) only [go_sem, ↓zA, ↓reduceIte, ↓reduceDIte, reduceCtorEq, Nat.reduceAdd, Nat.reduceSub, Nat.reduceLeDiff, Nat.reduceLT, Nat.reduceEqDiff, Nat.reduceBEq, Nat.reduceMul, Int.reduceToNat, Int.reduceEq, Int.reduceLT, Int.reduceLE] <;> try simp only [zB])
  | (refine callF_pure (hs) ?_; refine run_sound mixed 600 _ ?_; simp (maxSteps := 3000000) only [go_sem, ↓zA, ↓reduceIte, ↓reduceDIte, reduceCtorEq, Nat.reduceAdd, Nat.reduceSub, Nat.reduceLeDiff, Nat.reduceLT, Nat.reduceEqDiff, Nat.reduceBEq, Nat.reduceMul, Int.reduceToNat, Int.reduceEq, Int.reduceLT, Int.reduceLE] <;> try simp only [zB])
  | (with_reducible refine And.intro ?_ ?_)
  | (with_reducible intro _))
 all_goals (simp_all)
theorem mvseal_c (s : Key) : PC Tryz.prog 75 [.agg (KeyT.cells s)] (rB (vSeal s)) := by
 obtain ⟨p, v, c⟩ := s
 have hd : vSeal (p, v, c) = (decide (keyLen p ≠ 0) && (mIn 0 65535 v && decide ((c.length : Int) ≤ 65536))) := rfl
 rw [hd]
 refine pc_of rfl rfl ?_
 refine runE mixed fi75 ?_ <;> try with_reducible exact True.intro
 repeat' (first
  | (refine callI_pure (keyLen_c _) ?_; refine run_sound mixed 600 _ ?_; simp (maxSteps := 3000000) only [go_sem, ↓zA, ↓reduceIte, ↓reduceDIte, reduceCtorEq, Nat.reduceAdd, Nat.reduceSub, Nat.reduceLeDiff, Nat.reduceLT, Nat.reduceEqDiff, Nat.reduceBEq, Nat.reduceMul, Int.reduceToNat, Int.reduceEq, Int.reduceLT, Int.reduceLE] <;> try simp only [zB])
  | (refine callR_pure (keyLen_c _) ?_; refine run_sound mixed 600 _ ?_; simp (maxSteps := 3000000) only [go_sem, ↓zA, ↓reduceIte, ↓reduceDIte, reduceCtorEq, Nat.reduceAdd, Nat.reduceSub, Nat.reduceLeDiff, Nat.reduceLT, Nat.reduceEqDiff, Nat.reduceBEq, Nat.reduceMul, Int.reduceToNat, Int.reduceEq, Int.reduceLT, Int.reduceLE] <;> try simp only [zB])
  | (refine callF_pure (keyLen_c _) ?_; refine run_sound mixed 600 _ ?_; simp (maxSteps := 3000000) only [go_sem, ↓zA, ↓reduceIte, ↓reduceDIte, reduceCtorEq, Nat.reduceAdd, Nat.reduceSub, Nat.reduceLeDiff, Nat.reduceLT, Nat.reduceEqDiff, Nat.reduceBEq, Nat.reduceMul, Int.reduceToNat, Int.reduceEq, Int.reduceLT, Int.reduceLE] <;> try simp only [zB])
  | (refine callI_pure (mbtw_c _ _ _) ?_; refine run_sound mixed 600 _ ?_; simp (maxSteps := 3000000) only [go_sem, ↓zA, ↓reduceIte, ↓reduceDIte, reduceCtorEq, Nat.reduceAdd, Nat.reduceSub, Nat.reduceLeDiff, Nat.reduceLT, Nat.reduceEqDiff, Nat.reduceBEq, Nat.reduceMul, Int.reduceToNat, Int.reduceEq, Int.reduceLT, Int.reduceLE] <;> try simp only [zB])
  | (refine callR_pure (mbtw_c _ _ _) ?_; refine run_sound mixed 600 _ ?_; simp (maxSteps := 3000000) only [go_sem, ↓zA, ↓reduceIte, ↓reduceDIte, reduceCtorEq, Nat.reduceAdd, Nat.reduceSub, Nat.reduceLeDiff, Nat.reduceLT, Nat.reduceEqDiff, Nat.reduceBEq, Nat.reduceMul, Int.reduceToNat, Int.reduceEq, Int.reduceLT, Int.reduceLE] <;> try simp only [zB])
  | (refine callF_pure (mbtw_c _ _ _) ?_; refine run_sound mixed 600 _ ?_; simp (maxSteps := 3000000) only [go_sem, ↓zA, ↓reduceIte, ↓reduceDIte, reduceCtorEq, Nat.reduceAdd, Nat.reduceSub, Nat.reduceLeDiff, Nat.reduceLT, Nat.reduceEqDiff, Nat.reduceBEq, Nat.reduceMul, Int.reduceToNat, Int.reduceEq, Int.reduceLT, Int.reduceLE] <;> try simp only [zB])
  | (with_reducible refine And.intro ?_ ?_)
  | (with_reducible intro _))
 all_goals (simp_all)
def sRpl (r : Rpl) : Bool := vKind r.1 && (vPre r.2.1 && (vPrin r.2.2.1 && (vTick r.2.2.2.1 && vSeal r.2.2.2.2)))
theorem srpl_c (r : Rpl) (ho : RplT.ok r) : PC Tryz.prog 31 [.agg (RplT.cells r)] (rB (sRpl r)) := by
 obtain ⟨k, l, p, t, s⟩ := r
 have hd : sRpl (k, l, p, t, s) = (vKind k && (vPre l && (vPrin p && (vTick t && vSeal s)))) := rfl
 rw [hd]
 obtain ⟨_, o2, o3, o4, o5⟩ := ho
 have ht := tvalid_c t o4
 have hs := mvseal_c s
 refine pc_of rfl rfl ?_
 refine runE mixed fi31 ?_ <;> try with_reducible exact True.intro
 repeat' (first
  | (refine callI_pure (vkind_c _) ?_; refine run_sound mixed 600 _ ?_; simp (maxSteps := 3000000) only [go_sem, ↓zA, ↓reduceIte, ↓reduceDIte, reduceCtorEq, Nat.reduceAdd, Nat.reduceSub, Nat.reduceLeDiff, Nat.reduceLT, Nat.reduceEqDiff, Nat.reduceBEq, Nat.reduceMul, Int.reduceToNat, Int.reduceEq, Int.reduceLT, Int.reduceLE] <;> try simp only [zB])
  | (refine callR_pure (vkind_c _) ?_; refine run_sound mixed 600 _ ?_; simp (maxSteps := 3000000) only [go_sem, ↓zA, ↓reduceIte, ↓reduceDIte, reduceCtorEq, Nat.reduceAdd, Nat.reduceSub, Nat.reduceLeDiff, Nat.reduceLT, Nat.reduceEqDiff, Nat.reduceBEq, Nat.reduceMul, Int.reduceToNat, Int.reduceEq, Int.reduceLT, Int.reduceLE] <;> try simp only [zB])
  | (refine callF_pure (vkind_c _) ?_; refine run_sound mixed 600 _ ?_; simp (maxSteps := 3000000) only [go_sem, ↓zA, ↓reduceIte, ↓reduceDIte, reduceCtorEq, Nat.reduceAdd, Nat.reduceSub, Nat.reduceLeDiff, Nat.reduceLT, Nat.reduceEqDiff, Nat.reduceBEq, Nat.reduceMul, Int.reduceToNat, Int.reduceEq, Int.reduceLT, Int.reduceLE] <;> try simp only [zB])
  | (refine callI_pure (vpre_c l) ?_; refine run_sound mixed 600 _ ?_; simp (maxSteps := 3000000) only [go_sem, ↓zA, ↓reduceIte, ↓reduceDIte, reduceCtorEq, Nat.reduceAdd, Nat.reduceSub, Nat.reduceLeDiff, Nat.reduceLT, Nat.reduceEqDiff, Nat.reduceBEq, Nat.reduceMul, Int.reduceToNat, Int.reduceEq, Int.reduceLT, Int.reduceLE] <;> try simp only [zB])
  | (refine callR_pure (vpre_c l) ?_; refine run_sound mixed 600 _ ?_; simp (maxSteps := 3000000) only [go_sem, ↓zA, ↓reduceIte, ↓reduceDIte, reduceCtorEq, Nat.reduceAdd, Nat.reduceSub, Nat.reduceLeDiff, Nat.reduceLT, Nat.reduceEqDiff, Nat.reduceBEq, Nat.reduceMul, Int.reduceToNat, Int.reduceEq, Int.reduceLT, Int.reduceLE] <;> try simp only [zB])
  | (refine callF_pure (vpre_c l) ?_; refine run_sound mixed 600 _ ?_; simp (maxSteps := 3000000) only [go_sem, ↓zA, ↓reduceIte, ↓reduceDIte, reduceCtorEq, Nat.reduceAdd, Nat.reduceSub, Nat.reduceLeDiff, Nat.reduceLT, Nat.reduceEqDiff, Nat.reduceBEq, Nat.reduceMul, Int.reduceToNat, Int.reduceEq, Int.reduceLT, Int.reduceLE] <;> try simp only [zB])
  | (refine callI_pure (nvalid_c p o3) ?_; refine run_sound mixed 600 _ ?_; simp (maxSteps := 3000000) only [go_sem, ↓zA, ↓reduceIte, ↓reduceDIte, reduceCtorEq, Nat.reduceAdd, Nat.reduceSub, Nat.reduceLeDiff, Nat.reduceLT, Nat.reduceEqDiff, Nat.reduceBEq, Nat.reduceMul, Int.reduceToNat, Int.reduceEq, Int.reduceLT, Int.reduceLE] <;> try simp only [zB])
  | (refine callR_pure (nvalid_c p o3) ?_; refine run_sound mixed 600 _ ?_; simp (maxSteps := 3000000) only [go_sem, ↓zA, ↓reduceIte, ↓reduceDIte, reduceCtorEq, Nat.reduceAdd, Nat.reduceSub, Nat.reduceLeDiff, Nat.reduceLT, Nat.reduceEqDiff, Nat.reduceBEq, Nat.reduceMul, Int.reduceToNat, Int.reduceEq, Int.reduceLT, Int.reduceLE] <;> try simp only [zB])
  | (refine callF_pure (nvalid_c p o3) ?_; refine run_sound mixed 600 _ ?_; simp (maxSteps := 3000000) only [go_sem, ↓zA, ↓reduceIte, ↓reduceDIte, reduceCtorEq, Nat.reduceAdd, Nat.reduceSub, Nat.reduceLeDiff, Nat.reduceLT, Nat.reduceEqDiff, Nat.reduceBEq, Nat.reduceMul, Int.reduceToNat, Int.reduceEq, Int.reduceLT, Int.reduceLE] <;> try simp only [zB])
  | (refine callI_pure (ht) ?_; refine run_sound mixed 600 _ ?_; simp (maxSteps := 3000000) only [go_sem, ↓zA, ↓reduceIte, ↓reduceDIte, reduceCtorEq, Nat.reduceAdd, Nat.reduceSub, Nat.reduceLeDiff, Nat.reduceLT, Nat.reduceEqDiff, Nat.reduceBEq, Nat.reduceMul, Int.reduceToNat, Int.reduceEq, Int.reduceLT, Int.reduceLE] <;> try simp only [zB])
  | (refine callR_pure (ht) ?_; refine run_sound mixed 600 _ ?_; simp (maxSteps := 3000000) only [go_sem, ↓zA, ↓reduceIte, ↓reduceDIte, reduceCtorEq, Nat.reduceAdd, Nat.reduceSub, Nat.reduceLeDiff, Nat.reduceLT, Nat.reduceEqDiff, Nat.reduceBEq, Nat.reduceMul, Int.reduceToNat, Int.reduceEq, Int.reduceLT, Int.reduceLE] <;> try simp only [zB])
  | (refine callF_pure (ht) ?_; refine run_sound mixed 600 _ ?_; simp (maxSteps := 3000000) only [go_sem, ↓zA, ↓reduceIte, ↓reduceDIte, reduceCtorEq, Nat.reduceAdd, Nat.reduceSub, Nat.reduceLeDiff, Nat.reduceLT, Nat.reduceEqDiff, Nat.reduceBEq, Nat.reduceMul, Int.reduceToNat, Int.reduceEq, Int.reduceLT, Int.reduceLE] <;> try simp only [zB])
  | (refine callI_pure (hs) ?_; refine run_sound mixed 600 _ ?_; simp (maxSteps := 3000000) only [go_sem, ↓zA, ↓reduceIte, ↓reduceDIte, reduceCtorEq, Nat.reduceAdd, Nat.reduceSub, Nat.reduceLeDiff, Nat.reduceLT, Nat.reduceEqDiff, Nat.reduceBEq, Nat.reduceMul, Int.reduceToNat, Int.reduceEq, Int.reduceLT, Int.reduceLE] <;> try simp only [zB])
  | (refine callR_pure (hs) ?_; refine run_sound mixed 600 _ ?_; simp (maxSteps := 3000000) only [go_sem, ↓zA, ↓reduceIte, ↓reduceDIte, reduceCtorEq, Nat.reduceAdd, Nat.reduceSub, Nat.reduceLeDiff, Nat.reduceLT, Nat.reduceEqDiff, Nat.reduceBEq, Nat.reduceMul, Int.reduceToNat, Int.reduceEq, Int.reduceLT, Int.reduceLE] <;> try simp only [zB])
  | (refine callF_pure (hs) ?_; refine run_sound mixed 600 _ ?_; simp (maxSteps := 3000000) only [go_sem, ↓zA, ↓reduceIte, ↓reduceDIte, reduceCtorEq, Nat.reduceAdd, Nat.reduceSub, Nat.reduceLeDiff, Nat.reduceLT, Nat.reduceEqDiff, Nat.reduceBEq, Nat.reduceMul, Int.reduceToNat, Int.reduceEq, Int.reduceLT, Int.reduceLE] <;> try simp only [zB])
  | (with_reducible refine And.intro ?_ ?_)
  | (with_reducible intro _))
 all_goals (simp_all)
theorem dsealed_c (k : Key) : PC Tryz.prog 82 [.agg (KeyT.cells k)] (.isl .u8 (keyS k)) := by
 refine pc_seal rfl rfl ?_
 refine runE mixed fi82 ?_
 refine callI_pure (triple_c _ _ _) ?_
 refine goE mixed ?_; trivial
theorem tapp_c (n : Int) (l : List (List UInt8)) (hl : l.length ≤ 1125899906842624) : PC Tryz.prog 195 [rI n, .isl (.slice .u8) l] (.isl .u8 (wrapS 96 n (elemS 48 l))) := by
 refine pc_seal rfl rfl ?_
 refine runE mixed fi195 ?_
 refine callI_pure (sequence_c l hl) ?_
 refine goE mixed ?_
 refine callI_pure (dapp_c n _) ?_
 refine goE mixed ?_; trivial
def tickS (t : Tick) : List UInt8 := wrapS 96 1 (elemS 48 [wrapS 160 0 (intS 5), wrapS 160 1 (prinE t.1), wrapS 160 2 (keyS t.2)])
theorem tenc_c (t : Tick) (ho : TickT.ok t) : PC Tryz.prog 147 [.agg (TickT.cells t)] (.tup [.isl .u8 (if vTick t then tickS t else []), rI (if vTick t then 0 else 2)]) := by
 have hv := tvalid_c t ho
 obtain ⟨p, s⟩ := t
 have hE : tickS (p, s) = wrapS 96 1 (elemS 48 [wrapS 160 0 (intS 5), wrapS 160 1 (if vPrin p then prinS p else []), wrapS 160 2 (keyS s)]) := rfl
 have hn := nencode_c p ho.1
 have hk := dsealed_c s
 rw [hE]
 clear hE
 generalize vTick (p, s) = v at *
 generalize (if vPrin p then prinS p else []) = w at *
 generalize keyS s = u at *
 refine pc_seal rfl rfl ?_
 refine runE mixed fi147 ?_
 refine callI_pure hv ?_
 refine goE mixed ?_
 refine ⟨fun h => ?_, fun h => callI_pure hn ?_⟩
 · rw [h]; exact ⟨rfl, rfl⟩
 rw [h]
 refine goE mixed ?_
 refine callR_pure (integer_c 5) ?_
 refine goE mixed ?_
 refine callR_pure (tagged_c _ _) ?_
 refine goE mixed ?_
 refine callR_pure (tagged_c _ _) ?_
 refine goE mixed ?_
 refine callR_pure (hk) ?_
 refine goE mixed ?_
 refine callR_pure (tagged_c _ _) ?_
 refine goE mixed ?_
 refine callR_hand 1 (by decide) ?_
 with_reducible refine sxE ?_
 refine callR_pure (tapp_c 1 _ (by simp)) ?_
 refine goE mixed ?_; trivial
def tickE (t : Tick) : List UInt8 := if vTick t then tickS t else []
theorem oneTick_c (t : Tick) (ho : TickT.ok t) : PC Tryz.prog 81 [.agg (TickT.cells t)] (.isl .u8 (tickE t)) := by
 have h := tenc_c t ho
 unfold tickE
 refine pc_seal rfl rfl ?_
 refine runE mixed fi81 ?_
 refine callI_pure h ?_
 refine goE mixed ?_; trivial
def kp (k : Int) : Int := k + 1
def rplS (r : Rpl) : List UInt8 := wrapS 96 (kp r.1) (elemS 48 [wrapS 160 0 (intS 5), wrapS 160 1 (intS (kp r.1)), preS 2 r.2.1, wrapS 160 3 (prinE r.2.2.1), wrapS 160 4 (tickE r.2.2.2.1), wrapS 160 5 (keyS r.2.2.2.2)])
theorem wrpl_c (r : Rpl) (ho : RplT.ok r) (hk : 0 ≤ (r.1 : Int) ∧ (r.1 : Int) ≤ 100) (hl : r.2.1.length ≤ 1048576) : PC Tryz.prog 33 [.agg (RplT.cells r)] (.isl .u8 (rplS r)) := by
 obtain ⟨k, l, p, t, s⟩ := r
 obtain ⟨_, o2, o3, o4, o5⟩ := ho
 dsimp only at hk hl
 change Int at k
 have hw : IntKind.i64.wrap (k + 1) = kp k := wrapi (by have h1 : (0 : Int) ≤ k := hk.1; have h2 : k ≤ (100 : Int) := hk.2; omega)
 have ht := oneTick_c t o4
 have hs := dsealed_c s
 refine pc_seal rfl rfl ?_
 refine vc_fi fi33 (run_sound mixed 600 _ ?_)
 simp (maxSteps := 3000000) only [ir33, hw, go_sem, ↓zA, ↓reduceIte, ↓reduceDIte, reduceCtorEq, Nat.reduceAdd, Nat.reduceSub, Nat.reduceLeDiff, Nat.reduceLT, Nat.reduceEqDiff, Nat.reduceBEq, Nat.reduceMul, Int.reduceToNat, Int.reduceEq, Int.reduceLT, Int.reduceLE] <;> try simp only [zB]
 refine callR_pure (integer_c 5) ?_
 refine goE mixed ?_
 refine callR_pure (tagged_c _ _) ?_
 refine goE mixed ?_
 refine callR_pure (integer_c (kp k)) ?_
 refine goE mixed ?_
 refine callR_pure (tagged_c _ _) ?_
 refine goE mixed ?_
 refine callR_pure (preAuth_c 2 l o2 hl) ?_
 refine goE mixed ?_
 refine callR_pure (mprin_c p o3) ?_
 refine goE mixed ?_
 refine callR_pure (tagged_c _ _) ?_
 refine goE mixed ?_
 refine callR_pure (ht) ?_
 refine goE mixed ?_
 refine callR_pure (tagged_c _ _) ?_
 refine goE mixed ?_
 refine callR_pure (hs) ?_
 refine goE mixed ?_
 refine callR_pure (tagged_c _ _) ?_
 refine goE mixed ?_
 refine callR_hand 1 (by decide) ?_
 with_reducible refine sxE ?_
 refine callR_pure (mapp_c (kp k) _ (by simp)) ?_
 refine goE mixed ?_
 rfl
theorem sRpl_k {r : Rpl} (h : sRpl r = true) : (0 ≤ (r.1 : Int) ∧ (r.1 : Int) ≤ 100) ∧ r.2.1.length ≤ 1048576 := by
 simp only [sRpl, vKind, vPre, Bool.and_eq_true, Bool.or_eq_true, decide_eq_true_eq] at h
 refine ⟨?_, by omega⟩
 rcases h.1 with e | e <;> rw [e] <;> decide
def vRpl (r : Rpl) : Bool := sRpl r && decide ((rplS r).length ≤ 65536)
theorem encRpl_c (r : Rpl) (ho : RplT.ok r) : PC Tryz.prog 7 [.agg (RplT.cells r)] (.tup [.isl .u8 (if vRpl r then rplS r else []), rI (if vRpl r then 0 else 2)]) := by
 have h1 := srpl_c r ho
 have h2 := fun h => wrpl_c r ho (sRpl_k h).1 (sRpl_k h).2
 have h3 := short_c (rplS r)
 have hv : vRpl r = (sRpl r && decide ((rplS r).length ≤ 65536)) := rfl
 have hs : shortS (rplS r) = if (rplS r).length ≤ 65536 then rplS r else [] := rfl
 rw [hv]
 clear hv
 generalize sRpl r = s at *
 generalize rplS r = w at *
 obtain ⟨k, l, p, t, q⟩ := r
 refine pc_seal rfl rfl ?_
 refine runE mixed fi7 ?_
 refine callI_pure h1 ?_
 refine goE mixed ?_
 refine ⟨fun h => ?_, fun h => callI_pure (h2 h) ?_⟩
 · rw [h]; exact ⟨rfl, rfl⟩
 · refine goE mixed ?_
   refine callI_pure h3 ?_
   refine goE mixed ?_
   rw [h, hs]
   by_cases hw : w.length ≤ 65536
   · rw [if_pos hw, if_pos hw, decide_eq_true hw]; exact ⟨rfl, rfl⟩
   · rw [if_neg hw, if_neg hw, decide_eq_false hw]; exact ⟨rfl, rfl⟩
theorem validRpl_c (r : Rpl) (ho : RplT.ok r) : PC Tryz.prog 10 [.agg (RplT.cells r)] (rB (vRpl r)) := by
 have h1 := srpl_c r ho
 have h2 := fun h => wrpl_c r ho (sRpl_k h).1 (sRpl_k h).2
 have hv : vRpl r = (sRpl r && decide ((rplS r).length ≤ 65536)) := rfl
 rw [hv]
 clear hv
 generalize sRpl r = s at *
 generalize rplS r = w at *
 obtain ⟨k, l, p, t, q⟩ := r
 refine pc_of rfl rfl ?_
 refine runE mixed fi10 ?_
 refine callI_pure h1 ?_
 refine goE mixed ?_
 refine ⟨fun h => callI_pure (h2 h) ?_, fun h => by rw [h]; rfl⟩
 refine goE mixed ?_
 rw [h, Bool.true_and]
 exact decide_eq_decide.2 (by omega)
end Go.Proofs.YthmoognbccfpiaaGreatDoor

/- The plain law of reading: tickets and replies. -/
namespace Go.Proofs.YthmoognbccfpiaaGreatDoor
open Go Go.Sx Go.Proofs
set_option maxRecDepth 100000
set_option maxHeartbeats 4000000
set_option linter.unusedSimpArgs false

theorem vSeal_f {s : Key} (h : vSeal s = true) : ((0 : Int) ≤ s.1 ∧ s.1 ≤ (1048576 : Int)) ∧ ((0 : Int) ≤ s.2.1 ∧ s.2.1 ≤ (1048576 : Int)) ∧ s.2.2.length ≤ 65536 := by
 obtain ⟨a, v, c⟩ := s
 simp only [vSeal, mIn, Bool.and_eq_true, decide_eq_true_eq] at h
 obtain ⟨h1, h2, h3⟩ := h
 dsimp only at *
 refine ⟨?_, ⟨h2.1, Int.le_trans h2.2 (by decide)⟩, by omega⟩
 unfold keyLen at h1
 split at h1
 · rename_i e; rw [e]; decide
 · split at h1
   · rename_i e; rw [e]; decide
   · exact absurd rfl h1
theorem vSeal_ok {s : Key} (h : vSeal s = true) : keyOk s := by
 obtain ⟨h1, h2, h3⟩ := vSeal_f h
 obtain ⟨a, v, c⟩ := s
 exact ⟨h1, h2, h3⟩
def tickL (t : Tick) : List (List UInt8) := [intS 5, prinE t.1, keyS t.2]
theorem tickS_eq (t : Tick) : tickS t = wrapS 96 1 (tagS (tickL t)) := by
 unfold tickS tagS
 congr 2
theorem tick_at {t : Tick} (h : vTick t = true) : tickS t = tlv (appB 1) (tlv 48 (sufS (tickL t) 0 3)) ∧ (∀ j, ((tickL t).getD j []).length ≤ 65600) ∧ (sufS (tickL t) 0 3).length ≤ 65900 ∧ ∀ r, tickP (tickS t ++ r) = .ok (t, (tickS t).length) := by
 have hE := tickS_eq t
 have h0 := h
 obtain ⟨p, s⟩ := t
 simp only [vTick, Bool.and_eq_true] at h
 obtain ⟨h1, h2⟩ := h
 obtain ⟨p1, p1l, p1n⟩ := nameP_ok h1
 have hk := vSeal_ok h2
 have k1 := keyP_ok hk
 have k1l := keyS_le hk
 have k1n := keyS_ne hk
 have i5 := intS_len 5
 have hL : ∀ j, ((tickL (p, s)).getD j []).length ≤ 65600 := fun j => by
  match j with
  | 0 => show (intS 5).length ≤ _; omega
  | 1 => show (prinE p).length ≤ _; omega
  | 2 => exact k1l
  | j + 3 => exact Nat.zero_le _
 have hs : (sufS (tickL (p, s)) 0 3).length ≤ 65900 := by
  refine Nat.le_trans (sufS_le 3 0) ?_
  show (intS 5).length + 5 + ((prinE p).length + 5 + ((keyS s).length + 5 + 0)) ≤ _
  omega
 have hL' : ∀ j, ((tickL (p, s)).getD j []).length ≤ 16777215 := fun j => Nat.le_trans (hL j) (by decide)
 have hT : tagS (tickL (p, s)) = tlv 48 (sufS (tickL (p, s)) 0 3) := tagS_tlv (l := tickL (p, s)) (Nat.le_trans hs (by decide))
 have hl48 : (tlv 48 (sufS (tickL (p, s)) 0 3)).length ≤ 66000 := by
  rw [tlv_length]; have := lenS_len (sufS (tickL (p, s)) 0 3).length; omega
 have hS : tickS (p, s) = tlv (appB 1) (tlv 48 (sufS (tickL (p, s)) 0 3)) := by
  rw [hE, hT]
  unfold wrapS
  rw [if_pos ⟨by decide, by decide, tlv_ne⟩, elemS_ok (by omega)]
  rfl
 have hin : tickIn (sufS (tickL (p, s)) 0 3) = .ok ((p, s), (sufS (tickL (p, s)) 0 3).length) := by
  unfold tickIn
  refine bind_suf (n := 0) (k := 2) (need_suf hL' (by omega) (intS_ne (v := 5) (by decide)) (cst_ok (by decide))) ?_
  refine bind_suf (n := 1) (k := 1) (need_suf hL' (by omega) p1n (full p1)) ?_
  refine bind_suf (n := 2) (k := 0) (need_suf hL' (by omega) k1n (full k1)) ?_
  rfl
 refine ⟨hS, hL, hs, fun r => ?_⟩
 rw [hS]
 unfold tickP
 rw [inP_tlv (by omega) (full (inP_tlv (by omega) hin)) r]
 simp only [chkP]
 rw [if_pos h0]
theorem tickE_ok {t : Tick} (h : vTick t = true) : tickE t = tickS t := if_pos h
theorem tickS_ne {t : Tick} (h : vTick t = true) : tickS t ≠ [] := by rw [(tick_at h).1]; exact tlv_ne
theorem tickS_le {t : Tick} (h : vTick t = true) : (tickS t).length ≤ 66100 := by
 obtain ⟨h1, _, h3, _⟩ := tick_at h
 rw [h1, tlv_length]
 have a := lenS_len (tlv 48 (sufS (tickL t) 0 3)).length
 have b := lenS_len (sufS (tickL t) 0 3).length
 rw [tlv_length] at *
 omega
def rpIn (k : Int) : PR Rpl := bindP (needP 0 (cstP 5)) fun _ => bindP (needP 1 (cstP (kp k))) fun _ => bindP (dfltP [] 2 dataP) fun l => bindP (needP 3 nameP) fun p => bindP (needP 4 tickP) fun t => bindP (needP 5 keyP) fun s => retP ((k, l, p, t, s) : Rpl)
def rpP (k : Nat) : PR Rpl := inP (appB (k + 1)) (inP 48 (rpIn (k : Nat)))
def rplL (r : Rpl) : List (List UInt8) := [intS 5, intS (kp r.1), preO r.2.1, prinE r.2.2.1, tickE r.2.2.2.1, keyS r.2.2.2.2]
theorem rplS_eq (r : Rpl) : rplS r = wrapS 96 (kp r.1) (tagS (rplL r)) := by
 unfold rplS tagS
 congr 2
 rw [preS_eq]
 rfl
theorem vKind_n {k : Int} (h : vKind k = true) : ∃ n : Nat, k = n ∧ (n = 10 ∨ n = 12) := by
 simp only [vKind, Bool.or_eq_true, decide_eq_true_eq] at h
 exact ⟨k.toNat, by omega, by omega⟩
theorem rpl_at (n : Nat) (hn : n = 10 ∨ n = 12) (k : Int) (hkn : k = (n : Nat)) (l : List Pre) (p : Prin) (t : Tick) (s : Key) (h : sRpl (k, l, p, t, s) = true) :
 rplS (k, l, p, t, s) = tlv (appB (n + 1)) (tlv 48 (sufS (rplL (k, l, p, t, s)) 0 6)) ∧ (∀ j, ((rplL (k, l, p, t, s)).getD j []).length ≤ 16777215) ∧ (sufS (rplL (k, l, p, t, s)) 0 6).length ≤ 1048576 ∧
  ∀ r, rpP n (rplS (k, l, p, t, s) ++ r) = .ok ((k, l, p, t, s), (rplS (k, l, p, t, s)).length) := by
 have hE := rplS_eq (k, l, p, t, s)
 have hd : sRpl (k, l, p, t, s) = (vKind k && (vPre l && (vPrin p && (vTick t && vSeal s)))) := rfl
 rw [hd] at h
 clear hd
 simp only [Bool.and_eq_true] at h
 obtain ⟨_, h2, h3, h4, h5⟩ := h
 obtain ⟨p2, p2l⟩ := pre_q h2
 obtain ⟨p3, p3l, p3n⟩ := nameP_ok h3
 have p4 := (tick_at h4).2.2.2
 have p4l := tickS_le h4
 have p4n := tickS_ne h4
 have e4 := tickE_ok h4
 have hk := vSeal_ok h5
 have k1 := keyP_ok hk
 have k1l := keyS_le hk
 have k1n := keyS_ne hk
 have i5 := intS_len 5
 have ik := intS_len (kp k)
 have ek : kp k = ((n + 1 : Nat) : Int) := by unfold kp; omega
 have zk : (0 : Int) ≤ kp k ∧ kp k ≤ 4611686018427387904 := by omega
 have hL : ∀ j, ((rplL (k, l, p, t, s)).getD j []).length ≤ 16777215 := fun j => by
  match j with
  | 0 => show (intS 5).length ≤ _; omega
  | 1 => show (intS (kp k)).length ≤ _; omega
  | 2 => exact Nat.le_trans p2l (by omega)
  | 3 => show (prinE p).length ≤ _; omega
  | 4 => show (tickE t).length ≤ _; rw [e4]; omega
  | 5 => exact Nat.le_trans k1l (by omega)
  | j + 6 => exact Nat.zero_le _
 have hs : (sufS (rplL (k, l, p, t, s)) 0 6).length ≤ 1048576 := by
  refine Nat.le_trans (sufS_le 6 0) ?_
  show (intS 5).length + 5 + ((intS (kp k)).length + 5 + ((preO l).length + 5 + ((prinE p).length + 5 + ((tickE t).length + 5 + ((keyS s).length + 5 + 0))))) ≤ _
  rw [e4]
  omega
 have hT : tagS (rplL (k, l, p, t, s)) = tlv 48 (sufS (rplL (k, l, p, t, s)) 0 6) := tagS_tlv (l := rplL (k, l, p, t, s)) (Nat.le_trans hs (by decide))
 have hl48 : (tlv 48 (sufS (rplL (k, l, p, t, s)) 0 6)).length ≤ 1048590 := by
  rw [tlv_length]; have := lenS_len (sufS (rplL (k, l, p, t, s)) 0 6).length; omega
 have hS : rplS (k, l, p, t, s) = tlv (appB (n + 1)) (tlv 48 (sufS (rplL (k, l, p, t, s)) 0 6)) := by
  rw [hE, hT]
  unfold wrapS
  show (if 0 ≤ kp k ∧ kp k ≤ 30 ∧ _ then elemS (byteOf (96 + kp k)) _ else _) = _
  rw [if_pos ⟨by omega, by omega, tlv_ne⟩, elemS_ok (by omega), ek]
  rfl
 have hin : rpIn k (sufS (rplL (k, l, p, t, s)) 0 6) = .ok ((k, l, p, t, s), (sufS (rplL (k, l, p, t, s)) 0 6).length) := by
  unfold rpIn
  refine bind_suf (n := 0) (k := 5) (need_suf hL (by omega) (intS_ne (v := 5) (by decide)) (cst_ok (by decide))) ?_
  refine bind_suf (n := 1) (k := 4) (need_suf hL (by omega) (intS_ne zk) (cst_ok zk)) ?_
  refine bind_suf (n := 2) (k := 3) (dflt_suf hL (by omega) p2) ?_
  refine bind_suf (n := 3) (k := 2) (need_suf hL (by omega) p3n (full p3)) ?_
  refine bind_suf (n := 4) (k := 1) (need_suf (v := t) hL (by omega) (by show tickE t ≠ []; rw [e4]; exact p4n) (by show tickP (tickE t) = .ok (t, (tickE t).length); rw [e4]; exact full p4)) ?_
  refine bind_suf (n := 5) (k := 0) (need_suf hL (by omega) k1n (full k1)) ?_
  rfl
 refine ⟨hS, hL, hs, fun r => ?_⟩
 rw [hS]
 unfold rpP
 rw [← hkn]
 exact inP_tlv (by omega) (full (inP_tlv (by omega) hin)) r
def decRp (k : Nat) (b : List UInt8) : Option Rpl := match allP (rpP k) b with
 | .ok r => if sRpl r = true ∧ rplS r = b then some r else none
 | .error _ => none
def decRpl (b : List UInt8) : Option Rpl := if kindB b 1 then decRp (kindV b 1).toNat b else none
theorem rpl_kind {n : Nat} (hn : n = 10 ∨ n = 12) (c : List UInt8) (hl : (tlv (appB (n + 1)) c).length ≤ 65536) : kindB (tlv (appB (n + 1)) c) 1 = true ∧ kindV (tlv (appB (n + 1)) c) 1 = (n : Nat) := by
 have ht : typN (tlv (appB (n + 1)) c) = (n : Int) + 1 := by
  unfold typN tlv
  rw [List.getD_cons_zero]
  rcases hn with rfl | rfl <;> decide
 have hb : typB (tlv (appB (n + 1)) c) = true := by
  unfold typB
  rw [ht]
  rcases hn with rfl | rfl <;> simp [mIn, tlv]
 have hv : kindV (tlv (appB (n + 1)) c) 1 = (n : Nat) := by
  unfold kindV
  rw [hb, if_pos rfl, ht]; omega
 refine ⟨?_, hv⟩
 unfold kindB
 rw [hb, hv, decide_eq_true hl]
 rcases hn with rfl | rfl <;> decide
theorem decRpl_of {b : List UInt8} {r : Rpl} (h : vRpl r = true) (he : rplS r = b) : decRpl b = some r := by
 subst he
 unfold vRpl at h
 rw [Bool.and_eq_true, decide_eq_true_eq] at h
 obtain ⟨k, l, p, t, s⟩ := r
 obtain ⟨hs, hl⟩ := h
 have hk : vKind k = true := by
  have hd : sRpl (k, l, p, t, s) = (vKind k && (vPre l && (vPrin p && (vTick t && vSeal s)))) := rfl
  rw [hd, Bool.and_eq_true] at hs
  exact hs.1
 obtain ⟨n, hkn, hn⟩ := vKind_n hk
 obtain ⟨e, _, _, hp⟩ := rpl_at n hn k hkn l p t s hs
 have hx := full hp
 rw [e] at hl
 obtain ⟨k1, k2⟩ := rpl_kind hn _ hl
 rw [← e] at k1 k2
 unfold decRpl decRp allP
 rw [if_pos k1, k2, Int.toNat_natCast, hx]
 simp [hs]
theorem decRpl_some {b : List UInt8} {r : Rpl} (h : decRpl b = some r) : vRpl r = true ∧ rplS r = b := by
 unfold decRpl at h
 split at h
 · rename_i hk
   have hl : b.length ≤ 65536 := by
    unfold kindB at hk
    simp only [Bool.and_eq_true, decide_eq_true_eq] at hk
    exact hk.2.1
   unfold decRp at h
   split at h
   · split at h
     · rename_i h2
       cases h
       refine ⟨?_, h2.2⟩
       unfold vRpl
       rw [Bool.and_eq_true, decide_eq_true_eq, h2.2]
       exact ⟨h2.1, hl⟩
     · cases h
   · cases h
 · cases h
end Go.Proofs.YthmoognbccfpiaaGreatDoor

/- Contracts: the reference's tickets and replies: what is valid, and their encoding. -/
namespace Go.Proofs.YthmoognbccfpiaaGreatDoor
open Go Go.Sx Go.Proofs
set_option maxRecDepth 100000
set_option maxHeartbeats 4000000
set_option linter.unusedSimpArgs false

theorem rvseal_c (s : Key) : PC Tryz.prog 30 [.agg (KeyT.cells s)] (rB (vSeal s)) := by
 obtain ⟨p, v, c⟩ := s
 have hd : vSeal (p, v, c) = (decide (0 < keyLen p) && (mIn 0 65535 v && decide ((c.length : Int) ≤ 65536))) := by rw [keyLen_gt]; rfl
 rw [hd]
 refine pc_of rfl rfl ?_
 refine runE mixed fi30 ?_ <;> try with_reducible exact True.intro
 repeat' (first
  | (refine callI_pure (rkl_c _) ?_; refine run_sound mixed 600 _ ?_; simp (maxSteps := 3000000) only [go_sem, ↓zA, ↓reduceIte, ↓reduceDIte, reduceCtorEq, Nat.reduceAdd, Nat.reduceSub, Nat.reduceLeDiff, Nat.reduceLT, Nat.reduceEqDiff, Nat.reduceBEq, Nat.reduceMul, Int.reduceToNat, Int.reduceEq, Int.reduceLT, Int.reduceLE] <;> try simp only [zB])
  | (refine callR_pure (rkl_c _) ?_; refine run_sound mixed 600 _ ?_; simp (maxSteps := 3000000) only [go_sem, ↓zA, ↓reduceIte, ↓reduceDIte, reduceCtorEq, Nat.reduceAdd, Nat.reduceSub, Nat.reduceLeDiff, Nat.reduceLT, Nat.reduceEqDiff, Nat.reduceBEq, Nat.reduceMul, Int.reduceToNat, Int.reduceEq, Int.reduceLT, Int.reduceLE] <;> try simp only [zB])
  | (refine callF_pure (rkl_c _) ?_; refine run_sound mixed 600 _ ?_; simp (maxSteps := 3000000) only [go_sem, ↓zA, ↓reduceIte, ↓reduceDIte, reduceCtorEq, Nat.reduceAdd, Nat.reduceSub, Nat.reduceLeDiff, Nat.reduceLT, Nat.reduceEqDiff, Nat.reduceBEq, Nat.reduceMul, Int.reduceToNat, Int.reduceEq, Int.reduceLT, Int.reduceLE] <;> try simp only [zB])
  | (refine callI_pure (rIn_c _ _ _) ?_; refine run_sound mixed 600 _ ?_; simp (maxSteps := 3000000) only [go_sem, ↓zA, ↓reduceIte, ↓reduceDIte, reduceCtorEq, Nat.reduceAdd, Nat.reduceSub, Nat.reduceLeDiff, Nat.reduceLT, Nat.reduceEqDiff, Nat.reduceBEq, Nat.reduceMul, Int.reduceToNat, Int.reduceEq, Int.reduceLT, Int.reduceLE] <;> try simp only [zB])
  | (refine callR_pure (rIn_c _ _ _) ?_; refine run_sound mixed 600 _ ?_; simp (maxSteps := 3000000) only [go_sem, ↓zA, ↓reduceIte, ↓reduceDIte, reduceCtorEq, Nat.reduceAdd, Nat.reduceSub, Nat.reduceLeDiff, Nat.reduceLT, Nat.reduceEqDiff, Nat.reduceBEq, Nat.reduceMul, Int.reduceToNat, Int.reduceEq, Int.reduceLT, Int.reduceLE] <;> try simp only [zB])
  | (refine callF_pure (rIn_c _ _ _) ?_; refine run_sound mixed 600 _ ?_; simp (maxSteps := 3000000) only [go_sem, ↓zA, ↓reduceIte, ↓reduceDIte, reduceCtorEq, Nat.reduceAdd, Nat.reduceSub, Nat.reduceLeDiff, Nat.reduceLT, Nat.reduceEqDiff, Nat.reduceBEq, Nat.reduceMul, Int.reduceToNat, Int.reduceEq, Int.reduceLT, Int.reduceLE] <;> try simp only [zB])
  | (with_reducible refine And.intro ?_ ?_)
  | (with_reducible intro _))
 all_goals (grind)
theorem rvtick_c (t : Tick) (ho : TickT.ok t) : PC Tryz.prog 29 [.agg (TickT.cells t)] (rB (vTick t)) := by
 obtain ⟨p, s⟩ := t
 have hd : vTick (p, s) = (vPrin p && vSeal s) := rfl
 rw [hd]
 have hs := rvseal_c s
 refine pc_of rfl rfl ?_
 refine runE mixed fi29 ?_ <;> try with_reducible exact True.intro
 repeat' (first
  | (refine callI_pure (rvp_c p ho.1) ?_; refine run_sound mixed 600 _ ?_; simp (maxSteps := 3000000) only [go_sem, ↓zA, ↓reduceIte, ↓reduceDIte, reduceCtorEq, Nat.reduceAdd, Nat.reduceSub, Nat.reduceLeDiff, Nat.reduceLT, Nat.reduceEqDiff, Nat.reduceBEq, Nat.reduceMul, Int.reduceToNat, Int.reduceEq, Int.reduceLT, Int.reduceLE] <;> try simp only [zB])
  | (refine callR_pure (rvp_c p ho.1) ?_; refine run_sound mixed 600 _ ?_; simp (maxSteps := 3000000) only [go_sem, ↓zA, ↓reduceIte, ↓reduceDIte, reduceCtorEq, Nat.reduceAdd, Nat.reduceSub, Nat.reduceLeDiff, Nat.reduceLT, Nat.reduceEqDiff, Nat.reduceBEq, Nat.reduceMul, Int.reduceToNat, Int.reduceEq, Int.reduceLT, Int.reduceLE] <;> try simp only [zB])
  | (refine callF_pure (rvp_c p ho.1) ?_; refine run_sound mixed 600 _ ?_; simp (maxSteps := 3000000) only [go_sem, ↓zA, ↓reduceIte, ↓reduceDIte, reduceCtorEq, Nat.reduceAdd, Nat.reduceSub, Nat.reduceLeDiff, Nat.reduceLT, Nat.reduceEqDiff, Nat.reduceBEq, Nat.reduceMul, Int.reduceToNat, Int.reduceEq, Int.reduceLT, Int.reduceLE] <;> try simp only [zB])
  | (refine callI_pure (hs) ?_; refine run_sound mixed 600 _ ?_; simp (maxSteps := 3000000) only [go_sem, ↓zA, ↓reduceIte, ↓reduceDIte, reduceCtorEq, Nat.reduceAdd, Nat.reduceSub, Nat.reduceLeDiff, Nat.reduceLT, Nat.reduceEqDiff, Nat.reduceBEq, Nat.reduceMul, Int.reduceToNat, Int.reduceEq, Int.reduceLT, Int.reduceLE] <;> try simp only [zB])
  | (refine callR_pure (hs) ?_; refine run_sound mixed 600 _ ?_; simp (maxSteps := 3000000) only [go_sem, ↓zA, ↓reduceIte, ↓reduceDIte, reduceCtorEq, Nat.reduceAdd, Nat.reduceSub, Nat.reduceLeDiff, Nat.reduceLT, Nat.reduceEqDiff, Nat.reduceBEq, Nat.reduceMul, Int.reduceToNat, Int.reduceEq, Int.reduceLT, Int.reduceLE] <;> try simp only [zB])
  | (refine callF_pure (hs) ?_; refine run_sound mixed 600 _ ?_; simp (maxSteps := 3000000) only [go_sem, ↓zA, ↓reduceIte, ↓reduceDIte, reduceCtorEq, Nat.reduceAdd, Nat.reduceSub, Nat.reduceLeDiff, Nat.reduceLT, Nat.reduceEqDiff, Nat.reduceBEq, Nat.reduceMul, Int.reduceToNat, Int.reduceEq, Int.reduceLT, Int.reduceLE] <;> try simp only [zB])
  | (with_reducible refine And.intro ?_ ?_)
  | (with_reducible intro _))
 all_goals (simp_all)
theorem rkind_c (k : Int) : PC Tryz.prog 26 [rI k] (rB (vKind k)) := by
 refine pc_of rfl rfl ?_
 refine runE mixed fi26 ?_
 grind [vKind]
def inI (v : Int) : Prop := -9223372036854775808 ≤ v ∧ v ≤ 9223372036854775807
def shK (k : Key) : Prop := inI k.1 ∧ inI k.2.1 ∧ k.2.2.length ≤ 65536
def keyA (k : Key) : List UInt8 := elemS 48 [wrapS 160 0 (intR k.1), wrapS 160 1 (intR k.2.1), wrapS 160 2 (elemS 4 [k.2.2])]
theorem keyA_len {k : Key} (h : shK k) : (keyA k).length ≤ 65700 := by
 have g1 := intR_len k.1
 have g2 := intR_len k.2.1
 have g3 := elemS_len 4 [k.2.2]
 simp only [List.flatten_cons, List.flatten_nil, List.append_nil] at g3
 have g5 := wrapS_len 160 0 (intR k.1)
 have g6 := wrapS_len 160 1 (intR k.2.1)
 have g7 := wrapS_len 160 2 (elemS 4 [k.2.2])
 have g8 := elemS_len 48 [wrapS 160 0 (intR k.1), wrapS 160 1 (intR k.2.1), wrapS 160 2 (elemS 4 [k.2.2])]
 simp only [List.flatten_cons, List.flatten_nil, List.append_nil, List.length_append] at g8
 have := h.2.2
 unfold keyA
 omega
theorem rkey_a (k : Key) (h : shK k) : PC Tryz.prog 108 [.agg (KeyT.cells k)] (.isl .u8 (keyA k)) := by
 have hd : keyA k = elemS 48 [wrapS 160 0 (intR k.1), wrapS 160 1 (intR k.2.1), wrapS 160 2 (elemS 4 [k.2.2])] := rfl
 have g1 := intR_len k.1
 have g2 := intR_len k.2.1
 have g3 := elemS_len 4 [k.2.2]
 simp only [List.flatten_cons, List.flatten_nil, List.append_nil] at g3
 have g5 := wrapS_len 160 0 (intR k.1)
 have g6 := wrapS_len 160 1 (intR k.2.1)
 have g7 := wrapS_len 160 2 (elemS 4 [k.2.2])
 obtain ⟨h1, h2, h3⟩ := h
 generalize keyA k = R at *
 refine pc_seal rfl rfl ?_
 refine runE mixed fi108 ?_
 refine callR_pure (rint_a _ h1) ?_
 refine goE mixed ?_
 refine callR_pure (rtag_c 0 (by decide) _ (by omega)) ?_
 refine goE mixed ?_
 refine callR_pure (rint_a _ h2) ?_
 refine goE mixed ?_
 refine callR_pure (rtag_c 1 (by decide) _ (by omega)) ?_
 refine goE mixed ?_
 refine callR_pure (roct_c _ (by omega)) ?_
 refine goE mixed ?_
 refine callR_pure (rtag_c 2 (by decide) _ (by omega)) ?_
 refine goE mixed ?_
 refine callR_hand 1 (by decide) ?_
 with_reducible refine sxE ?_
 refine callR_pure (rseq_c _ (by simp) (by simp only [List.flatten_cons, List.flatten_nil, List.append_nil, List.length_append]; omega)) ?_
 refine goE mixed ?_
 exact hd.symm
theorem rseal_a (k : Key) (h : shK k) : PC Tryz.prog 52 [.agg (KeyT.cells k)] (.isl .u8 (keyA k)) := by
 have hk := rkey_a k h
 refine pc_seal rfl rfl ?_
 refine runE mixed fi52 ?_
 refine callI_pure hk ?_
 refine goE mixed ?_; trivial
theorem rapp_a (n : Int) (b : List UInt8) (hb : b.length ≤ 1048576) : PC Tryz.prog 45 [rI n, .isl .u8 b] (.isl .u8 (elemS (byteOf (96 + n)) [b])) := by
 have hw : byteOf (IntKind.i64.wrap (96 + n)) = byteOf (96 + n) := by
  unfold byteOf
  rw [u8w, u8w]
  have : IntKind.i64.wrap (96 + n) % 256 = (96 + n) % 256 := by
   simp only [IntKind.wrap, IntKind.bits, IntKind.signed]
   omega
  rw [this]
 refine pc_seal rfl rfl ?_
 refine runE mixed fi45 ?_
 refine callI_pure (tlv_k (byteOf (96 + n)) (IntKind.i64.wrap (96 + n)) hw b hb) ?_
 refine goE mixed ?_; trivial
def shT (t : Tick) : Prop := shP t.1 ∧ shK t.2
def tickA (t : Tick) : List UInt8 := elemS (byteOf (96 + 1)) [elemS 48 [wrapS 160 0 (intS 5), wrapS 160 1 (prinS t.1), wrapS 160 2 (keyA t.2)]]
theorem elem1_len (t : UInt8) (c : List UInt8) : (elemS t [c]).length ≤ c.length + 5 := by
 have := elemS_len t [c]
 simpa using this
theorem tickA_len {t : Tick} (h : shT t) : (tickA t).length ≤ 131200 := by
 have g0 := intS_len 5
 have g1 := prinS_sh h.1
 have g2 := keyA_len h.2
 have w0 := wrapS_len 160 0 (intS 5)
 have w1 := wrapS_len 160 1 (prinS t.1)
 have w2 := wrapS_len 160 2 (keyA t.2)
 have g8 := elemS_len 48 [wrapS 160 0 (intS 5), wrapS 160 1 (prinS t.1), wrapS 160 2 (keyA t.2)]
 simp only [List.flatten_cons, List.flatten_nil, List.append_nil, List.length_append] at g8
 have g9 := elem1_len (byteOf (96 + 1)) (elemS 48 [wrapS 160 0 (intS 5), wrapS 160 1 (prinS t.1), wrapS 160 2 (keyA t.2)])
 unfold tickA
 omega
theorem rtick_a (t : Tick) (h : shT t) : PC Tryz.prog 51 [.agg (TickT.cells t)] (.isl .u8 (tickA t)) := by
 have hd : tickA t = elemS (byteOf (96 + 1)) [elemS 48 [wrapS 160 0 (intS 5), wrapS 160 1 (prinS t.1), wrapS 160 2 (keyA t.2)]] := rfl
 have g0 := intS_len 5
 have g1 := prinS_sh h.1
 have g2 := keyA_len h.2
 have w0 := wrapS_len 160 0 (intS 5)
 have w1 := wrapS_len 160 1 (prinS t.1)
 have w2 := wrapS_len 160 2 (keyA t.2)
 have g8 := elemS_len 48 [wrapS 160 0 (intS 5), wrapS 160 1 (prinS t.1), wrapS 160 2 (keyA t.2)]
 simp only [List.flatten_cons, List.flatten_nil, List.append_nil, List.length_append] at g8
 have hs := rseal_a t.2 h.2
 have hp := rprin_a t.1 h.1
 generalize tickA t = R at *
 obtain ⟨p, s⟩ := t
 dsimp only at *
 refine pc_seal rfl rfl ?_
 refine runE mixed fi51 ?_
 refine callR_pure (rint_i 5 (by decide)) ?_
 refine goE mixed ?_
 refine callR_pure (rtag_c 0 (by decide) _ (by omega)) ?_
 refine goE mixed ?_
 refine callR_pure hp ?_
 refine goE mixed ?_
 refine callR_pure (rtag_c 1 (by decide) _ (by omega)) ?_
 refine goE mixed ?_
 refine callR_pure hs ?_
 refine goE mixed ?_
 refine callR_pure (rtag_c 2 (by decide) _ (by omega)) ?_
 refine goE mixed ?_
 refine callR_hand 1 (by decide) ?_
 with_reducible refine sxE ?_
 refine callR_pure (rseq_c _ (by simp) (by simp only [List.flatten_cons, List.flatten_nil, List.append_nil, List.length_append]; omega)) ?_
 refine goE mixed ?_
 refine callR_pure (rapp_c 1 (by decide) _ (by omega)) ?_
 refine goE mixed ?_
 exact hd.symm
def shR (r : Rpl) : Prop := inI r.1 ∧ shD r.2.1 ∧ shP r.2.2.1 ∧ shT r.2.2.2.1 ∧ shK r.2.2.2.2
theorem wrap_i64 (x : Int) : -9223372036854775808 ≤ IntKind.i64.wrap x ∧ IntKind.i64.wrap x ≤ 9223372036854775807 := by
 simp [IntKind.wrap, IntKind.bits, IntKind.signed]
 omega
def kw (k : Int) : Int := IntKind.i64.wrap (k + 1)
def rplR (r : Rpl) : List (List UInt8) := [wrapS 160 0 (intS 5), wrapS 160 1 (intR (kw r.1)), wrapS 160 2 (preR2 r.2.1), wrapS 160 3 (prinS r.2.2.1), wrapS 160 4 (tickA r.2.2.2.1), wrapS 160 5 (keyA r.2.2.2.2)]
def rplA (r : Rpl) : List UInt8 := elemS (byteOf (96 + kw r.1)) [elemS 48 (rplR r)]
theorem rplR_fl {r : Rpl} (h : shR r) : (rplR r).flatten.length ≤ 1000000 := by
 obtain ⟨h1, h2, h3, h4, h5⟩ := h
 have g0 := intS_len 5
 have g1 := intR_len (kw r.1)
 have g2 := preR2_len h2
 have g3 := prinS_sh h3
 have g4 := tickA_len h4
 have g5 := keyA_len h5
 have w0 := wrapS_len 160 0 (intS 5)
 have w1 := wrapS_len 160 1 (intR (kw r.1))
 have w2 := wrapS_len 160 2 (preR2 r.2.1)
 have w3 := wrapS_len 160 3 (prinS r.2.2.1)
 have w4 := wrapS_len 160 4 (tickA r.2.2.2.1)
 have w5 := wrapS_len 160 5 (keyA r.2.2.2.2)
 unfold rplR
 simp only [List.flatten_cons, List.flatten_nil, List.append_nil, List.length_append]
 omega
theorem rencRpl_c (r : Rpl) (h : shR r) : PC Tryz.prog 12 [.agg (RplT.cells r)] (.isl .u8 (rplA r)) := by
 have hfl := rplR_fl h
 have hf : rplA r = elemS (byteOf (96 + kw r.1)) [elemS 48 (rplR r)] := rfl
 have hr : rplR r = [wrapS 160 0 (intS 5), wrapS 160 1 (intR (kw r.1)), wrapS 160 2 (preR2 r.2.1), wrapS 160 3 (prinS r.2.2.1), wrapS 160 4 (tickA r.2.2.2.1), wrapS 160 5 (keyA r.2.2.2.2)] := rfl
 have hki : -9223372036854775808 ≤ kw r.1 ∧ kw r.1 ≤ 9223372036854775807 := by
  exact wrap_i64 _
 obtain ⟨h1, h2, h3, h4, h5⟩ := h
 have g0 := intS_len 5
 have g1 := intR_len (kw r.1)
 have g2 := preR2_len h2
 have g3 := prinS_sh h3
 have g4 := tickA_len h4
 have g5 := keyA_len h5
 have g := elemS_len 48 (rplR r)
 have ht := rtick_a _ h4
 have hs := rseal_a _ h5
 generalize rplA r = R at *
 generalize rplR r = L at *
 obtain ⟨k, l, p, t, s⟩ := r
 dsimp only at *
 change Int at k
 have hk : IntKind.i64.wrap (k + 1) = kw k := rfl
 refine pc_seal rfl rfl ?_
 refine vc_fi fi12 (run_sound mixed 600 _ ?_)
 simp (maxSteps := 3000000) only [ir12, hk, go_sem, ↓zA, ↓reduceIte, ↓reduceDIte, reduceCtorEq, Nat.reduceAdd, Nat.reduceSub, Nat.reduceLeDiff, Nat.reduceLT, Nat.reduceEqDiff, Nat.reduceBEq, Nat.reduceMul, Int.reduceToNat, Int.reduceEq, Int.reduceLT, Int.reduceLE] <;> try simp only [zB]
 refine callR_pure (rint_i 5 (by decide)) ?_
 refine goE mixed ?_
 refine callR_pure (rtag_c 0 (by decide) _ (by omega)) ?_
 refine goE mixed ?_
 refine callR_pure (rint_a _ hki) ?_
 refine goE mixed ?_
 refine callR_pure (rtag_c 1 (by decide) _ (by omega)) ?_
 refine goE mixed ?_
 refine callR_pure (rpre_c l h2) ?_
 refine goE mixed ?_
 refine callR_pure (rtag_c 2 (by decide) _ (by omega)) ?_
 refine goE mixed ?_
 refine callR_pure (rprin_a p h3) ?_
 refine goE mixed ?_
 refine callR_pure (rtag_c 3 (by decide) _ (by omega)) ?_
 refine goE mixed ?_
 refine callR_pure (ht) ?_
 refine goE mixed ?_
 refine callR_pure (rtag_c 4 (by decide) _ (by omega)) ?_
 refine goE mixed ?_
 refine callR_pure (hs) ?_
 refine goE mixed ?_
 refine callR_pure (rtag_c 5 (by decide) _ (by omega)) ?_
 refine goE mixed ?_
 refine callR_hand 1 (by decide) ?_
 with_reducible refine sxE ?_
 rw [← hr]
 refine callR_pure (rseq_c _ (by rw [hr]; simp) (by omega)) ?_
 refine goE mixed ?_
 refine callR_pure (rapp_a (kw k) _ (by omega)) ?_
 refine goE mixed ?_
 exact hf.symm
end Go.Proofs.YthmoognbccfpiaaGreatDoor

/- Contracts: the reference's encoding of entries. -/
namespace Go.Proofs.YthmoognbccfpiaaGreatDoor
open Go Go.Sx Go.Proofs
set_option maxRecDepth 100000
set_option maxHeartbeats 4000000
set_option linter.unusedSimpArgs false

theorem keyS_el {k : Key} (h : keyOk k) : elemS 48 [wrapS 160 0 (intS k.1), wrapS 160 1 (intS k.2.1), wrapS 160 2 (elemS 4 [k.2.2])] = keyS k := by
 obtain ⟨a, v, c⟩ := k
 obtain ⟨ha, hv, hc⟩ := h
 obtain ⟨hS, hl⟩ := keyS_tlv a v c ha hv hc
 have e : ([wrapS 160 0 (intS a), wrapS 160 1 (intS v), wrapS 160 2 (elemS 4 [c])] : List (List UInt8)).flatten = sufS [intS a, intS v, elemS 4 [c]] 0 3 := by
  rw [sufS_succ, sufS_succ, sufS_succ]
  simp [sufS]
 rw [hS]
 show elemS 48 [wrapS 160 0 (intS a), wrapS 160 1 (intS v), wrapS 160 2 (elemS 4 [c])] = _
 rw [elemS_flat (by rw [e]; exact hl), e]
end Go.Proofs.YthmoognbccfpiaaGreatDoor

/- The plain law of the reference's reading: tickets and replies. -/
namespace Go.Proofs.YthmoognbccfpiaaGreatDoor
open Go Go.Sx Go.Proofs
set_option maxRecDepth 100000
set_option maxHeartbeats 4000000
set_option linter.unusedSimpArgs false

theorem keyA_ok {k : Key} (h : keyOk k) : keyA k = keyS k := by
 have he := keyS_el h
 obtain ⟨a, v, c⟩ := k
 obtain ⟨ha, hv, hc⟩ := h
 have e1 : intR a = intS a := intR_ok (by omega)
 have e2 : intR v = intS v := intR_ok (by omega)
 rw [← he]
 unfold keyA
 dsimp only
 rw [e1, e2]
theorem shK_ok {k : Key} (h : keyOk k) : shK k := by
 obtain ⟨a, v, c⟩ := k
 obtain ⟨ha, hv, hc⟩ := h
 exact ⟨⟨Int.le_trans (by decide) ha.1, Int.le_trans ha.2 (by decide)⟩, ⟨Int.le_trans (by decide) hv.1, Int.le_trans hv.2 (by decide)⟩, hc⟩
theorem shT_ok {t : Tick} (h : vTick t = true) : shT t := by
 obtain ⟨p, s⟩ := t
 simp only [vTick, Bool.and_eq_true] at h
 exact ⟨shP_ok h.1, shK_ok (vSeal_ok h.2)⟩
theorem tickA_ok {t : Tick} (h : vTick t = true) : tickA t = tickE t := by
 have hE := tickS_eq t
 have hne := tickS_ne h
 have h0 := tickE_ok h
 obtain ⟨p, s⟩ := t
 simp only [vTick, Bool.and_eq_true] at h
 have e1 : prinS p = prinE p := prinS_ok h.1
 have e2 := keyA_ok (vSeal_ok h.2)
 have hL : [wrapS 160 0 (intS 5), wrapS 160 1 (prinS p), wrapS 160 2 (keyA s)] = tagN (tickL (p, s)) 3 := by
  rw [e1, show keyA s = keyS s from e2]
  simp [tagN, List.range_succ, tickL]
 have hz : tagS (tickL (p, s)) ≠ [] := fun e => by
  rw [hE, e] at hne
  exact hne (by simp [wrapS])
 rw [h0, hE]
 unfold tickA
 dsimp only
 rw [hL]
 unfold wrapS
 rw [if_pos ⟨by decide, by decide, hz⟩]
 rfl
theorem kw_ok {n : Nat} (hn : n = 10 ∨ n = 12) {k : Int} (hk : k = (n : Nat)) : kw k = kp k := by
 unfold kw kp
 exact wrapi (by omega)
theorem shR_ok {r : Rpl} (h : sRpl r = true) : shR r := by
 obtain ⟨k, l, p, t, s⟩ := r
 have hd : sRpl (k, l, p, t, s) = (vKind k && (vPre l && (vPrin p && (vTick t && vSeal s)))) := rfl
 rw [hd] at h
 simp only [Bool.and_eq_true] at h
 obtain ⟨h1, h2, h3, h4, h5⟩ := h
 obtain ⟨n, hk, hn⟩ := vKind_n h1
 have hi : inI k := by
  rw [hk]
  rcases hn with rfl | rfl <;> exact ⟨by decide, by decide⟩
 exact ⟨hi, shD_ok h2, shP_ok h3, shT_ok h4, shK_ok (vSeal_ok h5)⟩
theorem rplA_ok {r : Rpl} (h : sRpl r = true) : rplA r = rplS r := by
 have hE := rplS_eq r
 obtain ⟨k, l, p, t, s⟩ := r
 have hd : sRpl (k, l, p, t, s) = (vKind k && (vPre l && (vPrin p && (vTick t && vSeal s)))) := rfl
 have h' := h
 rw [hd] at h
 clear hd
 simp only [Bool.and_eq_true] at h
 obtain ⟨h1, h2, h3, h4, h5⟩ := h
 obtain ⟨n, hk, hn⟩ := vKind_n h1
 have hS := (rpl_at n hn k hk l p t s h').1
 have ek : kp k = ((n + 1 : Nat) : Int) := by unfold kp; omega
 have e1 : intR (kw k) = intS (kp k) := by rw [kw_ok hn hk]; exact intR_ok (by omega)
 have hL : rplR (k, l, p, t, s) = tagN (rplL (k, l, p, t, s)) 6 := by
  unfold rplR
  dsimp only
  rw [e1, preR2_ok h2, prinS_ok h3, tickA_ok h4, show keyA s = keyS s from keyA_ok (vSeal_ok h5)]
  simp [tagN, List.range_succ, rplL]
 have hz : tagS (rplL (k, l, p, t, s)) ≠ [] := fun e => by
  rw [hE, e] at hS
  exact tlv_ne (hS.symm.trans (by simp [wrapS]))
 unfold rplA
 dsimp only
 rw [hE, hL, kw_ok hn hk]
 unfold wrapS
 dsimp only
 rw [if_pos ⟨by omega, by omega, hz⟩]
 rfl
def tickG (x : List UInt8) : Tick := (prnR (itmR (conR x) 1), keyR (itmR (conR x) 2))
def rpG (b : List UInt8) : Rpl := ((gIntR (itmR (conR b) 1) : Int) - 1, preG (itmR (conR b) 2), prnR (itmR (conR b) 3), tickG (itmR (conR b) 4), keyR (itmR (conR b) 5))
theorem tick_back {t : Tick} (h : vTick t = true) : tickG (tickS t) = t := by
 obtain ⟨hS, hL, hs, _⟩ := tick_at h
 have hL' : ∀ j, ((tickL t).getD j []).length ≤ 16777215 := fun j => Nat.le_trans (hL j) (by decide)
 have hs' : (sufS (tickL t) 0 3).length ≤ 16777215 := by omega
 have hl48 : (tlv 48 (sufS (tickL t) 0 3)).length ≤ 16777215 := by
  rw [tlv_length]; have := lenS_len (sufS (tickL t) 0 3).length; omega
 unfold tickG
 rw [hS, conR_tlv' _ _ hl48, itm_seq (m := 1) (k := 3) hL' (by omega) (by omega) hs', itm_seq (m := 2) (k := 3) hL' (by omega) (by omega) hs']
 obtain ⟨p, s⟩ := t
 simp only [vTick, Bool.and_eq_true] at h
 show (prnR (prinE p), keyR (keyS s)) = (p, s)
 rw [(prn_back h.1).1, (key_back (vSeal_ok h.2)).1]
theorem rpG_back {r : Rpl} (h : sRpl r = true) : rpG (rplS r) = r := by
 obtain ⟨k, l, p, t, s⟩ := r
 have hd : sRpl (k, l, p, t, s) = (vKind k && (vPre l && (vPrin p && (vTick t && vSeal s)))) := rfl
 have h' := h
 rw [hd] at h
 clear hd
 simp only [Bool.and_eq_true] at h
 obtain ⟨h1, h2, h3, h4, h5⟩ := h
 obtain ⟨n, hk, hn⟩ := vKind_n h1
 obtain ⟨hS, hL, hs, _⟩ := rpl_at n hn k hk l p t s h'
 have ek : kp k = ((n + 1 : Nat) : Int) := by unfold kp; omega
 have hl48 : (tlv 48 (sufS (rplL (k, l, p, t, s)) 0 6)).length ≤ 16777215 := by
  rw [tlv_length]; have := lenS_len (sufS (rplL (k, l, p, t, s)) 0 6).length; omega
 have hs' : (sufS (rplL (k, l, p, t, s)) 0 6).length ≤ 16777215 := by omega
 unfold rpG
 rw [hS, conR_tlv' _ _ hl48]
 rw [itm_seq (m := 1) (k := 6) hL (by omega) (by omega) hs', itm_seq (m := 2) (k := 6) hL (by omega) (by omega) hs', itm_seq (m := 3) (k := 6) hL (by omega) (by omega) hs', itm_seq (m := 4) (k := 6) hL (by omega) (by omega) hs', itm_seq (m := 5) (k := 6) hL (by omega) (by omega) hs']
 show (((gIntR (intS (kp k)) : Nat) : Int) - 1, preG (preO l), prnR (prinE p), tickG (tickE t), keyR (keyS s)) = _
 have e1 : ((gIntR (intS (kp k)) : Nat) : Int) = kp k := gInt_ok (by omega)
 rw [e1, pre_back h2, (prn_back h3).1, tickE_ok h4, tick_back h4, (key_back (vSeal_ok h5)).1]
 have e2 : kp k - 1 = k := by unfold kp; omega
 rw [e2]
theorem decRplG_eq (b : List UInt8) : (if vRpl (rpG b) = true ∧ rplS (rpG b) = b then some (rpG b) else none) = decRpl b := by
 split
 · rename_i h
   exact (decRpl_of h.1 h.2).symm
 · rename_i h
   cases hd : decRpl b with
   | none => rfl
   | some r =>
    exfalso
    obtain ⟨h1, h2⟩ := decRpl_some hd
    have h3 : sRpl r = true := by unfold vRpl at h1; rw [Bool.and_eq_true] at h1; exact h1.1
    have h4 : rpG b = r := by rw [← h2]; exact rpG_back h3
    rw [h4] at h
    exact h ⟨h1, h2⟩
end Go.Proofs.YthmoognbccfpiaaGreatDoor

/- Contracts: the reference's reading of keys, names, key sets. -/
namespace Go.Proofs.YthmoognbccfpiaaGreatDoor
open Go Go.Sx Go.Proofs
set_option maxRecDepth 100000
set_option maxHeartbeats 4000000
set_option linter.unusedSimpArgs false

theorem rgetKey_c (b : List UInt8) (hb : b.length ≤ 1048576) : PC Tryz.prog 103 [.isl .u8 b] (.agg (KeyT.cells (keyR b))) := by
 have q0 := itmR_len b 0
 have q1 := itmR_len b 1
 have q2 := itmR_len b 2
 refine pc_seal rfl rfl ?_
 refine runE mixed fi103 ?_
 refine callI_pure (item_c b 0 (by omega) (by omega)) ?_
 refine goE mixed ?_
 refine callI_pure (getInt_c _ (by omega)) ?_
 refine goE mixed ?_
 refine callI_pure (item_c b 1 (by omega) (by omega)) ?_
 refine goE mixed ?_
 refine callI_pure (getInt_c _ (by omega)) ?_
 refine goE mixed ?_
 refine callI_pure (item_c b 2 (by omega) (by omega)) ?_
 refine goE mixed ?_
 refine callI_pure (getBytes_c _ (by omega)) ?_
 refine goE mixed ?_
 exact ⟨rfl, rfl, rfl⟩
def srN (l : List (List UInt8)) (i : Nat) : List ByteArray := (l.take i).map sR
theorem srN_succ {l : List (List UInt8)} {i : Nat} (h : i < l.length) : srN l (i + 1) = srN l i ++ [sR (l.getD i (Ty.slice .u8).dflt)] := by unfold srN; rw [take_succ_getD (d := (Ty.slice .u8).dflt) h]; simp
theorem srN_len {l : List (List UInt8)} {i : Nat} (h : i ≤ l.length) : (srN l i).length = i := by simp [srN]; omega
theorem sR_size (x : List UInt8) : (sR x).size ≤ x.length := by
 have := conR_len x
 unfold sR
 show (conR x).toArray.size ≤ _
 simpa using this
theorem rgetPrin_c (b : List UInt8) (hb : b.length ≤ 1048576) : PC Tryz.prog 42 [.isl .u8 b] (.agg (PrinT.cells (prnR b))) := by
 have q0 := itmR_len b 0
 have q1 := itmR_len b 1
 have hc := contents_c (itmR b 0) (by omega)
 have hl := conR_len (itmR b 0)
 have he := elements_c (conR (itmR b 0)) (by omega)
 have hm := elsR_mem (conR (itmR b 0)).length (conR (itmR b 0))
 have hle := elsR_len (conR (itmR b 0)).length (conR (itmR b 0))
 have hd : prnR b = ((elsR (conR (itmR b 0)).length (conR (itmR b 0))).map sR, sR (itmR b 1)) := rfl
 rw [hd]
 clear hd
 generalize elsR (conR (itmR b 0)).length (conR (itmR b 0)) = l at *
 refine pc_seal rfl rfl ?_
 refine runE mixed fi42 ?_
 refine callI_pure (item_c b 0 (by omega) (by omega)) ?_
 refine goE mixed ?_
 refine callI_pure hc ?_
 refine goE mixed ?_
 refine callI_pure he ?_
 refine goE mixed ?_
 refine si_nilcell 1 0 .str rfl rfl rfl ?_
 with_reducible refine sxE ?_
 refine si_loopX (ι := Nat × List SObj) (fun s => [(5, rI s.1)]) (fun s => [.cells 26 [.raw (.slice none 0 0), rS ⟨#[]⟩], .cells 26 [.bld (s.2.length + 2) .str (srN l s.1).length, rS ⟨#[]⟩]] ++ s.2 ++ [.row .str (srN l s.1)]) (fun s => l.length - s.1) (fun s => s.1 ≤ l.length) (0, []) (Nat.zero_le _) rfl ?_ ?_
 · with_reducible refine sxE ?_; trivial
 rintro ⟨i, G⟩ hi
 dsimp only at hi
 have hwr : IntKind.i64.wrap ((i : Int) + 1) = ((i + 1 : Nat) : Int) := wrap_succ (by omega)
 have hln := srN_len hi
 refine run_sound mixed 12 _ ?_
 with_reducible refine sxaE ?_
 refine ⟨fun hlt => ?_, fun hge => ?_⟩
 · have hmm := hm _ (getD_mem (d := (Ty.slice .u8).dflt) hlt)
   have hst := srN_succ hlt
   have hsz := sR_size (l.getD i (Ty.slice .u8).dflt)
   refine si_drw [1] mixed ?_
   refine goaE mixed ?_
   refine ⟨⟨by omega, hlt⟩, callR_pure (contents_c _ (by omega)) ?_⟩
   refine goaE mixed ?_


   refine ⟨by show (sR _).size ≤ _; omega, ⟨by omega, by omega⟩, (i + 1, G ++ [.dead, .row .str [sR (l.getD i (Ty.slice .u8).dflt)]]), by dsimp only; omega, by dsimp only; omega, ?_, ?_⟩
   · simp [hst]
     rfl
   · simp (maxSteps := 3000000) only [hwr, List.append_assoc, getA, getA0, setA, setA0, List.length_append, Nat.add_assoc, go_sem, ↓zA, ↓reduceIte, ↓reduceDIte, reduceCtorEq, Nat.reduceAdd, Nat.reduceSub, Nat.reduceLeDiff, Nat.reduceLT, Nat.reduceEqDiff, Nat.reduceBEq, Nat.reduceMul, Int.reduceToNat, Int.reduceEq, Int.reduceLT, Int.reduceLE] <;> try simp only [zB]
 · obtain rfl : i = l.length := by omega
   refine goaE mixed ?_
   refine callI_pure (item_c b 1 (by omega) (by omega)) ?_
   refine goaE mixed ?_
   refine callI_pure (contents_c _ (by omega)) ?_
   refine goaE mixed ?_
   exact ⟨⟨Nat.le_refl _, by omega⟩, by rw [List.take_length]; unfold srN; rw [List.take_length], rfl⟩
end Go.Proofs.YthmoognbccfpiaaGreatDoor

/- Contracts: the reference's decoding of an entry; both decoders tell the same. -/
namespace Go.Proofs.YthmoognbccfpiaaGreatDoor
open Go Go.Sx Go.Proofs
set_option maxRecDepth 100000
set_option maxHeartbeats 4000000
set_option linter.unusedSimpArgs false

theorem elt_len (x : List UInt8) : (eltR x).length ≤ x.length := Nat.le_trans (elsR_len _ _) (conR_len x)
theorem elt_mem {x y : List UInt8} (h : y ∈ eltR x) : y.length ≤ x.length := Nat.le_trans (elsR_mem _ _ y h).2 (conR_len x)
theorem okR_map {t : Ty} {f : List UInt8 → t.den} {x : List UInt8} (hx : x.length ≤ 1048576) (h : ∀ y, y.length ≤ 1048576 → t.ok (f y)) : (Ty.slice t).ok ((eltR x).map f) := by
 refine ⟨by rw [List.length_map]; have := elt_len x; omega, fun z hz => ?_⟩
 obtain ⟨y, hy, rfl⟩ := List.mem_map.1 hz
 exact h y (Nat.le_trans (elt_mem hy) hx)
theorem okR_str {y : List UInt8} (h : y.length ≤ 1048576) : (Ty.str).ok (sR y) := by
 have := sR_size y
 show (sR y).size ≤ _
 omega
theorem okR_con {y : List UInt8} (h : y.length ≤ 1048576) : (Ty.slice .u8).ok (conR y) := ⟨by have := conR_len y; show (conR y).length ≤ _; omega, fun _ _ => trivial⟩
theorem itm_le {y : List UInt8} (n : Nat) (h : y.length ≤ 1048576) : (itmR y n).length ≤ 1048576 := Nat.le_trans (itmR_len y n) h
theorem okR_prn {y : List UInt8} (h : y.length ≤ 1048576) : PrinT.ok (prnR y) := ⟨okR_map (t := .str) (itm_le 0 h) fun _ hz => okR_str hz, okR_str (itm_le 1 h)⟩
theorem okR_key {y : List UInt8} (h : y.length ≤ 1048576) : KeyT.ok (keyR y) := ⟨trivial, trivial, okR_con (itm_le 2 h)⟩
end Go.Proofs.YthmoognbccfpiaaGreatDoor

