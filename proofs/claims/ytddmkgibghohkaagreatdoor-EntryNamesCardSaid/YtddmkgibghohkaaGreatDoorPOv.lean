/- The law's loop over names. -/
import Derived.Test.YtddmkgibghohkaaGreatDoorP21
import Derived.Test.YtddmkgibghohkaaGreatDoorPRf4
set_option linter.unusedSimpArgs false
set_option linter.unusedVariables false
set_option linter.unusedSectionVars false
namespace Go.Proofs.YtddmkgibghohkaaGreatDoor
open Go Go.Sx Go.Proofs
set_option maxRecDepth 100000
set_option maxHeartbeats 4000000
set_option linter.unusedSimpArgs false

def ovC (xs : List Prin) (many k : Int) : List SObj := [.cells 25 [.isl PrinT xs], .cells 3 [rI many], .cells 4 [.raw (.bool false)], .cells 3 [rI k]]
def ovH (xs : List Prin) (many : Int) (i : Nat) (H' : List SObj) : Prop := (i = 0 ∨ (i : Int) < many) ∧ ∃ G, H' = ovC xs many i ++ G
def ovX (xs : List Prin) (many : Int) (i : Nat) (ex : Ex) (H' : List SObj) : Prop := ex = .exit 0 ∧ (i = 0 ∨ (i : Int) < many) ∧ many ≤ i + 1 ∧ ∃ G, H' = ovC xs many (i + 1 : Nat) ++ G
def qmN (l : List ByteArray) (j : Nat) : List ByteArray := List.replicate j ⟨#[63]⟩ ++ l.drop j
theorem qmN_len {l : List ByteArray} {j : Nat} (h : j ≤ l.length) : (qmN l j).length = l.length := by simp [qmN]; omega
theorem qmN_set {l : List ByteArray} {j : Nat} (h : j < l.length) : (qmN l j).set j ⟨#[63]⟩ = qmN l (j + 1) := by
 unfold qmN
 rw [List.set_append_right _ _ (by simp)]
 simp only [List.length_replicate, Nat.sub_self]
 rw [List.drop_eq_getElem_cons h, List.set_cons_zero, List.replicate_succ', List.append_assoc]
 rfl
theorem over_c (xs : List Prin) (many : Int) (hok : (Ty.slice PrinT).ok xs) (hx : ∀ p ∈ xs, p.1.length ≤ 8796093022208) (hne : 0 < xs.length) : PC Tryz.prog 30 [.fn 62 [] [.iptr (.slice PrinT) xs 0], .isl PrinT xs, rI many] (rB true) := by
 have hlen := hok.1
 refine pc_of rfl rfl (vc_noFG (vcg_top noFG fi30 ?_))
 letI : Ghost := topG noFG []
 refine run_sound mixed 600 _ ?_
 with_reducible refine sxE ?_
 refine si_rf (ovH xs many) (ovX xs many) rfl rfl rfl (names_it xs hok hx) (fun i n args' new h => by rw [h.1]; rfl) ⟨.inl rfl, [], rfl⟩ rfl ?_ ?_ ?_
 · rintro i _ args' new hi ⟨hk, G, rfl⟩ ⟨rfl, rfl⟩ L1 L2
   letI : Ghost := pinG noFG L1
   unfold ovC
   generalize hp : xs.getD i PrinT.dflt = p
   refine run_sound mixed 600 _ ?_
   simp only [putL, List.toList_toArray]
   with_reducible refine sxaE ?_
   letI : Ghost := pinG noFG L2
   refine run_sound mixed 3 _ ?_
   with_reducible refine sxaE ?_
   refine si_drw [0, 3, G.length + 5] mixed ?_
   refine run_sound mixed 600 _ ?_
   with_reducible refine sxaE ?_
   refine ⟨fun _ => ⟨⟨by omega, hi⟩, ?_⟩, fun h => absurd hi (by omega)⟩
   rw [hp]
   have hpl : p.1.length ≤ 8796093022208 := hp ▸ hx _ (getD_mem hi)
   refine callR_borrow (G.length + 4) (args' := [.agg (PrinT.cells p), .agg (PrinT.cells p)]) ?_ rfl (rsp_c p p (hp ▸ hok.2 _ (getD_mem hi))) ?_
   · unfold borrowC
     with_reducible refine sxaE ?_
     exact ⟨by omega, Nat.le_refl _, by rw [List.take_length]⟩
   refine run_sound mixed 600 _ ?_
   with_reducible refine sxaE ?_
   refine si_loopX (ι := Nat) (fun j => [(9, rI j)]) (fun j => .cells 25 [.isl PrinT xs] :: .cells 3 [rI many] :: .cells 4 [.raw (.bool false)] :: .cells 3 [rI i] :: (G ++ [.row .str (qmN p.1 j), .cells 24 [.bld (G.length + 4) .str p.1.length, .raw (.string p.2)]])) (fun j => p.1.length - j) (fun j => j ≤ p.1.length) 0 (Nat.zero_le _) rfl ?_ fun j hj => ?_
   · with_reducible refine sxaE ?_; trivial
   refine run_sound mixed 600 _ ?_
   with_reducible refine sxaE ?_
   have hwr : IntKind.i64.wrap ((j : Int) + 1) = ((j + 1 : Nat) : Int) := wrap_succ (by omega)
   have hwi : IntKind.i64.wrap ((i : Int) + 1) = ((i + 1 : Nat) : Int) := wrap_succ (by omega)
   refine ⟨fun hlt => ⟨⟨by omega, hlt⟩, ⟨by rw [Nat.zero_add, qmN_len hj]; exact hlt, by decide⟩, j + 1, hlt, by dsimp only; omega, by rw [Nat.zero_add, qmN_set hlt], ?_⟩, fun hge => ⟨fun hm => ?_, fun hm => ?_⟩⟩
   · simp (maxSteps := 3000000) only [hwr, List.append_assoc, getA, getA0, setA, setA0, List.length_append, Nat.add_assoc, go_sem, ↓zA, ↓reduceIte, ↓reduceDIte, reduceCtorEq, Nat.reduceAdd, Nat.reduceSub, Nat.reduceLeDiff, Nat.reduceLT, Nat.reduceEqDiff, Nat.reduceBEq, Nat.reduceMul, Int.reduceToNat, Int.reduceEq, Int.reduceLT, Int.reduceLE] <;> try simp only [zB]
   · rw [hwi] at hm
     refine ⟨rfl, hk, by omega, ?_⟩
     rw [hwi]
     exact ⟨_, rfl⟩
   · rw [hwi] at hm
     refine ⟨.inr (by omega), ?_⟩
     rw [hwi]
     exact ⟨_, rfl⟩
 · rintro D _ ⟨hk, G, rfl⟩
   unfold ovC
   letI : Ghost := topG noFG [D]
   refine goE mixed ?_
   unfold mxV
   simp only [Bool.false_eq_true, if_false, if_true]
   split <;> split <;> omega
 · rintro D i ex _ hi ⟨rfl, hk, hm, G, rfl⟩
   refine ⟨_, rfl, ?_⟩
   unfold ovC
   letI : Ghost := topG noFG [D]
   refine goE mixed ?_
   unfold mxV
   simp only [Bool.false_eq_true, if_false, if_true]
   split <;> split <;> omega
end Go.Proofs.YtddmkgibghohkaaGreatDoor
