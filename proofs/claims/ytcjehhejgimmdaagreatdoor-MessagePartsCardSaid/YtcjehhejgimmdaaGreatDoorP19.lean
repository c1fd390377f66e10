/- Contracts: the reference on keys and principals. -/
import Derived.Test.YtcjehhejgimmdaaGreatDoorP16
set_option linter.all false
namespace Go.Proofs.YtcjehhejgimmdaaGreatDoor
open Go Go.Sx Go.Proofs
set_option maxRecDepth 100000
set_option maxHeartbeats 4000000
def inR (v lo hi : Int) : Bool := decide (lo ≤ v) && decide (v ≤ hi)
theorem z7Q (v lo hi : Int) : PC Tryz.prog 27 [rI v, rI lo, rI hi] (rB (inR v lo hi)) := by
 refine q0B rfl rfl ?_
 refine rQ fi27 ?_ <;> try with_reducible exact True.intro
 repeat' (first
  | (with_reducible refine And.intro ?_ ?_)
  | (with_reducible intro _))
 all_goals (grind [inR])
theorem z9M (p : Int) : PC Tryz.prog 149 [rI p] (rI (keyLen p)) := by
 refine q0B rfl rfl ?_
 refine rQ fi149 ?_ <;> try with_reducible exact True.intro
 repeat' (first
  | (with_reducible refine And.intro ?_ ?_)
  | (with_reducible intro _))
 all_goals (simp_all [keyLen])
theorem z3i (p : Int) : (0 < keyLen p) = (keyLen p ≠ 0) := by unfold keyLen; split <;> (try split) <;> simp
theorem j2R (k : Key) : PC Tryz.prog 75 [.agg (KeyT.cells k)] (rB (vKey k)) := by
 refine q0B rfl rfl ?_
 refine rQ fi75 ?_ <;> try with_reducible exact True.intro
 repeat' (first
  | (refine q0a (z9M _) ?_; refine uQ 600 _ ?_; simp (maxSteps := 3000000) only [go_sem, ↓zA, ↓reduceIte, ↓reduceDIte] <;> try simp only [zB])
  | (refine q0b (z9M _) ?_; refine uQ 600 _ ?_; simp (maxSteps := 3000000) only [go_sem, ↓zA, ↓reduceIte, ↓reduceDIte] <;> try simp only [zB])
  | (refine q0t (z9M _) ?_; refine uQ 600 _ ?_; simp (maxSteps := 3000000) only [go_sem, ↓zA, ↓reduceIte, ↓reduceDIte] <;> try simp only [zB])
  | (refine q0a (z7Q _ _ _) ?_; refine uQ 600 _ ?_; simp (maxSteps := 3000000) only [go_sem, ↓zA, ↓reduceIte, ↓reduceDIte] <;> try simp only [zB])
  | (refine q0b (z7Q _ _ _) ?_; refine uQ 600 _ ?_; simp (maxSteps := 3000000) only [go_sem, ↓zA, ↓reduceIte, ↓reduceDIte] <;> try simp only [zB])
  | (refine q0t (z7Q _ _ _) ?_; refine uQ 600 _ ?_; simp (maxSteps := 3000000) only [go_sem, ↓zA, ↓reduceIte, ↓reduceDIte] <;> try simp only [zB])
  | (with_reducible refine And.intro ?_ ?_)
  | (with_reducible intro _))
 all_goals (simp_all [vKey, inR, z3i])
theorem q4x {xs ys : List UInt8} : strOf xs = strOf ys ↔ xs = ys := by
 constructor
 · intro h
   have := congrArg (fun s : ByteArray => s.data.toList) h
   simpa [strOf] using this
 rintro rfl; rfl
theorem j2S (a b : Key) : PC Tryz.prog 61 [.agg (KeyT.cells a), .agg (KeyT.cells b)] (rB (decide (a = b))) := by
 obtain ⟨p, v, l⟩ := a
 obtain ⟨p', v', l'⟩ := b
 refine q0B rfl rfl ?_
 refine rQ fi61 ?_ <;> try with_reducible exact True.intro
 repeat' (first
  | (with_reducible refine And.intro ?_ ?_)
  | (with_reducible intro _))
 all_goals (simp_all [q4x])

def partAt (l : List ByteArray) (j : Nat) : Bool := vPart (l.getD j ByteArray.empty)
theorem j2V (p : Prin) (hp : PrinT.ok p) : PC Tryz.prog 29 [.agg (PrinT.cells p)] (rB (vPrin p)) := by
 obtain ⟨l, r⟩ := p
 have hl : l.length ≤ 1125899906842624 := hp.1.1
 have hd : vPrin (l, r) = ((decide (1 ≤ (l.length : Int)) && (decide ((l.length : Int) ≤ 4) && realmB r)) && allN l.length (partAt l)) := rfl
 refine q0B rfl rfl ?_
 refine rQ fi29 ?_
 refine q0W (fun i => [(3, .raw (.int .i64 ((i : Nat) : Int)))]) (l.length) (fun j => (partAt l) j = true) (by first | decide | simp) (fun i => rfl) ?_ fun i hi hall => ?_
 · (with_reducible refine sxE ?_ <;> try exact True.intro)
   all_goals (try rfl)
 have hwr := wsx i (by omega)
 refine gQ ?_
 have bad : i < (l.length) → (partAt l) i = false → allN (l.length) (partAt l) = false := fun hlt hv => q0k hlt hv
 have fin : ¬ i < (l.length) → allN (l.length) (partAt l) = true := fun h => q0p fun j hj => hall j (by omega)
 try dsimp only at bad fin hall
 repeat' (first
  | (refine q0a (z2b _ (hp.1.2 _ (q1g ‹_›))) ?_; refine uQ 600 _ ?_; simp (maxSteps := 3000000) only [go_sem, ↓zA, ↓reduceIte, ↓reduceDIte] <;> try simp only [zB])
  | (refine q0b (z2b _ (hp.1.2 _ (q1g ‹_›))) ?_; refine uQ 600 _ ?_; simp (maxSteps := 3000000) only [go_sem, ↓zA, ↓reduceIte, ↓reduceDIte] <;> try simp only [zB])
  | (refine q0t (z2b _ (hp.1.2 _ (q1g ‹_›))) ?_; refine uQ 600 _ ?_; simp (maxSteps := 3000000) only [go_sem, ↓zA, ↓reduceIte, ↓reduceDIte] <;> try simp only [zB])
  | (refine q0a (q8e _ hp.2) ?_; refine uQ 600 _ ?_; simp (maxSteps := 3000000) only [go_sem, ↓zA, ↓reduceIte, ↓reduceDIte] <;> try simp only [zB])
  | (refine q0b (q8e _ hp.2) ?_; refine uQ 600 _ ?_; simp (maxSteps := 3000000) only [go_sem, ↓zA, ↓reduceIte, ↓reduceDIte] <;> try simp only [zB])
  | (refine q0t (q8e _ hp.2) ?_; refine uQ 600 _ ?_; simp (maxSteps := 3000000) only [go_sem, ↓zA, ↓reduceIte, ↓reduceDIte] <;> try simp only [zB])
  | (with_reducible refine And.intro ?_ ?_)
  | (with_reducible intro _))
 all_goals (first | (with_reducible (refine (id ?_ : SoundI _ _ _))) | ((try simp only [Ty.dflt] at *); first | omega | (refine ⟨by omega, q1c hall (by grind [partAt, vPart, szB]), ⟨_, by first | rfl | exact List.append_assoc _ _ _ | (simp only [List.append_assoc, List.cons_append, List.nil_append]; rfl)⟩, ?_⟩; simp only [hwr, go_sem, ↓zA, ↓reduceIte, ↓reduceDIte] <;> (first | rfl | (grind [partAt, vPart, szB]))) | (refine ⟨_, rfl⟩) | (refine ⟨_, List.append_assoc _ _ _⟩) | (grind [partAt, vPart, szB])))
def eqAt {α : Type} [DecidableEq α] (l l' : List α) (d : α) (j : Nat) : Bool := decide (l.getD j d = l'.getD j d)
theorem sameN {α : Type} [DecidableEq α] (l l' : List α) (d : α) : (l = l') ↔ (l.length = l'.length ∧ allN l.length (eqAt l l' d) = true) := by
 constructor
 · rintro rfl
   exact ⟨rfl, q0p fun j _ => by simp [eqAt]⟩
 rintro ⟨h1, h2⟩
 apply List.ext_getElem h1
 intro j g1 g2
 have := q1S.1 h2 j g1
 simp only [eqAt, decide_eq_true_eq, List.getD_eq_getElem?_getD, List.getElem?_eq_getElem g1, List.getElem?_eq_getElem g2, Option.getD_some] at this
 exact this
theorem j1y (a b : Prin) (ha : PrinT.ok a) : PC Tryz.prog 62 [.agg (PrinT.cells a), .agg (PrinT.cells b)] (rB (decide (a = b))) := by
 obtain ⟨l, r⟩ := a
 obtain ⟨l', r'⟩ := b
 have hl : l.length ≤ 1125899906842624 := ha.1.1
 refine q0B rfl rfl ?_
 refine rQ fi62 ?_ <;> try with_reducible exact True.intro
 repeat' (first
  | (with_reducible refine And.intro ?_ ?_)
  | (with_reducible intro _))
 all_goals (skip)
 · grind
 · refine q0W (fun i => [(5, .raw (.int .i64 ((i : Nat) : Int)))]) (l.length) (fun j => (eqAt l l' ByteArray.empty) j = true) (by first | decide | simp) (fun i => rfl) ?_ fun i hi hall => ?_
   · (with_reducible refine sxE ?_ <;> try exact True.intro)
     all_goals (try rfl)
   have hwr := wsx i (by omega)
   refine gQ ?_
   have bad : i < (l.length) → (eqAt l l' ByteArray.empty) i = false → allN (l.length) (eqAt l l' ByteArray.empty) = false := fun hlt hv => q0k hlt hv
   have fin : ¬ i < (l.length) → allN (l.length) (eqAt l l' ByteArray.empty) = true := fun h => q0p fun j hj => hall j (by omega)
   try dsimp only at bad fin hall
   have key := sameN l l' ByteArray.empty
   repeat' (first
    | (with_reducible refine And.intro ?_ ?_)
    | (with_reducible intro _))
   all_goals (first | (with_reducible (refine (id ?_ : SoundI _ _ _))) | ((try simp only [Ty.dflt] at *); first | omega | (refine ⟨by omega, q1c hall (by grind [eqAt]), ⟨_, by first | rfl | exact List.append_assoc _ _ _ | (simp only [List.append_assoc, List.cons_append, List.nil_append]; rfl)⟩, ?_⟩; simp only [hwr, go_sem, ↓zA, ↓reduceIte, ↓reduceDIte] <;> (first | rfl | (grind [eqAt]))) | (refine ⟨_, rfl⟩) | (refine ⟨_, List.append_assoc _ _ _⟩) | (grind [eqAt])))
 grind

end Go.Proofs.YtcjehhejgimmdaaGreatDoor
