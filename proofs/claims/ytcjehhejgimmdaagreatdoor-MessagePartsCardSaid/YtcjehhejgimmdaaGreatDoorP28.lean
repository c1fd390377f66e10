/- MessageParts: the law answers true. -/
import Derived.Test.YtcjehhejgimmdaaGreatDoorP26
import Derived.Test.YtcjehhejgimmdaaGreatDoorP27
set_option linter.all false
namespace Go.Proofs.YtcjehhejgimmdaaGreatDoor
open Go Go.Sx Go.Proofs
set_option maxRecDepth 100000
set_option maxHeartbeats 4000000
def ptB (p : Part) : Bool := decide ((p.1.2.2.length : Int) ≤ 300) && (shortB p.2.2.2.2.2.1 && fewB p.2.2.2.2.2.2)
theorem z9i (p : Part) (ho : PartT.ok p) : PC Tryz.prog 4 [.agg (PartT.cells p)] (rB (ptB p)) := by
 obtain ⟨⟨a, v, c⟩, n, e, f, ⟨x, s, d, w⟩, q, l⟩ := p
 obtain ⟨o1, _, _, _, _, o6, o7⟩ := ho
 have hd : ptB ((a, v, c), n, e, f, (x, s, d, w), q, l) = (decide ((c.length : Int) ≤ 300) && (shortB q && fewB l)) := rfl
 rw [hd]
 refine q0B rfl rfl ?_
 refine rQ fi4 ?_ <;> try with_reducible exact True.intro
 repeat' (first
  | (refine q0a (q8C _ o6) ?_; refine uQ 600 _ ?_; simp (maxSteps := 3000000) only [go_sem, ↓zA, ↓reduceIte, ↓reduceDIte] <;> try simp only [zB])
  | (refine q0b (q8C _ o6) ?_; refine uQ 600 _ ?_; simp (maxSteps := 3000000) only [go_sem, ↓zA, ↓reduceIte, ↓reduceDIte] <;> try simp only [zB])
  | (refine q0t (q8C _ o6) ?_; refine uQ 600 _ ?_; simp (maxSteps := 3000000) only [go_sem, ↓zA, ↓reduceIte, ↓reduceDIte] <;> try simp only [zB])
  | (refine q0a (z0D _ o7.1) ?_; refine uQ 600 _ ?_; simp (maxSteps := 3000000) only [go_sem, ↓zA, ↓reduceIte, ↓reduceDIte] <;> try simp only [zB])
  | (refine q0b (z0D _ o7.1) ?_; refine uQ 600 _ ?_; simp (maxSteps := 3000000) only [go_sem, ↓zA, ↓reduceIte, ↓reduceDIte] <;> try simp only [zB])
  | (refine q0t (z0D _ o7.1) ?_; refine uQ 600 _ ?_; simp (maxSteps := 3000000) only [go_sem, ↓zA, ↓reduceIte, ↓reduceDIte] <;> try simp only [zB])
  | (with_reducible refine And.intro ?_ ?_)
  | (with_reducible intro _))
 all_goals ((simp_all <;> (intros; omega)))
theorem j2F {p : Part} (h : ptB p = true) (hr : PartT.inR p) : shPt p := by
 simp only [ptB, Bool.and_eq_true, decide_eq_true_eq] at h
 obtain ⟨h1, h2, h3⟩ := h
 exact ⟨⟨hr.1.1, hr.1.2.1, by omega⟩, hr.2.1, hr.2.2.2.1, z6S h2, j2G h3 hr.2.2.2.2.2.2⟩
theorem z3z {k : Int} {b : List UInt8} (hb : b.length ≤ 1099511627776) : PartT.ok ((decPart k b).getD PartT.dflt) := by
 cases h : decPart k b with
 | none => exact ⟨⟨trivial, trivial, z1G⟩, trivial, trivial, trivial, ⟨trivial, trivial, trivial, trivial⟩, j2O, z1G⟩
 | some r =>
  unfold decPart at h
  split at h
  · generalize (partN k).toNat = m at h
    unfold decPt allP at h
    cases hx : partP m b with
    | error e' => rw [hx] at h; cases h
    | ok y =>
     obtain ⟨u, q⟩ := y
     rw [hx] at h
     have := (z2o m b u q hb hx).1
     by_cases hm : q < b.length
     · simp [hm] at h
     simp [hm] at h
     exact h.2 ▸ this
  cases h
theorem z4X (k : Int) (p : Part) (ho : PartT.ok p) (hr : PartT.inR p) (b : List UInt8) : PC Tryz.prog 3 [rI k, .agg (PartT.cells p), .isl .u8 b] (rB true) := by
 have cf := z9i p ho
 have hsh := fun h => j2F (p := p) h hr
 have cv := z1y p ho hr.2.2.2.1
 have ce := z6m k p ho
 have cd := fun hb => z5i k b hb
 have cr := fun hb => z3u k b hb
 have cm := z0s p ho
 have ck := z4A k
 have cs := fun hb => z0Y _ (z3z (k := k) (b := b) hb)
 have cw := fun h => q7c k p (hsh h)
 have cl : PC Tryz.prog 11 [.isl .u8 (if vKind k && sPart p then partS k p else []), rI (if vKind k && sPart p then 0 else 2), rB (sPart p && vKind k), .isl .u8 (partA k p)] (rB true) := by
  have := j1a (if vKind k && sPart p then partS k p else []) (partA k p) (if vKind k && sPart p then 0 else 2) (sPart p && vKind k)
  rw [Bool.and_comm (sPart p)] at this ⊢
  cases hv : (vKind k && sPart p) with
  | false => rw [hv] at this; simpa using this
  | true =>
   have h2 := hv
   rw [Bool.and_eq_true] at h2
   rw [hv, q8L h2.1 h2.2] at this
   rw [q8L h2.1 h2.2]
   simpa using this
 clear hsh
 generalize (decPart k b).getD PartT.dflt = y at *
 generalize (if vKind k then (if (decPart k b).isSome then (0 : Int) else 6) else 2) = g at *
 generalize ptB p = fb at *
 generalize partA k p = w at *
 generalize partS k p = w' at *
 generalize sPart p = v at *
 generalize vKind k = vk at *
 obtain ⟨ky, n, e, f, ⟨a, s, d, x⟩, q, l⟩ := p
 cases v with
 | false =>
  simp only [Bool.and_true, Bool.and_false, Bool.true_and, Bool.false_and, Bool.false_eq_true, if_false] at cl ce
  refine q0B rfl rfl ?_
  refine rQ fi3 ?_
  refine q0a cf ?_
  refine gQ ?_
  refine ⟨fun hf => ⟨fun h => q0a q3V ?_, fun hle => q0a cv ?_⟩, fun hf => q0a q3V ?_⟩
  rotate_left
  rotate_left
  · refine gQ ?_; trivial
  · refine gQ ?_; trivial
  refine gQ ?_
  refine q0a ce ?_
  refine gQ ?_
  refine q0a (cd (by omega)) ?_
  refine gQ ?_
  refine q0a (cr (by omega)) ?_
  refine gQ ?_
  refine q0b cm ?_
  refine gQ ?_
  refine q0b (cw hf) ?_
  refine gQ ?_
  refine q0b cl ?_
  refine gQ ?_
  refine q0b (cs (by omega)) ?_
  refine gQ ?_
  refine q0b (q3t _) ?_
  refine gQ ?_
  refine q0b q3V ?_
  refine gQ ?_; trivial
 | true =>
  simp only [Bool.and_true, Bool.and_false, Bool.true_and, Bool.false_and, Bool.false_eq_true, if_false] at cl ce
  refine q0B rfl rfl ?_
  refine rQ fi3 ?_
  refine q0a cf ?_
  refine gQ ?_
  refine ⟨fun hf => ⟨fun h => q0a q3V ?_, fun hle => q0a cv ?_⟩, fun hf => q0a q3V ?_⟩
  rotate_left
  rotate_left
  · refine gQ ?_; trivial
  · refine gQ ?_; trivial
  refine gQ ?_
  refine q0a ce ?_
  refine gQ ?_
  refine q0a (cd (by omega)) ?_
  refine gQ ?_
  refine q0a (cr (by omega)) ?_
  refine gQ ?_
  refine q0b cm ?_
  refine gQ ?_
  refine q0b ck ?_
  refine gQ ?_
  refine q0b (cw hf) ?_
  refine gQ ?_
  refine q0b cl ?_
  refine gQ ?_
  refine q0b (cs (by omega)) ?_
  refine gQ ?_
  refine q0b (q3t _) ?_
  refine gQ ?_
  refine q0b q3V ?_
  refine gQ ?_; trivial
end Go.Proofs.YtcjehhejgimmdaaGreatDoor
