/- The laws: EntryFinds, EntryChanges. -/
import Derived.Test.YtddmkgibghohkaaGreatDoorP27
set_option linter.unusedSimpArgs false
set_option linter.unusedVariables false
namespace Go.Proofs.YtddmkgibghohkaaGreatDoor
open Go Go.Sx Go.Proofs
set_option maxRecDepth 100000
set_option maxHeartbeats 4000000
set_option linter.unusedSimpArgs false

theorem zent_ok : EntT.ok EntT.dflt :=
 ⟨⟨⟨by decide, fun x hx => by cases hx⟩, okstr _ (by decide)⟩, ⟨by decide, fun x hx => by cases hx⟩, trivial, trivial, ⟨by decide, fun x hx => by cases hx⟩, okstr _ (by decide), trivial, trivial, trivial, trivial, trivial, trivial, trivial, ⟨by decide, fun x hx => by cases hx⟩, ⟨by decide, fun x hx => by cases hx⟩, ⟨by decide, fun x hx => by cases hx⟩⟩
theorem withKeys_ok {e : Ent} {l : List KSet} (ho : EntT.ok e) (hl : (Ty.slice SetT).ok l) : EntT.ok (withKeys e l) :=
 ⟨ho.1, ho.2.1, ho.2.2.1, ho.2.2.2.1, hl, ho.2.2.2.2.2⟩
theorem addS_ok {e : Ent} {s : KSet} (ho : EntT.ok e) (hs : SetT.ok s) : EntT.ok (addS e s).1 := by
 unfold addS
 repeat' split
 all_goals first | exact zent_ok | skip
 refine withKeys_ok ho ⟨?_, fun x hx => ?_⟩
 · rename_i h
   have h' : ¬ 16 ≤ (List.length e.2.2.2.2.1 : Int) := h
   show (s :: e.2.2.2.2.1).length ≤ _
   rw [List.length_cons]
   omega
 · rcases List.mem_cons.1 hx with rfl | hx
   · exact hs
   · exact ho.2.2.2.2.1.2 x hx
end Go.Proofs.YtddmkgibghohkaaGreatDoor
