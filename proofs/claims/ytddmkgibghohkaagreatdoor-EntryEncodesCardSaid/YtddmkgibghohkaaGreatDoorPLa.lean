/- The laws: EntryFinds, EntryChanges. -/
import Derived.Test.YtddmkgibghohkaaGreatDoorP29
set_option linter.unusedSimpArgs false
set_option linter.unusedVariables false
namespace Go.Proofs.YtddmkgibghohkaaGreatDoor
open Go Go.Sx Go.Proofs
set_option maxRecDepth 100000
set_option maxHeartbeats 4000000
set_option linter.unusedSimpArgs false

theorem zent_ok : EntT.ok EntT.dflt :=
 ⟨⟨⟨by decide, fun x hx => by cases hx⟩, okstr _ (by decide)⟩, ⟨by decide, fun x hx => by cases hx⟩, trivial, trivial, ⟨by decide, fun x hx => by cases hx⟩, okstr _ (by decide), trivial, trivial, trivial, trivial, trivial, trivial, trivial, ⟨by decide, fun x hx => by cases hx⟩, ⟨by decide, fun x hx => by cases hx⟩, ⟨by decide, fun x hx => by cases hx⟩⟩
end Go.Proofs.YtddmkgibghohkaaGreatDoor
