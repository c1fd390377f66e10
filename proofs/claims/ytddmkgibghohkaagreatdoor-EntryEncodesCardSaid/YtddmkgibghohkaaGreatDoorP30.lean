/- Contracts: the laws of encoded entries. -/
import Derived.Test.YtddmkgibghohkaaGreatDoorPKn
import Derived.Test.YtddmkgibghohkaaGreatDoorP28
import Derived.Test.YtddmkgibghohkaaGreatDoorP29
import Derived.Test.YtddmkgibghohkaaGreatDoorPLa
set_option linter.unusedSimpArgs false
set_option linter.unusedVariables false
namespace Go.Proofs.YtddmkgibghohkaaGreatDoor
open Go Go.Sx Go.Proofs
set_option maxRecDepth 100000
set_option maxHeartbeats 4000000
set_option linter.unusedSimpArgs false

theorem decEnt_ok (b : List UInt8) (hb : b.length ≤ 1099511627776) : EntT.ok ((decEnt b).getD EntT.dflt) := by
 cases h : decEnt b with
 | none => exact zent_ok
 | some e => exact (decEnt_attr hb h).1
theorem encodes_law (e : Ent) (ho : EntT.ok e) (ha : 0 ≤ e.2.2.1 ∧ e.2.2.1 ≤ 4294967295) (b : List UInt8) : PC Tryz.prog 8 [.agg (EntT.cells e), .isl .u8 b] (rB true) := by
 have csame : ∀ x : Ent, EntT.ok x → PC Tryz.prog 17 [.agg (EntT.cells x), .agg (EntT.cells x)] (rB true) := fun x hx => by have h := rsame_c x x hx; rwa [(sameE_eq x x).2 rfl] at h
 refine pc_of rfl rfl ?_
 refine runE mixed fi8 ?_
 refine callI_pure (small_c e ho) ?_
 refine goE mixed ?_
 refine ⟨fun _ => ⟨fun h2 => callI_pure known_c ?_, fun h2 => ?_⟩, fun _ => callI_pure known_c ?_⟩
 · refine goE mixed ?_ <;> try with_reducible exact True.intro
 rotate_left
 · refine goE mixed ?_; trivial
 have hb : b.length ≤ 3000 := by omega
 have henc := encode_c e ho ha
 have hval := valid_k e ho
 have hrv := rvalid_c e ho ha
 have hdo := decodeEnt_c b (by omega)
 have hrd := rdecEnt_c b (by omega)
 have hso := csame _ (decEnt_ok b (by omega))
 generalize (decEnt b).getD EntT.dflt = D at *
 generalize (if (decEnt b).isSome then (0 : Int) else 6) = N at *
 refine callI_pure henc ?_
 refine goE mixed ?_
 refine callR_pure hval ?_
 refine goE mixed ?_
 refine callR_pure hrv ?_
 cases hv : vEnt e with
 | false =>
  rw [hv] at hrv
  refine goE mixed ?_
  refine callI_pure hrv ?_
  refine goE mixed ?_
  refine callI_pure (lnum_c _) ?_
  refine goE mixed ?_
  refine callI_pure hdo ?_
  refine goE mixed ?_
  refine callI_pure hrd ?_
  refine goE mixed ?_
  refine callI_pure hso ?_
  refine goE mixed ?_
  refine callI_pure (lnum_c _) ?_
  refine goE mixed ?_
  refine callI_pure known_c ?_
  refine goE mixed ?_; trivial
 | true =>
  rw [hv] at hrv
  refine goE mixed ?_
  refine callI_pure hrv ?_
  refine goE mixed ?_
  refine callR_pure (rencEnt_c e hv ha) ?_
  refine goE mixed ?_
  refine callR_pure (lnum_c _) ?_
  refine goE mixed ?_
  refine callI_pure hdo ?_
  refine goE mixed ?_
  refine callI_pure hrd ?_
  refine goE mixed ?_
  refine callI_pure hso ?_
  refine goE mixed ?_
  refine callI_pure (lnum_c _) ?_
  refine goE mixed ?_
  refine callI_pure known_c ?_
  refine goE mixed ?_; trivial
end Go.Proofs.YtddmkgibghohkaaGreatDoor
