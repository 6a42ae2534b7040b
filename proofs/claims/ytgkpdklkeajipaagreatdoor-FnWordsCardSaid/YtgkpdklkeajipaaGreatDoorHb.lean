/- Numbers read by the reference. Conditions: as each theorem says. -/
import Derived.Test.YtgkpdklkeajipaaGreatDoorHa
namespace Go.Proofs.YtgkpdklkeajipaaGreatDoor
open Go.RowKit
set_option linter.unusedSimpArgs false
set_option linter.unusedVariables false
open Go.RowKit
theorem strB_get (l : List UInt8) (i : Nat) (h : i < (strB l).size) : (strB l)[i].toNat = byteAt l i := by
  have h2 : i < l.length := by rwa [strB_size] at h
  show (l.toArray[i]'(by simpa using h2)).toNat = _
  rw [show byteAt l i = l[i].toNat by simp [byteAt, h2], List.getElem_toArray]
end Go.Proofs.YtgkpdklkeajipaaGreatDoor
