/- An argument that is a slice of bytes. Conditions: as each theorem says. -/
import Derived.Test.YtblpbkfenmkhbaaGreatDoorD1
import Derived.Test.YtblpbkfenmkhbaaGreatDoorMa
namespace Go.Proofs.YtblpbkfenmkhbaaGreatDoor
open Go.RowKit
set_option linter.unusedSimpArgs false
set_option linter.unusedVariables false
open Go.ChangeShapes Go.WideShapes Go.ChangeAt Go.RowKit
section
variable {H : Type} {enc : TypeId × Value → H} {P : Program} {w : World} {base : Nat} {spare : Nat → Bool} {held : Bool}
/-- an argument that is a slice of bytes -/
theorem open_code {r : Reach} {b0 : Nat} {t e : TypeId} {v : Value} {d : DataW H} {p : List MemPlace} (ht : P.underlying t = some (.slice e)) (he : P.underlying e = some (.int .u8)) (hc : P.cellsOf e = 1)
    (hv : Value.okWide P w r b0 t v) (h : DataW.Trod enc P w base spare held t v d p) : ∃ m, readsC w v m ∧ m ≤ 9223372036854775807 := by
  obtain ⟨a0, len, cap, rfl⟩ := okWide_slice ht hv
  obtain ⟨fuel, hf⟩ := h
  rcases open_ints ht he hc hf with ⟨hcs, hx⟩ | ⟨a, len', cap', zs, hcs, _, hl, hm, hz, hx, hcell, hwz⟩
  · have e1 : Value.slice a0 len cap = .slice none 0 0 := by simpa [Value.cells] using hcs
    rw [e1]
    exact ⟨0, ⟨none, 0, rfl, .inl rfl⟩, by decide⟩
  · have e1 : Value.slice a0 len cap = .slice (some a) len' cap' := by simpa [Value.cells] using hcs
    rw [e1]
    have hlen : len' ≤ zs.length := by rw [hz]; split <;> omega
    unfold maxLen at hm
    refine ⟨len', ⟨some a, cap', rfl, ?_⟩, by omega⟩
    by_cases h0 : len' = 0
    · exact .inl h0
    · obtain ⟨b, o, rfl, hcl⟩ := ints_at hcell (by omega)
      refine .inr ⟨b, o, rfl, fun i hi => ?_⟩
      have hi2 : i < zs.length := by omega
      have h3 := hwz (zs.getD i 0) (by simp only [List.getD_eq_getElem?_getD, List.getElem?_eq_getElem hi2, Option.getD_some]; exact List.getElem_mem hi2)
      simp [Lit.wf] at h3
      have e2 : IntKind.u8.min = 0 := by decide
      have e3 : IntKind.u8.max = 255 := by decide
      have h4 : 0 ≤ zs.getD i 0 ∧ zs.getD i 0 < 256 := by
        simp only [List.getD_eq_getElem?_getD]
        constructor <;> omega
      refine ⟨(zs.getD i 0).toNat, by omega, ?_⟩
      rw [hcl i hi2, show (((zs.getD i 0).toNat : Nat) : Int) = zs.getD i 0 by omega]
end
end Go.Proofs.YtblpbkfenmkhbaaGreatDoor
