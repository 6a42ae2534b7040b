/- Arguments that are read as data: an array of eight bytes. Conditions: as each theorem says. -/
import Derived.Test.YtfghanmcmjgonaaDoorKit
import Derived.ProofKit
import Derived.OpenShut
namespace Go.Proofs.YtfghanmcmjgonaaDoor
open Go.ChangeShapes Go.WideShapes Go.ChangeAt Go.RowKit
section
variable {H : Type} {enc : TypeId × Value → H} {P : Program} {w : World} {base : Nat} {spare : Nat → Bool} {held : Bool}
theorem open_arr8 {r : Reach} {b0 : Nat} {t e : TypeId} {v : Value} {d : DataW H} {p : List MemPlace} (ht : P.underlying t = some (.array 8 e)) (he : P.underlying e = some (.int .u8)) (hc : P.cellsOf e = 1) (hC : P.cellsOf t = 8)
    (hv : Value.okWide P w r b0 t v) (h : DataW.Trod enc P w base spare held t v d p) : ∃ s : Nat → Nat, v = .agg (arrF .u8 8 (up s)) ∧ ∀ i, i < 8 → s i < 256 := by
  simp only [Value.okWide, ht] at hv
  obtain ⟨cs, rfl, hsz, _⟩ := hv
  obtain ⟨fuel, hf⟩ := h
  obtain ⟨xs, m, _, _, _, hl, hi⟩ := DataW.trod_array ht hf
  rw [hC] at hsz
  have key : ∀ i, i < 8 → ∃ n : Nat, cs[i]? = some (.int .u8 n) ∧ n < 256 := by
    intro i h8
    have h1 := hi i h8
    rw [hc, Nat.mul_one, List.getElem?_eq_getElem (by omega)] at h1
    obtain ⟨n, hn, _, hw⟩ := DataW.trod_int he h1
    have hb := bounds_u8 hw
    refine ⟨n.toNat, ?_, by omega⟩
    have h2 : (cs.toList.drop i)[0]? = some (.int .u8 n) := by
      have h3 : ((cs.toList.drop i).take 1)[0]? = some (.int .u8 n) := by
        have e : (Value.agg cs).cells.toList = cs.toList := rfl
        rw [e] at hn
        rw [hn]; rfl
      rwa [List.getElem?_take_of_lt (by omega)] at h3
    rw [List.getElem?_drop] at h2
    rw [show ((n.toNat : Nat) : Int) = n by omega]
    simpa using h2
  refine ⟨fun i => if h : i < 8 then (key i h).choose else 0, ?_, fun i h8 => ?_⟩
  · congr 1
    apply Array.ext_getElem?
    intro i
    by_cases h8 : i < 8
    · rw [(key i h8).choose_spec.1, arrF_get _ _ _ _ h8]
      simp [up, h8]
    · rw [Array.getElem?_eq_none (by omega), Array.getElem?_eq_none (by rw [arrF_size]; omega)]
  · simp only [h8, dif_pos]
    exact (key i h8).choose_spec.2
end
end Go.Proofs.YtfghanmcmjgonaaDoor
