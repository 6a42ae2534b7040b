/- Free forms. Conditions: as each theorem says. -/
import Derived.Test.YtnbpkbkgbpfomaaV8
namespace Go.Proofs.Ytnbpkbkgbpfomaa
open Go.RowKit
set_option linter.unusedSimpArgs false
set_option linter.unusedVariables false
/-- one letter more in a free form -/
def freeStep (out : List Int) (x : Int) : List Int := if 0 < out.length ∧ nth out (out.length - 1) = -x then out.dropLast else out ++ [x]
/-- the free form of the first k letters -/
def freeK (xs : List Int) (k : Nat) : List Int := (xs.take k).foldl freeStep []
theorem freeK_succ {xs : List Int} {k : Nat} (h : k < xs.length) : freeStep (freeK xs k) (nth xs k) = freeK xs (k + 1) := by
  have e : nth xs k = xs[k] := by simp [nth, h]
  rw [freeK, freeK, List.take_succ_eq_append_getElem h, List.foldl_append, e]; rfl
theorem freeStep_le (l : List Int) (x : Int) : (freeStep l x).length ≤ l.length + 1 := by
  unfold freeStep
  split
  · simp; omega
  · simp
theorem freeK_le (xs : List Int) : ∀ k : Nat, k ≤ xs.length → (freeK xs k).length ≤ k
  | 0, _ => by simp [freeK]
  | k + 1, h => by
    rw [← freeK_succ (by omega)]
    have h1 := freeK_le xs k (by omega)
    have h2 := freeStep_le (freeK xs k) (nth xs k)
    omega
theorem fs_nil {l : List Int} {x : Int} (h : l.length = 0) : freeStep l x = l ++ [x] := by simp [freeStep, h]
theorem fs_no {l : List Int} {x : Int} {p : Nat} (h : l.length = p + 1) (h2 : ¬ nth l p = -x) : freeStep l x = l ++ [x] := by simp [freeStep, h, h2]
theorem fs_yes {l : List Int} {x : Int} {p : Nat} (h : l.length = p + 1) (h2 : nth l p = -x) : freeStep l x = l.dropLast := by simp [freeStep, h, h2]
theorem own_some {e : TypeId} {w : World} {B : Nat} {v : Value} {xs : List Int} (h : own e w B v xs) (hp : 0 < xs.length) : ∃ g c, v = .slice (some ⟨g, 0, none⟩) xs.length c ∧ B ≤ g ∧ g < w.heap.size ∧ xs.length ≤ c := by
  rcases h.2 with ⟨_, h0⟩ | ⟨g, cap, cur, rfl, hg, hh, hle, _⟩
  · omega
  · exact ⟨g, cap, rfl, hg, heap_lt hh, hle⟩
theorem own_drop {e : TypeId} {w : World} {B g n c : Nat} {xs : List Int} {q : Nat} (h : own e w B (.slice (some ⟨g, 0, none⟩) q c) xs) (hn : xs.length = n + 1) : own e w B (.slice (some ⟨g, 0, none⟩) n c) xs.dropLast := by
  obtain ⟨h1, h2⟩ := h
  have hl : xs.dropLast.length = n := by simp; omega
  refine ⟨by simp, ?_⟩
  rcases h2 with ⟨h2, _⟩ | ⟨g', cap', cur, hv, hg, hh, hle, hm, hs, ht⟩
  · cases h2
  · simp only [Value.slice.injEq, Option.some.injEq, Addr.mk.injEq] at hv
    obtain ⟨⟨rfl, _⟩, hn', rfl⟩ := hv
    refine .inr ⟨g, c, cur, by rw [hl], hg, hh, by omega, hm, hs, ?_⟩
    rw [hl]
    have := congrArg (List.take n) ht
    rw [List.take_take, hn] at this
    simp only [Nat.mul_one, Nat.min_eq_left (Nat.le_succ n)] at this ⊢
    rw [this, ← List.map_take, List.dropLast_eq_take, hn]
    rfl
end Go.Proofs.Ytnbpkbkgbpfomaa
