/- Meets and joins of simple braids, beside a code; their laws. Conditions: as each theorem says. -/
import Derived.Test.YtcfofdjdbojadaaT6
import Derived.Test.YtcfofdjdbojadaaS4
import Derived.Test.YtcfofdjdbojadaaGi
namespace Go.Proofs.Ytcfofdjdbojadaa
open Go.RowKit
set_option linter.unusedSimpArgs false
set_option linter.unusedVariables false
theorem perm_then {n : Nat} {a b : Nat → Nat} (ha : Perm n a) (hb : Perm n b) : Perm n (thenK a b n) := by
  have e : ∀ x, x < n → thenK a b n x = b (a x) := fun x hx => by simp [thenK, hx]
  exact ⟨fun x hx => by rw [e x hx]; exact hb.lt _ (ha.lt x hx), fun x y hx hy h => by rw [e x hx, e y hy] at h; exact ha.inj _ _ hx hy (hb.inj _ _ (ha.lt x hx) (ha.lt y hy) h)⟩
theorem perm_half (n : Nat) : Perm n (halfN n n) := ⟨halfN_ltn, fun x y hx hy h => by simp only [halfN, if_pos hx, if_pos hy] at h; omega⟩
theorem back_perm {n : Nat} {c : Nat → Nat} (h : Perm n c) : Perm n (backK c n) := by
  refine ⟨back_lt h, fun x y hx hy e => ?_⟩
  obtain ⟨p, hp, rfl⟩ := h.has x hx
  obtain ⟨q, hq, rfl⟩ := h.has y hy
  rw [backK_at n hp h.inj, backK_at n hq h.inj] at e
  rw [e]
theorem meets_any (a b : Nat → Nat) (n : Nat) : ∃ c, Meets a b n c := by
  have key : ∀ (k : Nat) (c : Nat → Nat), mu n c < k → Star (Step (Both a b) n) (idK n) c → ∃ c, Meets a b n c := by
    intro k
    induction k with
    | zero => intro c h; omega
    | succ k ih =>
      intro c hc hs
      by_cases h : ∃ i, 1 ≤ i ∧ i < n ∧ c (i - 1) < c i ∧ Both a b (c (i - 1)) (c i)
      · obtain ⟨i, h1, hi, hl, hB⟩ := h
        have hst : Step (Both a b) n c (swapK c i) := ⟨i, h1, hi, hl, hB, rfl⟩
        exact ih _ (by have := hst.mu; omega) (hs.tail hst)
      · exact ⟨c, hs, fun i h1 hi hh => h ⟨i, h1, hi, hh.1, hh.2⟩⟩
  exact key _ _ (Nat.lt_succ_self _) (.refl _)
theorem perm_meet (a b : Nat → Nat) (n : Nat) : Perm n (meetK a b n) := by
  obtain ⟨c, hc⟩ := meets_any a b n
  rw [meetK_eq hc]
  exact back_perm (star_perm hc.1 (perm_id n))
end Go.Proofs.Ytcfofdjdbojadaa
