/- Lengths of normal forms; normal forms marked. Conditions: as each theorem says. -/
import Derived.Test.YtcfofdjdbojadaaN7
import Derived.Test.YtcfofdjdbojadaaBx
namespace Go.Proofs.Ytcfofdjdbojadaa
open Go.RowKit
set_option linter.unusedSimpArgs false
set_option linter.unusedVariables false
/-- least power, greatest power, canonical length -/
def lensL (n z : Int) (m : Nat) (s : Nat → Nat → Nat) : List Int := if okN n z m s = true then [z, z + m, m] else []
theorem lensL_le (n z : Int) (m : Nat) (s : Nat → Nat → Nat) : (lensL n z m s).length ≤ 1000000000 := by
  unfold lensL; split <;> simp
theorem own_three {e : TypeId} {w : World} {B b : Nat} {x y u : Int} (hb : b = w.heap.size) (hB : B ≤ w.heap.size) : own e (w.alloc (.cells #[.int .i64 x, .int .i64 y, .int .i64 u] e)) B (.slice (some ⟨b, 0, none⟩) 3 3) [x, y, u] := by
  subst hb
  exact ⟨rfl, .inr ⟨w.heap.size, 3, _, rfl, hB, heap_at _ _ _ rfl, Nat.le_refl _, by decide, rfl, rfl⟩⟩
set_option maxHeartbeats 1000000 in
theorem markArrs_any (g m : Nat) (k0 : Int) (w : World) (cur0 : Array Value) (h : w.heap[g]? = some (.cells cur0 44 (0, 0))) (hs : cur0.size = m * 8) (hk0 : 0 ≤ k0) (hk1 : k0 ≤ 1000000000) (hlen : m ≤ 100000000) : Calls Try.prog 25 #[.slice (some ⟨g, 0, none⟩) m m, .int .i64 k0] w fun e w' => e = .returned (.int .i64 (k0 + 8 * m)) ∧ w.grownBy w' (some g) := by
  have H := Lib.hid h
  have Hs := Lib.hid hs
  clear h hs
  go_enter Try.func25, Try.ntmps25
  go_wp2
  go_loopw [5, 1] (fun sl s1 wr => ∃ k : Nat, k ≤ m ∧ sl = .int .i64 k ∧ s1 = .int .i64 (k0 + 8 * k) ∧ (∃ cur : Array Value, wr.heap[g]? = some (.cells cur 44 (0, 0)) ∧ cur.size = m * 8) ∧ w.grownBy wr (some g)) (fun sl _ _ => m - (intOf sl).toNat)
  case atStart => exact ⟨0, by omega, rfl, by simp, ⟨_, H.out, Hs.out⟩, World.grownBy.refl _ _⟩
  case round =>
    clear H Hs
    obtain ⟨k, hk, rfl, rfl, ⟨cur, hc, hcs⟩, hg⟩ := hrel
    have Hc := Lib.hid hc
    have Hcs := Lib.hid hcs
    have Hg := Lib.hid hg
    clear hc hcs hg
    by_cases hlt : k < m
    · go_wp2
      go_loopw [6, 1] (fun sl s1 wr => ∃ j : Nat, j ≤ 8 ∧ sl = .int .i64 j ∧ s1 = .int .i64 (k0 + 8 * k + j) ∧ (∃ cur : Array Value, wr.heap[g]? = some (.cells cur 44 (0, 0)) ∧ cur.size = m * 8) ∧ w.grownBy wr (some g)) (fun sl _ _ => 8 - (intOf sl).toNat)
      case atStart => exact ⟨0, by omega, rfl, by simp, ⟨_, Hc.out, Hcs.out⟩, Hg.out⟩
      case round =>
        clear Hc Hcs Hg
        obtain ⟨j, hj, rfl, rfl, ⟨cur, hc, hcs⟩, hg⟩ := hrel
        by_cases hlt2 : j < 8
        · have hin : k * 8 + j < cur.size := by omega
          obtain ⟨x0, c1⟩ : ∃ x0, wr.cell? ⟨g, k * 8 + j, none⟩ = some x0 := ⟨cur[k * 8 + j], by simp [World.cell?, hc, hin]⟩
          have c2 : wr.frozen? ⟨g, k * 8 + j, none⟩ = false := frozen_of_row wr g _ cur _ hc
          have hc3 := fun u => heap_setCell_same wr g (k * 8 + j) cur 44 u hc
          have Hcs := Lib.hid hcs
          have HC3 := Lib.hid hc3
          have HG := Lib.hid (fun u => grownBy_trans hg (grownBy_setCell wr g (k * 8 + j) u))
          clear hc hcs hc3 hg hin
          go_wp2
          go_roundw
          case rel => exact ⟨j + 1, by omega, by go_num, by go_num, ⟨_, HC3.out _, by rw [Array.size_setIfInBounds]; exact Hcs.out⟩, HG.out _⟩
          case measure => simp [intOf]; omega
        · obtain rfl : j = 8 := by omega
          have Hc := Lib.hid hc
          have Hcs := Lib.hid hcs
          have Hg := Lib.hid hg
          clear hc hcs hg
          go_wp2
          go_roundw
          case rel => exact ⟨k + 1, by omega, by go_num, by go_num, ⟨_, Hc.out, Hcs.out⟩, Hg.out⟩
          case measure => simp [intOf]; omega
    · obtain rfl : k = m := by omega
      go_wp2
      go_ret
      exact ⟨rfl, Hg.out⟩
end Go.Proofs.Ytcfofdjdbojadaa
