/- The simple braid of a word: plain facts. Conditions: as each theorem says. -/
import Derived.Test.YtblpbkfenmkhbaaGreatDoorP5
import Derived.Test.YtblpbkfenmkhbaaGreatDoorMa
namespace Go.Proofs.YtblpbkfenmkhbaaGreatDoor
set_option linter.unusedVariables false
set_option linter.unusedSimpArgs false

/-- the neighbours that the first k letters exchange, one after the other -/
def seqK (n : Nat) (xs : List Int) : Nat → Nat → Nat
  | 0 => idK n
  | k + 1 => swapK (seqK n xs k) (nth xs k).toNat
/-- the letters ahead of k are letters of n strands -/
def LetK (n : Nat) (xs : List Int) (k : Nat) : Prop := ∀ j, j < k → 1 ≤ nth xs j ∧ nth xs j ≤ (n : Int) - 1
theorem letK_zero (n xs) : LetK n xs 0 := fun j h => by omega
theorem letK_succ {n xs k} (h : LetK n xs k) (hk : 1 ≤ nth xs k ∧ nth xs k ≤ (n : Int) - 1) : LetK n xs (k + 1) := by
  intro j hj
  by_cases e : j = k
  · rw [e]; exact hk
  · exact h j (by omega)
theorem LetK.le {n xs k j} (h : LetK n xs k) (hj : j ≤ k) : LetK n xs j := fun i hi => h i (by omega)
theorem seq_perm {n xs} : ∀ k, LetK n xs k → Perm n (seqK n xs k)
  | 0, _ => perm_id n
  | k + 1, h => by
    have := h k (by omega)
    exact (seq_perm k (h.le (by omega))).swap (by omega) (by omega)
open Classical in
/-- what SimpleOfWord answers -/
noncomputable def sowF (n : Int) (xs : List Int) : Nat → Nat := if inB n 1 8 = true ∧ LetK n.toNat xs xs.length ∧ lenK (backK (seqK n.toNat xs xs.length) n.toNat) n.toNat = xs.length then backK (seqK n.toNat xs xs.length) n.toNat else zeroN
open Classical in
noncomputable def sowC (n : Int) (xs : List Int) : Int := if inB n 1 8 = true ∧ LetK n.toNat xs xs.length then (if lenK (backK (seqK n.toNat xs xs.length) n.toNat) n.toNat = xs.length then 0 else 5) else 2
noncomputable def sowR (n : Int) (xs : List Int) : Value := .tuple #[.agg (arrF .u8 8 (up (sowF n xs))), .int .i64 (sowC n xs)]
theorem sow_out {n : Int} {xs} (h : inB n 1 8 = false) : sowR n xs = .tuple #[.agg (arrF .u8 8 (up zeroN)), .int .i64 2] := by simp [sowR, sowF, sowC, h]
theorem sow_bad {n : Nat} {xs : List Int} {k : Nat} (hk : k < xs.length) (h : ¬ (1 ≤ nth xs k ∧ nth xs k ≤ (n : Int) - 1)) : sowR n xs = .tuple #[.agg (arrF .u8 8 (up zeroN)), .int .i64 2] := by
  have : ¬ LetK n xs xs.length := fun hl => h (hl k hk)
  simp [sowR, sowF, sowC, this]
theorem sow_long {n : Nat} {xs : List Int} (hb : inB (n : Int) 1 8 = true) (hl : LetK n xs xs.length) (h : ¬ lenK (backK (seqK n xs xs.length) n) n = xs.length) : sowR n xs = .tuple #[.agg (arrF .u8 8 (up zeroN)), .int .i64 5] := by
  simp [sowR, sowF, sowC, hb, hl, h]
theorem sow_good {n : Nat} {xs : List Int} (hb : inB (n : Int) 1 8 = true) (hl : LetK n xs xs.length) (h : lenK (backK (seqK n xs xs.length) n) n = xs.length) : sowR n xs = .tuple #[.agg (arrF .u8 8 (up (backK (seqK n xs xs.length) n))), .int .i64 0] := by
  simp [sowR, sowF, sowC, hb, hl, h]
end Go.Proofs.YtblpbkfenmkhbaaGreatDoor
