/- Words that serve all later texts: several texts in one. Conditions: as each theorem says. -/
import Derived.Test.YtikakoclmmmjdaaMa
import Derived.Test.YtikakoclmmmjdaaMb
import Derived.Deep.Cut
import Derived.Deep.CutRange
import Derived.Test.YtikakoclmmmjdaaMc
import Derived.WalkKit
import Derived.BigRegion
namespace Go.Proofs.Ytikakoclmmmjdaa
open Go.RowKit
set_option linter.unusedSimpArgs false
set_option linter.unusedVariables false
end Go.Proofs.Ytikakoclmmmjdaa
namespace Go.Proofs.Ytikakoclmmmjdaa
open Go.RowKit
set_option linter.unusedSimpArgs false
set_option linter.unusedVariables false
theorem okW_len {n : Int} {xs : List Int} (h : okW n xs = true) : xs.length ≤ 200 := by
  obtain ⟨m, _, _, _, h200, _⟩ := okW_true h
  exact h200
/-- 1 for numbers greater than 0, -1 for others -/
def sgn (x : Int) : Int := if 0 < x then 1 else -1
/-- the sum of the first k letters' counts -/
def sumL (xs : List Int) : Nat → Int
  | 0 => 0
  | k + 1 => sumL xs k + sgn (nth xs k)
theorem sumL_le (xs : List Int) : ∀ k : Nat, -(k : Int) ≤ sumL xs k ∧ sumL xs k ≤ k
  | 0 => by simp [sumL]
  | k + 1 => by
    have := sumL_le xs k
    simp only [sumL, sgn]
    split <;> omega
theorem sumL_pos {xs : List Int} {k : Nat} (h : 0 < nth xs k) : sumL xs k + 1 = sumL xs (k + 1) := by simp [sumL, sgn, h]
theorem sumL_neg {xs : List Int} {k : Nat} (h : ¬ 0 < nth xs k) : sumL xs k - 1 = sumL xs (k + 1) := by simp only [sumL, sgn, if_neg h]; omega
theorem sumL_neg' {xs : List Int} {k : Nat} (h : ¬ 0 < nth xs k) : sumL xs k + -1 = sumL xs (k + 1) := by simp only [sumL, sgn, if_neg h]
/-- a number beside a code -/
def rNum (b : Bool) (x : Int) : Value := .tuple #[.int .i64 (if b then x else 0), .int .i64 (if b then 0 else 1)]
end Go.Proofs.Ytikakoclmmmjdaa
namespace Go.Proofs.Ytikakoclmmmjdaa
open Go.RowKit
set_option linter.unusedSimpArgs false
set_option linter.unusedVariables false
theorem rev_step {xs : List Int} {m : Nat} (h : m < xs.length) : (xs.drop (m + 1)).reverse ++ [nth xs m] = (xs.drop m).reverse := by
  have e : nth xs m = xs[m] := by simp [nth, h]
  rw [List.drop_eq_getElem_cons h, List.reverse_cons, e]
end Go.Proofs.Ytikakoclmmmjdaa
namespace Go.Proofs.Ytikakoclmmmjdaa
open Go.RowKit
set_option linter.unusedSimpArgs false
set_option linter.unusedVariables false
theorem own_far {e : TypeId} {X Y : World} {B B' : Nat} {J J' : List Obj} {d d' : Nat} {v : Value} {xs : List Int} (h : own e (plus X J d) B v xs) (hs : X.heap.size = Y.heap.size) (hB : X.heap.size ≤ B) (hB' : B' ≤ B) (hp : J <+: J') : own e (plus Y J' d') B' v xs := by
  obtain ⟨K, rfl⟩ := hp
  exact (own_plus (d := d') (own_swap hs hB h)).mono hB'
/-- letters of at most eight strands -/
def Sm (xs : List Int) : Prop := ∀ i, i < xs.length → -7 ≤ nth xs i ∧ nth xs i ≤ 7
theorem okW_sm {n : Int} {xs : List Int} (h : okW n xs = true) : Sm xs := by
  obtain ⟨m, rfl, h1, h8, _, h2⟩ := okW_true h
  intro i hi
  have := h2 i hi
  simp only [isL, decide_eq_true_eq] at this
  omega
theorem okW_n {n : Int} {xs : List Int} (h : okW n xs = true) : 1 ≤ n ∧ n ≤ 8 := by
  obtain ⟨m, rfl, h1, h8, _, h2⟩ := okW_true h
  omega
theorem nth_mem {xs : List Int} {i : Nat} (h : i < xs.length) : nth xs i ∈ xs := by
  have : nth xs i = xs[i] := by simp [nth, h]
  rw [this]; exact List.getElem_mem h
theorem mem_nth {xs : List Int} {x : Int} (h : x ∈ xs) : ∃ i, i < xs.length ∧ nth xs i = x := by
  obtain ⟨i, hi, e⟩ := List.mem_iff_getElem.1 h
  exact ⟨i, hi, by rw [← e]; simp [nth, hi]⟩
theorem Sm_iff {xs : List Int} : Sm xs ↔ ∀ x ∈ xs, -7 ≤ x ∧ x ≤ 7 :=
  ⟨fun h x hx => by obtain ⟨i, hi, rfl⟩ := mem_nth hx; exact h i hi, fun h i hi => h _ (nth_mem hi)⟩
theorem Sm.reverse {xs : List Int} (h : Sm xs) : Sm xs.reverse := Sm_iff.2 fun x hx => Sm_iff.1 h x (List.mem_reverse.1 hx)
theorem take_map_step {xs : List Int} {k : Nat} (g : Int → Int) (h : k < xs.length) : (xs.take k).map g ++ [g (nth xs k)] = (xs.take (k + 1)).map g := by
  have e : nth xs k = xs[k] := by simp [nth, h]
  rw [List.take_succ_eq_append_getElem h, List.map_append, e]; rfl
theorem drop_map_step {xs : List Int} {m : Nat} (g : Int → Int) (h : m < xs.length) : ((xs.drop (m + 1)).reverse).map g ++ [g (nth xs m)] = ((xs.drop m).reverse).map g := by
  have e : nth xs m = xs[m] := by simp [nth, h]
  rw [List.drop_eq_getElem_cons h, List.reverse_cons, List.map_append, e]; rfl
/-- what the letters are turned into -/
def negL (x : Int) : Int := -x
def turnL (n x : Int) : Int := if 0 < x then n - x else -n - x
def shiftL (k x : Int) : Int := if 0 < x then x + k else x - k
theorem turnL_pos {n x : Int} (h : 0 < x) : turnL n x = n - x := if_pos h
theorem turnL_neg {n x : Int} (h : ¬ 0 < x) : turnL n x = -n - x := if_neg h
theorem shiftL_pos {n x : Int} (h : 0 < x) : shiftL n x = x + n := if_pos h
theorem shiftL_neg {n x : Int} (h : ¬ 0 < x) : shiftL n x = x - n := if_neg h
end Go.Proofs.Ytikakoclmmmjdaa
namespace Go.Proofs.Ytikakoclmmmjdaa
open Go.RowKit
set_option linter.unusedSimpArgs false
set_option linter.unusedVariables false
end Go.Proofs.Ytikakoclmmmjdaa
namespace Go.Proofs.Ytikakoclmmmjdaa
open Go.RowKit
set_option linter.unusedSimpArgs false
set_option linter.unusedVariables false
end Go.Proofs.Ytikakoclmmmjdaa
namespace Go.Proofs.Ytikakoclmmmjdaa
open Go.RowKit
set_option linter.unusedSimpArgs false
set_option linter.unusedVariables false
end Go.Proofs.Ytikakoclmmmjdaa
namespace Go.Proofs.Ytikakoclmmmjdaa
open Go.RowKit
set_option linter.unusedSimpArgs false
set_option linter.unusedVariables false
end Go.Proofs.Ytikakoclmmmjdaa
namespace Go.Proofs.Ytikakoclmmmjdaa
open Go.RowKit
set_option linter.unusedSimpArgs false
set_option linter.unusedVariables false
/-- what is answered beside a good code -/
def okS (n : Int) (xs : List Int) (k : Int) : Bool := okW n xs && inB k 0 (8 - n)
def codS (n : Int) (xs : List Int) (k : Int) : Int := if okW n xs = true then (if inB k 0 (8 - n) = true then 0 else 2) else 1
end Go.Proofs.Ytikakoclmmmjdaa
namespace Go.Proofs.Ytikakoclmmmjdaa
open Go.RowKit
set_option linter.unusedSimpArgs false
set_option linter.unusedVariables false
/-- what is known in the midst of a law: the boxes, the lists of its own, and that they lie apart -/
structure MidA (w wr : World) (N n : Int) (v vg vw vx : Value) (lw lx lg : List Int) (b1 b4 b6 b7 : Nat) : Prop where
  bel : Below w.heap.size w wr
  h1 : boxed wr b1 24 n v
  h4 : boxed wr b4 29 N vw
  h6 : boxed wr b6 29 n vx
  h7 : boxed wr b7 29 N vg
  ow : own 2 wr w.heap.size vw lw
  ox : own 2 wr w.heap.size vx lx
  og : own 2 wr w.heap.size vg lg
  aw : ∀ k, vw.ownBlock = some k → k ≠ b1 ∧ k ≠ b4 ∧ k ≠ b6 ∧ k ≠ b7 ∧ vx.ownBlock ≠ some k ∧ vg.ownBlock ≠ some k
  ax : ∀ k, vx.ownBlock = some k → k ≠ b1 ∧ k ≠ b4 ∧ k ≠ b6 ∧ k ≠ b7 ∧ vw.ownBlock ≠ some k ∧ vg.ownBlock ≠ some k
  ag : ∀ k, vg.ownBlock = some k → k ≠ b1 ∧ k ≠ b4 ∧ k ≠ b6 ∧ k ≠ b7 ∧ vw.ownBlock ≠ some k ∧ vx.ownBlock ≠ some k
theorem MidA.kept {w wr w' : World} {N n : Int} {v vg vw vx : Value} {lw lx lg : List Int} {b1 b4 b6 b7 : Nat} (M : MidA w wr N n v vg vw vx lw lx lg b1 b4 b6 b7) (hb : Below wr.heap.size wr w') : MidA w w' N n v vg vw vx lw lx lg b1 b4 b6 b7 :=
  ⟨M.bel.trans (hb.mono M.bel.size), M.h1.kept hb, M.h4.kept hb, M.h6.kept hb, M.h7.kept hb, M.ow.kept hb, M.ox.kept hb, M.og.kept hb, M.aw, M.ax, M.ag⟩
theorem MidA.markw {w wr w' : World} {N n : Int} {v vg vw vx : Value} {lw lx lg : List Int} {b1 b4 b6 b7 : Nat} {lq : List Int} (M : MidA w wr N n v vg vw vx lw lx lg b1 b4 b6 b7) (hx : own 2 w' w.heap.size vw lq) (hg : wr.grownBy w' vw.ownBlock) : MidA w w' N n v vg vw vx lq lx lg b1 b4 b6 b7 :=
  ⟨M.bel.trans (below_of_grown hg M.bel.size fun k hk => (M.ow.lt k hk).1), M.h1.grown hg (ne_row fun k hk => (M.aw k hk).1), M.h4.grown hg (ne_row fun k hk => (M.aw k hk).2.1), M.h6.grown hg (ne_row fun k hk => (M.aw k hk).2.2.1), M.h7.grown hg (ne_row fun k hk => (M.aw k hk).2.2.2.1), hx, M.ox.apart hg (fun k h1 h2 => (M.aw k h2).2.2.2.2.1 h1), M.og.apart hg (fun k h1 h2 => (M.aw k h2).2.2.2.2.2 h1), M.aw, M.ax, M.ag⟩
theorem MidA.markx {w wr w' : World} {N n : Int} {v vg vw vx : Value} {lw lx lg : List Int} {b1 b4 b6 b7 : Nat} {lq : List Int} (M : MidA w wr N n v vg vw vx lw lx lg b1 b4 b6 b7) (hx : own 2 w' w.heap.size vx lq) (hg : wr.grownBy w' vx.ownBlock) : MidA w w' N n v vg vw vx lw lq lg b1 b4 b6 b7 :=
  ⟨M.bel.trans (below_of_grown hg M.bel.size fun k hk => (M.ox.lt k hk).1), M.h1.grown hg (ne_row fun k hk => (M.ax k hk).1), M.h4.grown hg (ne_row fun k hk => (M.ax k hk).2.1), M.h6.grown hg (ne_row fun k hk => (M.ax k hk).2.2.1), M.h7.grown hg (ne_row fun k hk => (M.ax k hk).2.2.2.1), M.ow.apart hg (fun k h1 h2 => (M.ax k h2).2.2.2.2.1 h1), hx, M.og.apart hg (fun k h1 h2 => (M.ax k h2).2.2.2.2.2 h1), M.aw, M.ax, M.ag⟩
theorem MidA.markg {w wr w' : World} {N n : Int} {v vg vw vx : Value} {lw lx lg : List Int} {b1 b4 b6 b7 : Nat} {lq : List Int} (M : MidA w wr N n v vg vw vx lw lx lg b1 b4 b6 b7) (hx : own 2 w' w.heap.size vg lq) (hg : wr.grownBy w' vg.ownBlock) : MidA w w' N n v vg vw vx lw lx lq b1 b4 b6 b7 :=
  ⟨M.bel.trans (below_of_grown hg M.bel.size fun k hk => (M.og.lt k hk).1), M.h1.grown hg (ne_row fun k hk => (M.ag k hk).1), M.h4.grown hg (ne_row fun k hk => (M.ag k hk).2.1), M.h6.grown hg (ne_row fun k hk => (M.ag k hk).2.2.1), M.h7.grown hg (ne_row fun k hk => (M.ag k hk).2.2.2.1), M.ow.apart hg (fun k h1 h2 => (M.ag k h2).2.2.2.2.1 h1), M.ox.apart hg (fun k h1 h2 => (M.ag k h2).2.2.2.2.2 h1), hx, M.aw, M.ax, M.ag⟩
/-- what is known in the midst of a law: the boxes, the lists of its own, and that they lie apart -/
structure MidB (w wr : World) (N : Int) (vg vw : Value) (lw lg : List Int) (b4 b7 : Nat) : Prop where
  bel : Below w.heap.size w wr
  h4 : boxed wr b4 29 N vw
  h7 : boxed wr b7 29 N vg
  ow : own 2 wr w.heap.size vw lw
  og : own 2 wr w.heap.size vg lg
  aw : ∀ k, vw.ownBlock = some k → k ≠ b4 ∧ k ≠ b7 ∧ vg.ownBlock ≠ some k
  ag : ∀ k, vg.ownBlock = some k → k ≠ b4 ∧ k ≠ b7 ∧ vw.ownBlock ≠ some k
theorem MidB.kept {w wr w' : World} {N : Int} {vg vw : Value} {lw lg : List Int} {b4 b7 : Nat} (M : MidB w wr N vg vw lw lg b4 b7) (hb : Below wr.heap.size wr w') : MidB w w' N vg vw lw lg b4 b7 :=
  ⟨M.bel.trans (hb.mono M.bel.size), M.h4.kept hb, M.h7.kept hb, M.ow.kept hb, M.og.kept hb, M.aw, M.ag⟩
theorem MidB.markw {w wr w' : World} {N : Int} {vg vw : Value} {lw lg : List Int} {b4 b7 : Nat} {lq : List Int} (M : MidB w wr N vg vw lw lg b4 b7) (hx : own 2 w' w.heap.size vw lq) (hg : wr.grownBy w' vw.ownBlock) : MidB w w' N vg vw lq lg b4 b7 :=
  ⟨M.bel.trans (below_of_grown hg M.bel.size fun k hk => (M.ow.lt k hk).1), M.h4.grown hg (ne_row fun k hk => (M.aw k hk).1), M.h7.grown hg (ne_row fun k hk => (M.aw k hk).2.1), hx, M.og.apart hg (fun k h1 h2 => (M.aw k h2).2.2 h1), M.aw, M.ag⟩
theorem MidB.markg {w wr w' : World} {N : Int} {vg vw : Value} {lw lg : List Int} {b4 b7 : Nat} {lq : List Int} (M : MidB w wr N vg vw lw lg b4 b7) (hx : own 2 w' w.heap.size vg lq) (hg : wr.grownBy w' vg.ownBlock) : MidB w w' N vg vw lw lq b4 b7 :=
  ⟨M.bel.trans (below_of_grown hg M.bel.size fun k hk => (M.og.lt k hk).1), M.h4.grown hg (ne_row fun k hk => (M.ag k hk).1), M.h7.grown hg (ne_row fun k hk => (M.ag k hk).2.1), M.ow.apart hg (fun k h1 h2 => (M.ag k h2).2.2 h1), hx, M.aw, M.ag⟩
end Go.Proofs.Ytikakoclmmmjdaa
namespace Go.Proofs.Ytikakoclmmmjdaa
open Go.RowKit
set_option linter.unusedSimpArgs false
set_option linter.unusedVariables false
end Go.Proofs.Ytikakoclmmmjdaa
namespace Go.Proofs.Ytikakoclmmmjdaa
open Go.RowKit
set_option linter.unusedSimpArgs false
set_option linter.unusedVariables false
/-- i, i + 1, .. (c numbers) -/
def rowR (i : Nat) : Nat → List Int
  | 0 => []
  | c + 1 => (i : Int) :: rowR (i + 1) c
/-- the letters of the half turn of k + 1 strands -/
def halfW : Nat → List Int
  | 0 => []
  | k + 1 => rowR 1 (k + 1) ++ halfW k
theorem rowR_length : ∀ (c i : Nat), (rowR i c).length = c
  | 0, i => rfl
  | c + 1, i => by simp [rowR, rowR_length c]
theorem halfW_le : ∀ k : Nat, k ≤ 7 → (halfW k).length ≤ 7 * k
  | 0, _ => by simp [halfW]
  | k + 1, h => by
    have := halfW_le k (by omega)
    simp only [halfW, List.length_append, rowR_length]
    omega
theorem row_step {l r t : List Int} {i c : Nat} (h : l ++ (rowR i (c + 1) ++ r) = t) : (l ++ [(i : Int)]) ++ (rowR (i + 1) c ++ r) = t := by
  rw [← h]; simp [rowR]
theorem row_end {l r t : List Int} {i : Nat} (h : l ++ (rowR i 0 ++ r) = t) : l ++ r = t := by
  rw [← h]; simp [rowR]
theorem half_step {l t : List Int} {k : Nat} (hk : 0 < k) (h : l ++ halfW k = t) : l ++ (rowR 1 k ++ halfW (k - 1)) = t := by
  obtain ⟨p, rfl⟩ : ∃ p, k = p + 1 := ⟨k - 1, by omega⟩
  exact h
theorem le_of_total {l r t : List Int} {m : Nat} (h : l ++ r = t) (ht : t.length ≤ m) : l.length ≤ m := by
  have := congrArg List.length h
  rw [List.length_append] at this
  omega
end Go.Proofs.Ytikakoclmmmjdaa
namespace Go.Proofs.Ytikakoclmmmjdaa
open Go.RowKit
set_option linter.unusedSimpArgs false
set_option linter.unusedVariables false
/-- what is answered for so many strands -/
def halfL (n : Int) : List Int := if inB n 1 8 = true then halfW (n.toNat - 1) else []
def halfC (n : Int) : Int := if inB n 1 8 = true then 0 else 2
def halfN' (n : Int) : Int := if inB n 1 8 = true then n else 0
theorem halfL_le (n : Int) : (halfL n).length ≤ 49 := by
  unfold halfL
  split
  · rename_i h
    have := inB_true h
    have := halfW_le (n.toNat - 1) (by omega)
    omega
  · simp
theorem half_yes {n : Int} (h : inB n 1 8 = true) : ∃ m : Nat, n = (m : Int) + 1 ∧ m ≤ 7 ∧ halfL n = halfW m ∧ halfC n = 0 ∧ halfN' n = n := by
  have h' := inB_true h
  refine ⟨n.toNat - 1, by omega, by omega, by simp [halfL, h], by simp [halfC, h], by simp [halfN', h]⟩
theorem half_no {n : Int} (h : inB n 1 8 = false) : halfL n = [] ∧ halfC n = 2 ∧ halfN' n = 0 := by simp [halfL, halfC, halfN', h]
end Go.Proofs.Ytikakoclmmmjdaa
namespace Go.Proofs.Ytikakoclmmmjdaa
open Go.RowKit
set_option linter.unusedSimpArgs false
set_option linter.unusedVariables false
end Go.Proofs.Ytikakoclmmmjdaa
namespace Go.Proofs.Ytikakoclmmmjdaa
open Go.RowKit
set_option linter.unusedSimpArgs false
set_option linter.unusedVariables false
/-- one letter more in a free form -/
def freeStep (out : List Int) (x : Int) : List Int := if 0 < out.length ∧ nth out (out.length - 1) = -x then out.dropLast else out ++ [x]
/-- the free form of the first k letters -/
def freeK (xs : List Int) (k : Nat) : List Int := (xs.take k).foldl freeStep []
theorem freeK_succ {xs : List Int} {k : Nat} (h : k < xs.length) : freeStep (freeK xs k) (nth xs k) = freeK xs (k + 1) := by
  have e : nth xs k = xs[k] := by simp [nth, h]
  rw [freeK, freeK, List.take_succ_eq_append_getElem h, List.foldl_append, e]; rfl
theorem freeStep_le (l : List Int) (x : Int) : (freeStep l x).length ≤ l.length + 1 := by
  unfold freeStep
  split
  · simp; omega
  · simp
theorem freeK_le (xs : List Int) : ∀ k : Nat, k ≤ xs.length → (freeK xs k).length ≤ k
  | 0, _ => by simp [freeK]
  | k + 1, h => by
    rw [← freeK_succ (by omega)]
    have h1 := freeK_le xs k (by omega)
    have h2 := freeStep_le (freeK xs k) (nth xs k)
    omega
theorem fs_nil {l : List Int} {x : Int} (h : l.length = 0) : freeStep l x = l ++ [x] := by simp [freeStep, h]
theorem fs_no {l : List Int} {x : Int} {p : Nat} (h : l.length = p + 1) (h2 : ¬ nth l p = -x) : freeStep l x = l ++ [x] := by simp [freeStep, h, h2]
theorem fs_yes {l : List Int} {x : Int} {p : Nat} (h : l.length = p + 1) (h2 : nth l p = -x) : freeStep l x = l.dropLast := by simp [freeStep, h, h2]
theorem own_some {e : TypeId} {w : World} {B : Nat} {v : Value} {xs : List Int} (h : own e w B v xs) (hp : 0 < xs.length) : ∃ g c, v = .slice (some ⟨g, 0, none⟩) xs.length c ∧ B ≤ g ∧ g < w.heap.size ∧ xs.length ≤ c := by
  rcases h.2 with ⟨_, h0⟩ | ⟨g, cap, cur, rfl, hg, hh, hle, _⟩
  · omega
  · exact ⟨g, cap, rfl, hg, heap_lt hh, hle⟩
theorem own_drop {e : TypeId} {w : World} {B g n c : Nat} {xs : List Int} {q : Nat} (h : own e w B (.slice (some ⟨g, 0, none⟩) q c) xs) (hn : xs.length = n + 1) : own e w B (.slice (some ⟨g, 0, none⟩) n c) xs.dropLast := by
  obtain ⟨h1, h2⟩ := h
  have hl : xs.dropLast.length = n := by simp; omega
  refine ⟨by simp, ?_⟩
  rcases h2 with ⟨h2, _⟩ | ⟨g', cap', cur, hv, hg, hh, hle, hm, hs, ht⟩
  · cases h2
  · simp only [Value.slice.injEq, Option.some.injEq, Addr.mk.injEq] at hv
    obtain ⟨⟨rfl, _⟩, hn', rfl⟩ := hv
    refine .inr ⟨g, c, cur, by rw [hl], hg, hh, by omega, hm, hs, ?_⟩
    rw [hl]
    have := congrArg (List.take n) ht
    rw [List.take_take, hn] at this
    simp only [Nat.mul_one, Nat.min_eq_left (Nat.le_succ n)] at this ⊢
    rw [this, ← List.map_take, List.dropLast_eq_take, hn]
    rfl
end Go.Proofs.Ytikakoclmmmjdaa
namespace Go.Proofs.Ytikakoclmmmjdaa
open Go.RowKit
set_option linter.unusedSimpArgs false
set_option linter.unusedVariables false
/-- what is answered for two braids -/
def goodP (n : Int) (xs : List Int) (m : Int) (ys : List Int) : Bool := okW n xs && okW m ys && decide (n = m) && decide (xs.length + ys.length ≤ 200)
def codP (n : Int) (xs : List Int) (m : Int) (ys : List Int) : Int := if okW n xs = true ∧ okW m ys = true then (if n = m then (if xs.length + ys.length ≤ 200 then 0 else 3) else 2) else 1
theorem pr_1 {n m xs ys} (h : okW n xs = false) : goodP n xs m ys = false ∧ codP n xs m ys = 1 := by simp [goodP, codP, h]
theorem pr_2 {n m xs ys} (h : okW m ys = false) : goodP n xs m ys = false ∧ codP n xs m ys = 1 := by simp [goodP, codP, h]
theorem pr_3 {n m xs ys} (h1 : okW n xs = true) (h2 : okW m ys = true) (h : ¬ n = m) : goodP n xs m ys = false ∧ codP n xs m ys = 2 := by simp [goodP, codP, h1, h2, h]
theorem pr_4 {n xs ys} (h1 : okW n xs = true) (h2 : okW n ys = true) (h : ¬ xs.length + ys.length ≤ 200) : goodP n xs n ys = false ∧ codP n xs n ys = 3 := by
  simp only [goodP, codP, h1, h2, h]; simp
theorem pr_5 {n xs ys} (h1 : okW n xs = true) (h2 : okW n ys = true) (h : xs.length + ys.length ≤ 200) : goodP n xs n ys = true ∧ codP n xs n ys = 0 := by
  simp only [goodP, codP, h1, h2, h]; simp
theorem goodP_le {n m xs ys} (h : goodP n xs m ys = true) : (xs ++ ys).length ≤ 200 := by
  simp only [goodP, Bool.and_eq_true, decide_eq_true_eq] at h
  rw [List.length_append]; exact h.2
end Go.Proofs.Ytikakoclmmmjdaa
namespace Go.Proofs.Ytikakoclmmmjdaa
set_option linter.unusedVariables false
set_option linter.unusedSimpArgs false

/-- f 0 + .. + f (n - 1) -/
def sumN : Nat → (Nat → Nat) → Nat
  | 0, _ => 0
  | n + 1, f => sumN n f + f n
theorem sumN_zero (f) : sumN 0 f = 0 := rfl
theorem sumN_succ (n f) : sumN (n + 1) f = sumN n f + f n := rfl
theorem sumN_ext {n : Nat} {f g : Nat → Nat} (h : ∀ i, i < n → f i = g i) : sumN n f = sumN n g := by
  induction n with
  | zero => rfl
  | succ n ih => rw [sumN_succ, sumN_succ, ih fun i hi => h i (by omega), h n (by omega)]
theorem sumN_none {n : Nat} {f : Nat → Nat} (h : ∀ i, i < n → f i = 0) : sumN n f = 0 := by
  induction n with
  | zero => rfl
  | succ n ih => rw [sumN_succ, ih fun i hi => h i (by omega), h n (by omega)]
theorem sumN_add (n : Nat) (f g : Nat → Nat) : sumN n (fun i => f i + g i) = sumN n f + sumN n g := by
  induction n with
  | zero => rfl
  | succ n ih => simp only [sumN_succ, ih]; omega
theorem sumN_swap (n m : Nat) (f : Nat → Nat → Nat) : sumN n (fun x => sumN m (f x)) = sumN m (fun y => sumN n (fun x => f x y)) := by
  induction n with
  | zero => simp only [sumN_zero]; rw [sumN_none]; intros; rfl
  | succ n ih => simp only [sumN_succ, sumN_add, ih]
theorem sumN_more {n m : Nat} {f : Nat → Nat} (h : n ≤ m) (h0 : ∀ i, n ≤ i → i < m → f i = 0) : sumN m f = sumN n f := by
  induction m with
  | zero => obtain rfl : n = 0 := by omega
            rfl
  | succ m ih =>
    by_cases e : n = m + 1
    · rw [e]
    · rw [sumN_succ, h0 m (by omega) (by omega), ih (by omega) fun i h1 h2 => h0 i h1 (by omega)]; rfl
theorem sumN_le {n : Nat} {f : Nat → Nat} {c : Nat} (h : ∀ i, i < n → f i ≤ c) : sumN n f ≤ n * c := by
  induction n with
  | zero => simp [sumN_zero]
  | succ n ih =>
    have h1 := ih fun i hi => h i (by omega)
    have h2 := h n (by omega)
    rw [sumN_succ, Nat.succ_mul]
    omega
/-- one summand becomes greater by one -/
theorem sumN_one {n i : Nat} {f g : Nat → Nat} (hi : i < n) (h1 : g i = f i + 1) (h2 : ∀ j, j ≠ i → g j = f j) : sumN n g = sumN n f + 1 := by
  induction n with
  | zero => omega
  | succ n ih =>
    rw [sumN_succ, sumN_succ]
    by_cases e : i = n
    · subst e
      rw [h1, sumN_ext fun j hj => h2 j (by omega)]; omega
    · rw [ih (by omega), h2 n (Ne.symm e)]; omega

/-- how many bits are set -/
def pc (a : Nat) : Nat := sumN 64 fun i => (a.testBit i).toNat
theorem pc_zero : pc 0 = 0 := by
  unfold pc
  exact sumN_none fun i _ => by simp
theorem pc_le (a) : pc a ≤ 64 := by
  have := sumN_le (n := 64) (f := fun i => (a.testBit i).toNat) (c := 1) fun i _ => by cases a.testBit i <;> simp
  simpa [pc] using this
theorem pc_or {a i : Nat} (hi : i < 64) (h : a.testBit i = false) : pc (a ||| 2 ^ i) = pc a + 1 := by
  unfold pc
  refine sumN_one hi ?_ ?_
  · simp [Nat.testBit_or, h]
  · intro j hj
    have : (2 ^ i).testBit j = false := by rw [Nat.testBit_two_pow]; simp; omega
    simp [Nat.testBit_or, this]
theorem low_bit : ∀ b : Nat, 0 < b → ∃ l, b.testBit l = true ∧ ∀ i, (b &&& (b - 1)).testBit i = (b.testBit i && decide (i ≠ l)) := by
  intro b
  induction b using Nat.strongRecOn with
  | ind b ih =>
    intro hb
    by_cases ho : b % 2 = 1
    · refine ⟨0, by simp [Nat.testBit_zero, ho], fun i => ?_⟩
      rw [Nat.testBit_and]
      cases i with
      | zero =>
        have h0 : (b - 1) % 2 = 0 := by omega
        simp [Nat.testBit_zero, h0]
      | succ i =>
        have : (b - 1) / 2 = b / 2 := by omega
        simp [Nat.testBit_succ, this]
    · obtain ⟨l, h1, h2⟩ := ih (b / 2) (by omega) (by omega)
      refine ⟨l + 1, by rw [Nat.testBit_succ]; exact h1, fun i => ?_⟩
      cases i with
      | zero =>
        have : b % 2 = 0 := by omega
        simp [Nat.testBit_and, Nat.testBit_zero, this]
      | succ i =>
        have h3 := h2 i
        rw [Nat.testBit_and] at h3 ⊢
        have h4 : (b - 1) / 2 = b / 2 - 1 := by omega
        rw [Nat.testBit_succ, Nat.testBit_succ, h4, h3]
        simp
/-- a number without its lowest bit -/
def lowC (b : Nat) : Nat := b &&& (b - 1)
theorem lowC_lt {b : Nat} (h : 0 < b) : lowC b < b := by
  have := @Nat.and_le_right b (b - 1)
  unfold lowC
  omega
theorem pc_low {b : Nat} (h0 : 0 < b) (h : b < 18446744073709551616) : pc b = pc (lowC b) + 1 := by
  obtain ⟨l, h1, h2⟩ := low_bit b h0
  have hl : l < 64 := by
    rcases Nat.lt_or_ge l 64 with g | g
    · exact g
    · have := Nat.testBit_lt_two_pow (x := b) (i := l) (Nat.lt_of_lt_of_le h (by
        have : (18446744073709551616 : Nat) = 2 ^ 64 := by decide
        rw [this]; exact Nat.pow_le_pow_right (by decide) g))
      rw [this] at h1; cases h1
  unfold pc
  refine sumN_one hl ?_ ?_
  · show _ = ((b &&& (b - 1)).testBit l).toNat + 1
    rw [h2, h1]; simp
  · intro j hj
    show _ = ((b &&& (b - 1)).testBit j).toNat
    rw [h2]; simp [hj]

/-- the bit of a pair -/
def bit2 (x y : Nat) : Nat := 2 ^ (8 * x + y)
theorem bit2_lt {x y : Nat} (hx : x < 8) (hy : y < 8) : bit2 x y < 18446744073709551616 := by
  have : (18446744073709551616 : Nat) = 2 ^ 64 := by decide
  rw [this]
  exact Nat.pow_lt_pow_right (by decide) (by omega)
/-- the pairs (0, y) .. (k - 1, y) that descend, beside c -/
def desIn (s : Nat → Nat) (y c : Nat) : Nat → Nat
  | 0 => c
  | k + 1 => if s y < s k then desIn s y c k ||| bit2 k y else desIn s y c k
/-- the pairs below n that descend -/
def desK (s : Nat → Nat) : Nat → Nat
  | 0 => 0
  | y + 1 => desIn s y (desK s y) y
theorem desIn_zero (s y c) : desIn s y c 0 = c := rfl
theorem desIn_yes {s y c k} (h : s y < s k) : desIn s y c k ||| bit2 k y = desIn s y c (k + 1) := by simp [desIn, h]
theorem desIn_no {s y c k} (h : ¬ s y < s k) : desIn s y c k = desIn s y c (k + 1) := by simp [desIn, h]
theorem desK_zero (s) : desK s 0 = 0 := rfl
theorem desK_succ (s y) : desIn s y (desK s y) y = desK s (y + 1) := rfl
theorem bit2_bit {x y i : Nat} (hy : y < 8) : (bit2 x y).testBit i = decide (x = i / 8 ∧ y = i % 8) := by
  unfold bit2
  rw [Nat.testBit_two_pow]
  congr 1
  apply propext
  omega
theorem desIn_bit {s : Nat → Nat} {y c i : Nat} (hy : y < 8) : ∀ k, (desIn s y c k).testBit i = (c.testBit i || decide (y = i % 8 ∧ i / 8 < k ∧ s y < s (i / 8)))
  | 0 => by simp [desIn]
  | k + 1 => by
    have ih := desIn_bit (s := s) (c := c) (i := i) hy k
    simp only [desIn]
    split
    · rename_i h
      rw [Nat.testBit_or, ih, bit2_bit hy, Bool.or_assoc]
      congr 1
      rw [← Bool.decide_or]
      congr 1
      apply propext
      constructor
      · rintro (⟨h1, h2, h3⟩ | ⟨h1, h2⟩)
        · exact ⟨h1, by omega, h3⟩
        · exact ⟨h2, by omega, by rw [← h1]; exact h⟩
      · rintro ⟨h1, h2, h3⟩
        by_cases e : k = i / 8
        · exact .inr ⟨e, h1⟩
        · exact .inl ⟨h1, by omega, h3⟩
    · rename_i h
      rw [ih]
      congr 2
      apply propext
      constructor
      · rintro ⟨h1, h2, h3⟩; exact ⟨h1, by omega, h3⟩
      · rintro ⟨h1, h2, h3⟩
        refine ⟨h1, ?_, h3⟩
        by_cases e : i / 8 = k
        · rw [e] at h3; exact absurd h3 h
        · omega
theorem desK_bit {s : Nat → Nat} {i : Nat} : ∀ n, n ≤ 8 → (desK s n).testBit i = decide (i / 8 < i % 8 ∧ i % 8 < n ∧ s (i % 8) < s (i / 8))
  | 0, _ => by simp [desK]
  | n + 1, h => by
    rw [← desK_succ, desIn_bit (by omega), desK_bit n (by omega), ← Bool.decide_or]
    congr 1
    apply propext
    constructor
    · rintro (⟨h1, h2, h3⟩ | ⟨h1, h2, h3⟩)
      · exact ⟨h1, by omega, h3⟩
      · rw [h1] at h2 h3; exact ⟨h2, by omega, h3⟩
    · rintro ⟨h1, h2, h3⟩
      by_cases e : i % 8 = n
      · exact .inr ⟨e.symm, by omega, by rw [← e]; exact h3⟩
      · exact .inl ⟨h1, by omega, h3⟩
theorem lt64_of_bits {a : Nat} (h : ∀ i, 64 ≤ i → a.testBit i = false) : a < 18446744073709551616 := by
  have : (18446744073709551616 : Nat) = 2 ^ 64 := by decide
  rw [this]
  exact Nat.lt_pow_two_of_testBit a h
theorem desK_lt (s : Nat → Nat) {n : Nat} (h : n ≤ 8) : desK s n < 18446744073709551616 := by
  refine lt64_of_bits fun i hi => ?_
  rw [desK_bit n h]
  simp
  omega
theorem desIn_lt (s : Nat → Nat) {y k : Nat} (hy : y < 8) (hk : k ≤ y) : desIn s y (desK s y) k < 18446744073709551616 := by
  refine lt64_of_bits fun i hi => ?_
  rw [desIn_bit hy, desK_bit y (by omega), ← Bool.decide_or]
  simp
  omega
/-- does a pair descend? -/
def fd (s : Nat → Nat) (x y : Nat) : Nat := if x < y ∧ s y < s x then 1 else 0
theorem pc_desIn (s : Nat → Nat) {y : Nat} (hy : y < 8) : ∀ k, k ≤ y → pc (desIn s y (desK s y) k) = pc (desK s y) + sumN k fun x => fd s x y
  | 0, _ => by simp [desIn_zero, sumN_zero]
  | k + 1, hk => by
    have ih := pc_desIn s hy k (by omega)
    rw [sumN_succ]
    by_cases h : s y < s k
    · rw [← desIn_yes h, bit2, pc_or (by omega), ih]
      · have h1 : k < y := by omega
        simp [fd, h, h1]
        omega
      · rw [desIn_bit hy, desK_bit y (by omega), ← Bool.decide_or]
        have e1 : (8 * k + y) / 8 = k := by omega
        have e2 : (8 * k + y) % 8 = y := by omega
        rw [e1, e2]
        simp
    · rw [← desIn_no h, ih]
      simp [fd, h]
/-- how many pairs below n descend -/
def lenK (s : Nat → Nat) (n : Nat) : Nat := sumN n fun x => sumN n fun y => fd s x y
theorem pc_desK (s : Nat → Nat) : ∀ n, n ≤ 8 → pc (desK s n) = sumN n fun y => sumN y fun x => fd s x y
  | 0, _ => by rw [desK_zero, pc_zero, sumN_zero]
  | n + 1, h => by rw [← desK_succ, pc_desIn s (by omega) n (Nat.le_refl _), pc_desK s n (by omega), sumN_succ]
theorem pc_des (s : Nat → Nat) {n : Nat} (h : n ≤ 8) : pc (desK s n) = lenK s n := by
  rw [pc_desK s n h, lenK, sumN_swap]
  refine sumN_ext fun y hy => ?_
  rw [sumN_more (n := y) (m := n) (by omega)]
  intro x h1 h2
  have : ¬ x < y := by omega
  simp [fd, this]
theorem fd_le (s x y) : fd s x y ≤ 1 := by unfold fd; split <;> omega
theorem lenK_le (s : Nat → Nat) {n : Nat} (h : n ≤ 8) : lenK s n ≤ 64 := by
  have h1 : ∀ x, x < n → sumN n (fun y => fd s x y) ≤ n * 1 := fun x _ => sumN_le fun y _ => fd_le s x y
  have h2 := sumN_le (n := n) (f := fun x => sumN n fun y => fd s x y) (c := n * 1) h1
  have h3 : n * (n * 1) ≤ 8 * 8 := by rw [Nat.mul_one]; exact Nat.mul_le_mul h h
  unfold lenK
  omega
/-- the reference's count, when x rows are done, and k pairs of the next -/
def cntK (s : Nat → Nat) (n x k : Nat) : Nat := (sumN x fun x => sumN n fun y => fd s x y) + sumN k fun y => fd s x y
/-- .. when x rows are done -/
def rowK (s : Nat → Nat) (n x : Nat) : Nat := sumN x fun x => sumN n fun y => fd s x y
theorem rowK_zero (s n) : rowK s n 0 = 0 := rfl
theorem rowK_all (s n) : rowK s n n = lenK s n := rfl
theorem rowK_start (s n x) : cntK s n x (x + 1) = rowK s n x := by
  unfold cntK rowK
  rw [sumN_none (n := x + 1)]
  · rfl
  · intro y hy
    have : ¬ x < y := by omega
    simp [fd, this]
theorem rowK_end (s n x) : cntK s n x n = rowK s n (x + 1) := rfl
theorem cntK_yes {s n x k} (h : x < k) (hd : s k < s x) : cntK s n x k + 1 = cntK s n x (k + 1) := by
  simp only [cntK, sumN_succ, fd, h, hd]; simp; omega
theorem cntK_no {s n x k} (hd : ¬ s k < s x) : cntK s n x k = cntK s n x (k + 1) := by
  simp only [cntK, sumN_succ, fd, hd]; simp
theorem cntK_le {s : Nat → Nat} {n x k : Nat} (hn : n ≤ 8) (hx : x < 8) (hk : k ≤ 8) : cntK s n x k ≤ 100 := by
  have h1 : ∀ x, x < n → sumN n (fun y => fd s x y) ≤ n * 1 := fun x _ => sumN_le fun y _ => fd_le s x y
  have h2 := sumN_le (n := x) (f := fun x => sumN n fun y => fd s x y) (c := 8) fun i _ => by
    have := sumN_le (n := n) (f := fun y => fd s i y) (c := 1) fun y _ => fd_le s i y
    omega
  have h3 := sumN_le (n := k) (f := fun y => fd s x y) (c := 1) fun y _ => fd_le s x y
  unfold cntK
  omega

/-! ## what the machine's numbers are -/
theorem wrap_u64 {a : Nat} (h : a < 18446744073709551616) : IntKind.u64.wrap (a : Int) = a := by
  show (a : Int) % _ = _
  have : (2 : Int) ^ IntKind.u64.bits = 18446744073709551616 := by decide
  rw [this]
  omega
theorem ofInt_nat (a : Nat) : BitVec.ofInt 64 (a : Int) = BitVec.ofNat 64 a := by
  apply BitVec.eq_of_toNat_eq
  rw [BitVec.toNat_ofInt, BitVec.toNat_ofNat]
  omega
theorem or64 {a b : Nat} (ha : a < 18446744073709551616) (hb : b < 18446744073709551616) : bits .or .u64 (a : Int) (b : Int) = ((a ||| b : Nat) : Int) := by
  have h : a ||| b < 18446744073709551616 := Nat.or_lt_two_pow (n := 64) ha hb
  show IntKind.u64.wrap ((BitVec.ofInt 64 (a : Int) ||| BitVec.ofInt 64 (b : Int)).toNat : Int) = _
  rw [ofInt_nat, ofInt_nat, BitVec.toNat_or, BitVec.toNat_ofNat, BitVec.toNat_ofNat, Nat.mod_eq_of_lt (a := a) ha, Nat.mod_eq_of_lt (a := b) hb, wrap_u64 h]
@[go_sem] theorem and64 {a b : Nat} (ha : a < 18446744073709551616) (hb : b < 18446744073709551616) : bits .and .u64 (a : Int) (b : Int) = ((a &&& b : Nat) : Int) := by
  have h : a &&& b < 18446744073709551616 := Nat.lt_of_le_of_lt Nat.and_le_left ha
  show IntKind.u64.wrap ((BitVec.ofInt 64 (a : Int) &&& BitVec.ofInt 64 (b : Int)).toNat : Int) = _
  rw [ofInt_nat, ofInt_nat, BitVec.toNat_and, BitVec.toNat_ofNat, BitVec.toNat_ofNat, Nat.mod_eq_of_lt (a := a) ha, Nat.mod_eq_of_lt (a := b) hb, wrap_u64 h]
/-- the bits of a that b lacks -/
def notC (a b : Nat) : Nat := (BitVec.ofNat 64 a &&& ~~~ BitVec.ofNat 64 b).toNat
theorem notC_lt (a b) : notC a b < 18446744073709551616 := (BitVec.ofNat 64 a &&& ~~~ BitVec.ofNat 64 b).isLt
@[go_sem] theorem andNot64 (a b : Nat) : bits .andNot .u64 (a : Int) (b : Int) = ((notC a b : Nat) : Int) := by
  show IntKind.u64.wrap ((BitVec.ofInt 64 (a : Int) &&& ~~~ BitVec.ofInt 64 (b : Int)).toNat : Int) = _
  rw [ofInt_nat, ofInt_nat]
  exact wrap_u64 (notC_lt a b)
theorem notC_zero {a b : Nat} (ha : a < 18446744073709551616) : notC a b = 0 ↔ ∀ i, a.testBit i = true → b.testBit i = true := by
  constructor
  · intro h i hi
    have hi64 : i < 64 := by
      rcases Nat.lt_or_ge i 64 with g | g
      · exact g
      · have := Nat.testBit_lt_two_pow (x := a) (i := i) (Nat.lt_of_lt_of_le ha (by
          have : (18446744073709551616 : Nat) = 2 ^ 64 := by decide
          rw [this]; exact Nat.pow_le_pow_right (by decide) g))
        rw [this] at hi; cases hi
    have h2 : (BitVec.ofNat 64 a &&& ~~~ BitVec.ofNat 64 b).getLsbD i = false := by
      show (notC a b).testBit i = false
      rw [h]; simp
    rw [BitVec.getLsbD_and, BitVec.getLsbD_not, BitVec.getLsbD_ofNat, BitVec.getLsbD_ofNat] at h2
    simpa [hi64, hi] using h2
  · intro h
    apply Nat.eq_of_testBit_eq
    intro i
    show (BitVec.ofNat 64 a &&& ~~~ BitVec.ofNat 64 b).getLsbD i = _
    rw [BitVec.getLsbD_and, BitVec.getLsbD_not, BitVec.getLsbD_ofNat, BitVec.getLsbD_ofNat, Nat.zero_testBit]
    by_cases hi : i < 64
    · cases ha : a.testBit i with
      | false => simp
      | true => simp [h i ha, hi]
    · simp [hi]
/-- is every pair that descends in a descending in b? -/
def withK (a b : Nat → Nat) (n : Nat) : Bool := decide (∀ y, y < n → ∀ x, x < y → a y < a x → ¬ b x < b y)
theorem withK_yes {a b n} (h : ∀ x y, x < n → x < y → y < n → a y < a x → ¬ b x < b y) : withK a b n = true := by
  simp only [withK, decide_eq_true_eq]
  intro y hy x hx ha
  exact h x y (by omega) hx hy ha
theorem withK_no {a b : Nat → Nat} {n x y : Nat} (hx : x < y) (hy : y < n) (ha : a y < a x) (hb : b x < b y) : withK a b n = false := by
  simp only [withK, decide_eq_false_iff_not]
  intro h
  exact h y hy x hx ha hb
theorem withK_not {a b : Nat → Nat} {n : Nat} (h2 : n ≤ 8) (hb : ∀ i j, i < n → j < n → b i = b j → i = j) : decide (notC (desK a n) (desK b n) = 0) = withK a b n := by
  unfold withK
  rw [decide_eq_decide, notC_zero (desK_lt a h2)]
  constructor
  · intro h y hy x hx ha hb'
    have e1 : (8 * x + y) / 8 = x := by omega
    have e2 : (8 * x + y) % 8 = y := by omega
    have h3 := h (8 * x + y)
    rw [desK_bit n h2, desK_bit n h2, e1, e2] at h3
    simp only [decide_eq_true_eq] at h3
    have := (h3 ⟨hx, hy, ha⟩).2.2
    omega
  · intro h i hi
    rw [desK_bit n h2] at hi ⊢
    simp only [decide_eq_true_eq] at hi ⊢
    obtain ⟨h3, h4, h5⟩ := hi
    have h6 := h (i % 8) h4 (i / 8) h3 h5
    have h7 : b (i % 8) ≠ b (i / 8) := fun e => by have := hb _ _ h4 (by omega) e; omega
    exact ⟨h3, h4, by omega⟩
theorem withK_not' {a b : Nat → Nat} {n : Nat} (h2 : n ≤ 8) (hb : ∀ i j, i < n → j < n → b i = b j → i = j) : (((notC (desK a n) (desK b n) : Nat) : Int) == 0) = withK a b n := by
  rw [← withK_not h2 hb, Bool.eq_iff_iff]
  simp
@[go_sem] theorem or_bit (a x y : Nat) (ha : a < 18446744073709551616) (hx : x < 8) (hy : y < 8) : bits .or .u64 (a : Int) ((bit2 x y : Nat) : Int) = ((a ||| bit2 x y : Nat) : Int) := or64 ha (bit2_lt hx hy)
@[go_sem] theorem and_low (b : Nat) (h0 : 0 < b) (h : b < 18446744073709551616) : bits .and .u64 (b : Int) ((b : Int) - 1) = ((lowC b : Nat) : Int) := by
  have e : (b : Int) - 1 = ((b - 1 : Nat) : Int) := by omega
  rw [e, and64 h (by omega)]
  rfl
/-- one bit -/
def bitAt (m e : Nat) : Nat := m / 2 ^ e % 2
theorem bitAt_le (m e) : bitAt m e < 2 := Nat.mod_lt _ (by decide)
@[go_sem] theorem and_bit1 (m e : Nat) (h : m < 18446744073709551616) : bits .and .u64 ((m : Int) / 2 ^ e) 1 = ((bitAt m e : Nat) : Int) := by
  have e1 : (m : Int) / 2 ^ e = ((m / 2 ^ e : Nat) : Int) := by simp
  have h1 : m / 2 ^ e < 18446744073709551616 := Nat.lt_of_le_of_lt (Nat.div_le_self _ _) h
  have := and64 (a := m / 2 ^ e) (b := 1) h1 (by decide)
  rw [e1]
  rw [Nat.and_one_is_mod] at this
  exact this
@[go_sem] theorem wrap_bit (x y : Nat) (hx : x < 8) (hy : y < 8) : IntKind.u64.wrap ((2 : Int) ^ (8 * x + y)) = ((bit2 x y : Nat) : Int) := by
  have e2 : (2 : Int) ^ (8 * x + y) = ((bit2 x y : Nat) : Int) := by unfold bit2; simp
  rw [e2, wrap_u64 (bit2_lt hx hy)]
end Go.Proofs.Ytikakoclmmmjdaa
namespace Go.Proofs.Ytikakoclmmmjdaa
set_option linter.unusedVariables false
set_option linter.unusedSimpArgs false

/-- the numbers at i - 1 and i change places -/
def swapK (c : Nat → Nat) (i : Nat) : Nat → Nat := updN (updN c (i - 1) (c i)) i (c (i - 1))
theorem swapK_at (c i x) : swapK c i x = if x = i then c (i - 1) else if x = i - 1 then c i else c x := rfl
theorem swapK_here (c i) : swapK c i i = c (i - 1) := by simp [swapK_at]
theorem swapK_left {c i} (h : 1 ≤ i) : swapK c i (i - 1) = c i := by
  have : i - 1 ≠ i := by omega
  simp [swapK_at, this]
theorem swapK_else {c i x} (h1 : x ≠ i) (h2 : x ≠ i - 1) : swapK c i x = c x := by simp [swapK_at, h1, h2]
/-- where a place goes -/
def exP (i x : Nat) : Nat := if x = i then i - 1 else if x = i - 1 then i else x
theorem swapK_exP (c i x) : swapK c i x = c (exP i x) := by
  rw [swapK_at]; unfold exP
  split
  · rfl
  · split <;> rfl
theorem exP_lt {i n x : Nat} (h1 : 1 ≤ i) (hi : i < n) (hx : x < n) : exP i x < n := by unfold exP; split; omega; split <;> omega
theorem exP_exP {i x : Nat} (h1 : 1 ≤ i) : exP i (exP i x) = x := by
  unfold exP
  by_cases h : x = i
  · have : i - 1 ≠ i := by omega
    simp [h, this]
  · by_cases h2 : x = i - 1
    · simp [h, h2]
    · simp [h, h2]
/-- a permutation of n numbers -/
structure Perm (n : Nat) (c : Nat → Nat) : Prop where
  lt : ∀ x, x < n → c x < n
  inj : ∀ x y, x < n → y < n → c x = c y → x = y
theorem Perm.swap {n c i} (h : Perm n c) (h1 : 1 ≤ i) (hi : i < n) : Perm n (swapK c i) := by
  constructor
  · intro x hx; rw [swapK_exP]; exact h.lt _ (exP_lt h1 hi hx)
  · intro x y hx hy e
    rw [swapK_exP, swapK_exP] at e
    have := h.inj _ _ (exP_lt h1 hi hx) (exP_lt h1 hi hy) e
    have e2 : exP i (exP i x) = exP i (exP i y) := by rw [this]
    rwa [exP_exP h1, exP_exP h1] at e2
theorem perm_good {n s} (h2 : n ≤ 8) (hg : GoodK n s 8) : Perm n s := ⟨good_le h2 hg, good_inj h2 hg⟩
theorem perm_id (n) : Perm n (idK n) := ⟨fun x hx => by simp [idK, hx], fun x y hx hy e => by simpa [idK, hx, hy] using e⟩

theorem sumN_upd {n i : Nat} (f : Nat → Nat) (v : Nat) (h : i < n) : sumN n (updN f i v) + f i = sumN n f + v := by
  induction n with
  | zero => omega
  | succ n ih =>
    rw [sumN_succ, sumN_succ]
    by_cases e : i = n
    · subst e
      rw [sumN_ext (g := f) fun j hj => by have : j ≠ i := by omega
                                           simp [updN, this]]
      simp [updN]; omega
    · have h1 := ih (by omega)
      have h2 : updN f i v n = f n := by have : n ≠ i := fun h => e h.symm
                                         simp [updN, this]
      omega
/-- what a swap makes greater or smaller -/
def mu (n : Nat) (c : Nat → Nat) : Nat := sumN n fun i => i * c i
theorem mu_ext {n} {c d : Nat → Nat} (h : ∀ i, i < n → c i = d i) : mu n c = mu n d := sumN_ext fun i hi => by rw [h i hi]
theorem mu_swap {n i : Nat} (c : Nat → Nat) (h1 : 1 ≤ i) (hi : i < n) : mu n (swapK c i) + c i = mu n c + c (i - 1) := by
  obtain ⟨k, rfl⟩ : ∃ k, i = k + 1 := ⟨i - 1, by omega⟩
  simp only [Nat.add_sub_cancel]
  have e : mu n (swapK c (k + 1)) = sumN n (updN (updN (fun i => i * c i) k (k * c (k + 1))) (k + 1) ((k + 1) * c k)) := by
    refine sumN_ext fun j _ => ?_
    simp only [swapK_at, updN, Nat.add_sub_cancel]
    by_cases a : j = k + 1
    · subst a; simp
    · by_cases b : j = k
      · subst b; simp [a]
      · simp [a, b]
  have s2 := sumN_upd (n := n) (updN (fun i => i * c i) k (k * c (k + 1))) ((k + 1) * c k) hi
  have s1 := sumN_upd (n := n) (fun i => i * c i) (k * c (k + 1)) (i := k) (by omega)
  have e3 : updN (fun i => i * c i) k (k * c (k + 1)) (k + 1) = (k + 1) * c (k + 1) := by simp [updN]
  rw [e3] at s2
  rw [e]
  have d1 : (k + 1) * c (k + 1) = k * c (k + 1) + c (k + 1) := Nat.succ_mul _ _
  have d2 : (k + 1) * c k = k * c k + c k := Nat.succ_mul _ _
  simp only [mu] at *
  omega
theorem mu_le {n} {c : Nat → Nat} (h2 : n ≤ 8) (hc : ∀ x, x < n → c x < n) : mu n c ≤ 512 := by
  have : mu n c ≤ n * 64 := sumN_le fun i hi => by
    have := hc i hi
    have : i * c i ≤ 8 * 8 := Nat.mul_le_mul (by omega) (by omega)
    omega
  omega

/-! ## arrays -/
/-- the exchange of two neighbours -/
def exK (n i : Nat) : Nat → Nat := swapK (idK n) i
theorem exK_at {n i x : Nat} (h1 : 1 ≤ i) (hi : i < n) (hx : x < n) : exK n i x = exP i x := by
  unfold exK; rw [swapK_exP]; simp [idK, exP_lt h1 hi hx]
theorem exK_lt {n i : Nat} (h1 : 1 ≤ i) (hi : i < n) : ∀ x, x < n → exK n i x < n := fun x hx => by rw [exK_at h1 hi hx]; exact exP_lt h1 hi hx
theorem then_ex {n i : Nat} {s : Nat → Nat} (h1 : 1 ≤ i) (hi : i < n) {x : Nat} (hx : x < n) : thenK (exK n i) s n x = swapK s i x := by
  simp only [thenK, if_pos hx]; rw [exK_at h1 hi hx, swapK_exP]
theorem then_ex' {n i : Nat} {s : Nat → Nat} (h1 : 1 ≤ i) (hi : i < n) (hz : ∀ x, n ≤ x → x < 8 → s x = 0) {x : Nat} (hx : x < 8) : thenK (exK n i) s n x = swapK s i x := by
  by_cases h : x < n
  · exact then_ex h1 hi h
  · have e1 : x ≠ i := by omega
    have e2 : x ≠ i - 1 := by omega
    simp [thenK, h, swapK_at, e1, e2, hz x (by omega) hx]
theorem backK_else {s : Nat → Nat} {x : Nat} : ∀ k, (∀ y, y < k → s y ≠ x) → backK s k x = 0
  | 0, _ => rfl
  | k + 1, h => by
    have h1 : x ≠ s k := fun e => h k (by omega) e.symm
    simp only [backK, updN, if_neg h1]
    exact backK_else k fun y hy => h y (by omega)
theorem backK_at {s : Nat → Nat} {p : Nat} : ∀ k, p < k → (∀ x y, x < k → y < k → s x = s y → x = y) → backK s k (s p) = p
  | 0, h, _ => by omega
  | k + 1, h, hi => by
    simp only [backK, updN]
    by_cases e : s p = s k
    · rw [if_pos e]; exact (hi p k (by omega) (by omega) e).symm
    · rw [if_neg e]
      have : p ≠ k := fun h' => e (by rw [h'])
      exact backK_at k (by omega) fun x y hx hy => hi x y (by omega) (by omega)
theorem Perm.has {n : Nat} {c : Nat → Nat} (h : Perm n c) : ∀ x, x < n → ∃ p, p < n ∧ c p = x := by
  intro x hx
  refine Classical.byContradiction fun hno => ?_
  have hno' : ∀ p, p < n → c p ≠ x := fun p hp e => hno ⟨p, hp, e⟩
  -- n numbers in n - 1 places
  have key : ∀ (m : Nat) (f : Nat → Nat) (k : Nat), (∀ i, i < k → f i < m) → (∀ i j, i < k → j < k → f i = f j → i = j) → k ≤ m := by
    intro m
    induction m with
    | zero => intro f k h1 _; rcases Nat.eq_zero_or_pos k with e | e; omega; have := h1 0 e; omega
    | succ m ih =>
      intro f k h1 h2
      by_cases he : ∃ q, q < k ∧ f q = m
      · obtain ⟨q, hq, hqm⟩ := he
        have : k - 1 ≤ m := ih (fun i => if i = q then f (k - 1) else f i) (k - 1)
          (fun i hi => by
            show (if i = q then f (k - 1) else f i) < m
            split
            · rename_i e
              have a := h1 (k - 1) (by omega)
              have b : f (k - 1) ≠ m := fun e' => by have := h2 (k - 1) q (by omega) hq (by rw [e', hqm]); omega
              omega
            · rename_i e
              have a := h1 i (by omega)
              have b : f i ≠ m := fun e' => e (h2 i q (by omega) hq (by rw [e', hqm]))
              omega)
          (fun i j hi hj e => by
            have e' : (if i = q then f (k - 1) else f i) = (if j = q then f (k - 1) else f j) := e
            split at e' <;> split at e'
            · omega
            · have := h2 _ _ (by omega) (by omega) e'; omega
            · have := h2 _ _ (by omega) (by omega) e'; omega
            · exact h2 _ _ (by omega) (by omega) e')
        omega
      · have := ih f k (fun i hi => by
            have a := h1 i hi
            have b : f i ≠ m := fun e => he ⟨i, hi, e⟩
            omega) h2
        omega
  have := key (n - 1) (fun p => if c p < x then c p else c p - 1) n
    (fun i hi => by
      have a := h.lt i hi
      have b := hno' i hi
      show (if c i < x then c i else c i - 1) < n - 1
      split <;> omega)
    (fun i j hi hj e => by
      have e' : (if c i < x then c i else c i - 1) = (if c j < x then c j else c j - 1) := e
      have a := hno' i hi
      have b := hno' j hj
      exact h.inj i j hi hj (by split at e' <;> split at e' <;> omega))
  omega
theorem back_lt {n : Nat} {c : Nat → Nat} (h : Perm n c) : ∀ x, x < n → backK c n x < n := by
  intro x hx
  obtain ⟨p, hp, rfl⟩ := h.has x hx
  rw [backK_at n hp h.inj]; exact hp
theorem back_out {n : Nat} {c : Nat → Nat} (h : Perm n c) {x : Nat} (hx : n ≤ x) : backK c n x = 0 :=
  backK_else n fun y hy e => by have := h.lt y hy; omega
theorem back_swap {n i : Nat} {c : Nat → Nat} (h : Perm n c) (h1 : 1 ≤ i) (hi : i < n) : thenK (backK c n) (exK n i) n = backK (swapK c i) n := by
  funext x
  have hs := h.swap h1 hi
  by_cases hx : x < n
  · obtain ⟨p, hp, rfl⟩ := h.has x hx
    simp only [thenK, if_pos hx]
    rw [backK_at n hp h.inj, exK_at h1 hi hp]
    have e : c p = swapK c i (exP i p) := by rw [swapK_exP, exP_exP h1]
    rw [e, backK_at n (exP_lt h1 hi hp) hs.inj]
  · rw [back_out hs (by omega)]
    simp [thenK, hx]
theorem back_id (n : Nat) : backK (idK n) n = idK n := by
  funext x
  by_cases hx : x < n
  · have e : idK n x = x := by simp [idK, hx]
    have := backK_at (s := idK n) n hx (perm_id n).inj
    rw [e] at this
    rw [this, e]
  · rw [back_out (perm_id n) (by omega)]; simp [idK, hx]

/-! ## the least word -/
/-- the least word of what is left, by so many steps at most -/
def wordK (n : Nat) : Nat → (Nat → Nat) → List Int
  | 0, _ => []
  | f + 1, s => match begK s n with
    | [] => []
    | i :: _ => i :: wordK n f (swapK s i.toNat)
theorem wordK_length (n) : ∀ f s, (wordK n f s).length ≤ f
  | 0, _ => Nat.zero_le _
  | f + 1, s => by
    simp only [wordK]
    split
    · exact Nat.zero_le _
    · simp only [List.length_cons]; have := wordK_length n f (swapK s (Int.toNat ‹Int›)); omega
theorem begK_mem {s : Nat → Nat} {n : Nat} {x : Int} (h : x ∈ begK s n) : ∃ i : Nat, x = i ∧ 1 ≤ i ∧ i < n ∧ s i < s (i - 1) := by
  simp only [begK, List.mem_map, List.mem_filter, List.mem_range, decide_eq_true_eq] at h
  obtain ⟨i, ⟨h1, h2, h3⟩, rfl⟩ := h
  exact ⟨i, rfl, h2, h1, h3⟩
theorem begK_nil {s : Nat → Nat} {n : Nat} (h : begK s n = []) : ∀ i, 1 ≤ i → i < n → ¬ s i < s (i - 1) := by
  intro i h1 hi hd
  have : (i : Int) ∈ begK s n := by
    simp only [begK, List.mem_map, List.mem_filter, List.mem_range, decide_eq_true_eq]
    exact ⟨i, ⟨hi, h1, hd⟩, rfl⟩
  rw [h] at this; cases this
theorem begK_ext {s t : Nat → Nat} {n : Nat} (h : ∀ i, i < n → s i = t i) : begK s n = begK t n := by
  unfold begK
  congr 1
  apply List.filter_congr
  intro i hi
  rw [List.mem_range] at hi
  congr 1
  apply propext
  by_cases h1 : 1 ≤ i
  · rw [h i hi, h (i - 1) (by omega)]
  · simp [h1]
theorem wordK_nil {n f s} (h : begK s n = []) : wordK n f s = [] := by
  cases f with
  | zero => rfl
  | succ f => simp [wordK, h]
theorem wordK_cons {n f s i l} (h : begK s n = i :: l) : wordK n (f + 1) s = i :: wordK n f (swapK s i.toNat) := by simp [wordK, h]
theorem wordK_ext {n : Nat} : ∀ (f : Nat) {s t : Nat → Nat}, (∀ i, i < n → s i = t i) → wordK n f s = wordK n f t
  | 0, _, _, _ => rfl
  | f + 1, s, t, h => by
    have hb := begK_ext h
    cases hs : begK s n with
    | nil => rw [wordK_nil hs, wordK_nil (by rw [← hb]; exact hs)]
    | cons x l =>
      obtain ⟨i, rfl, h1, hi, _⟩ := begK_mem (s := s) (n := n) (x := x) (by rw [hs]; exact List.mem_cons_self)
      rw [wordK_cons hs, wordK_cons (hb.symm.trans hs)]
      rw [wordK_ext f fun y hy => ?_]
      show swapK s i y = swapK t i y
      rw [swapK_exP, swapK_exP, h _ (exP_lt h1 hi hy)]
theorem Perm.ext {n : Nat} {s t : Nat → Nat} (hp : Perm n s) (h : ∀ i, i < n → t i = s i) : Perm n t :=
  ⟨fun x hx => by rw [h x hx]; exact hp.lt x hx, fun x y hx hy e => hp.inj x y hx hy (by rw [← h x hx, ← h y hy]; exact e)⟩

/-! ## a measure of what lies in memory -/
def natAt (w : World) (b i : Nat) : Nat := match w.cell? ⟨b, i, none⟩ with
  | some (.int _ v) => v.toNat
  | _ => 0
def muAt (n : Nat) (w : World) (b : Nat) : Nat := mu n (natAt w b)
theorem muAt_arr {n : Nat} {w : World} {b : Nat} {c : Nat → Nat} {T : TypeId} (h : w.heap[b]? = some (.cells (arrF .u8 8 (up c)) T)) (h2 : n ≤ 8) : muAt n w b = mu n c := by
  refine mu_ext fun i hi => ?_
  unfold natAt World.cell?
  rw [h]
  simp [arrF_get _ _ _ _ (show i < 8 by omega), up]
end Go.Proofs.Ytikakoclmmmjdaa
namespace Go.Proofs.Ytikakoclmmmjdaa
set_option linter.unusedVariables false
set_option linter.unusedSimpArgs false

/-- one or more steps, or none -/
inductive Star {α : Type} (R : α → α → Prop) : α → α → Prop
  | refl (a) : Star R a a
  | head {a b c} : R a b → Star R b c → Star R a c
theorem Star.one {α : Type} {R : α → α → Prop} {a b : α} (h : R a b) : Star R a b := .head h (.refl _)
theorem Star.trans {α : Type} {R : α → α → Prop} {a b c : α} (h : Star R a b) (k : Star R b c) : Star R a c := by
  induction h with
  | refl => exact k
  | head h1 _ ih => exact .head h1 (ih k)
theorem Star.tail {α : Type} {R : α → α → Prop} {a b c : α} (h : Star R a b) (k : R b c) : Star R a c := h.trans (.one k)
/-- Newman's lemma, with a measure -/
theorem newman {α : Type} {R : α → α → Prop} (m : α → Nat) (hm : ∀ a b, R a b → m b < m a) (lc : ∀ a b c, R a b → R a c → ∃ d, Star R b d ∧ Star R c d) :
    ∀ k a, m a < k → ∀ b c, Star R a b → Star R a c → ∃ d, Star R b d ∧ Star R c d := by
  intro k
  induction k with
  | zero => intro a h; omega
  | succ k ih =>
    intro a ha b c hb hc
    cases hb with
    | refl => exact ⟨c, hc, .refl _⟩
    | head b1 b2 =>
      cases hc with
      | refl => exact ⟨b, .refl _, .head b1 b2⟩
      | head c1 c2 =>
        rename_i x y
        obtain ⟨d, d1, d2⟩ := lc _ _ _ b1 c1
        have hx := hm _ _ b1
        have hy := hm _ _ c1
        obtain ⟨e, e1, e2⟩ := ih x (by omega) _ _ b2 d1
        obtain ⟨f, f1, f2⟩ := ih y (by omega) _ _ c2 (d2.trans e2)
        exact ⟨f, e1.trans f2, f1⟩
/-- two ends are the same -/
theorem ends_same {α : Type} {R : α → α → Prop} (m : α → Nat) (hm : ∀ a b, R a b → m b < m a) (lc : ∀ a b c, R a b → R a c → ∃ d, Star R b d ∧ Star R c d)
    {a b c : α} (hb : Star R a b) (hc : Star R a c) (eb : ∀ x, ¬ R b x) (ec : ∀ x, ¬ R c x) : b = c := by
  obtain ⟨d, d1, d2⟩ := newman m hm lc (m a + 1) a (by omega) b c hb hc
  have e1 : b = d := by cases d1 with
    | refl => rfl
    | head h _ => exact absurd h (eb _)
  have e2 : c = d := by cases d2 with
    | refl => rfl
    | head h _ => exact absurd h (ec _)
  rw [e1, e2]

/-- a step: two neighbours that ascend, and that may cross, change places -/
def Step (C : Nat → Nat → Prop) (n : Nat) (c d : Nat → Nat) : Prop := ∃ i, 1 ≤ i ∧ i < n ∧ c (i - 1) < c i ∧ C (c (i - 1)) (c i) ∧ d = swapK c i
theorem Step.mu {C n c d} (h : Step C n c d) : mu n d < mu n c := by
  obtain ⟨i, h1, hi, hlt, _, rfl⟩ := h
  have := mu_swap c h1 hi
  omega
theorem swap_comm {c : Nat → Nat} {i j : Nat} (h1 : 1 ≤ i) (h : i + 1 < j) : swapK (swapK c i) j = swapK (swapK c j) i := by
  funext x
  simp only [swapK_at]
  have a1 : j ≠ i := by omega
  have a2 : j ≠ i - 1 := by omega
  have a3 : j - 1 ≠ i := by omega
  have a4 : j - 1 ≠ i - 1 := by omega
  have b1 : i ≠ j := by omega
  have b2 : i ≠ j - 1 := by omega
  have b3 : i - 1 ≠ j := by omega
  have b4 : i - 1 ≠ j - 1 := by omega
  simp only [a1, a2, a3, a4, b1, b2, b3, b4, if_false]
  by_cases e1 : x = j
  · subst e1; simp [a1, a2]
  · by_cases e2 : x = j - 1
    · subst e2; simp [a3, a4]
    · simp [e1, e2]
theorem swap_braid {c : Nat → Nat} {i : Nat} (h1 : 1 ≤ i) : swapK (swapK (swapK c i) (i + 1)) i = swapK (swapK (swapK c (i + 1)) i) (i + 1) := by
  obtain ⟨k, rfl⟩ : ∃ k, i = k + 1 := ⟨i - 1, by omega⟩
  funext x
  have n1 : ¬ (k + 1 + 1 = k) := by omega
  have n2 : ¬ (k = k + 1 + 1) := by omega
  simp only [swapK_at, Nat.add_sub_cancel]
  by_cases e1 : x = k
  · subst e1; simp [n1, n2]
  · by_cases e2 : x = k + 1
    · subst e2; simp [n1, n2]
    · by_cases e3 : x = k + 1 + 1
      · subst e3; simp [n1, n2]
      · simp [e1, e2, e3]
theorem step_at {C n} {c : Nat → Nat} {i : Nat} (h1 : 1 ≤ i) (hi : i < n) {x y : Nat} (hx : c (i - 1) = x) (hy : c i = y) (hlt : x < y) (hC : C x y) : Step C n c (swapK c i) :=
  ⟨i, h1, hi, by rw [hx, hy]; exact hlt, by rw [hx, hy]; exact hC, rfl⟩
theorem step_near {C n} (hT : ∀ x y z, x < y → y < z → C x y → C y z → C x z) {c : Nat → Nat} {i : Nat} (h1 : 1 ≤ i) (hi : i + 1 < n) (l1 : c (i - 1) < c i) (C1 : C (c (i - 1)) (c i)) (l2 : c i < c (i + 1)) (C2 : C (c i) (c (i + 1))) :
    ∃ d, Star (Step C n) (swapK c i) d ∧ Star (Step C n) (swapK c (i + 1)) d := by
  have l3 : c (i - 1) < c (i + 1) := by omega
  have C3 := hT _ _ _ l1 l2 C1 C2
  obtain ⟨k, rfl⟩ : ∃ k, i = k + 1 := ⟨i - 1, by omega⟩
  simp only [Nat.add_sub_cancel] at *
  have n1 : ¬ (k + 1 + 1 = k) := by omega
  have n2 : ¬ (k = k + 1 + 1) := by omega
  refine ⟨swapK (swapK (swapK c (k + 1)) (k + 1 + 1)) (k + 1), ?_, ?_⟩
  · refine .head (step_at (by omega) (by omega) (x := c k) (y := c (k + 1 + 1)) ?_ ?_ l3 C3) (.one (step_at (by omega) (by omega) (x := c (k + 1)) (y := c (k + 1 + 1)) ?_ ?_ l2 C2)) <;> simp [swapK_at, n1, n2]
  · rw [swap_braid (by omega)]
    refine .head (step_at (by omega) (by omega) (x := c k) (y := c (k + 1 + 1)) ?_ ?_ l3 C3) (.one (step_at (by omega) (by omega) (x := c k) (y := c (k + 1)) ?_ ?_ l1 C1)) <;> simp [swapK_at, n1, n2]
theorem step_far {C n} {c : Nat → Nat} {i j : Nat} (h1 : 1 ≤ i) (h : i + 1 < j) (hj : j < n) (l1 : c (i - 1) < c i) (C1 : C (c (i - 1)) (c i)) (l2 : c (j - 1) < c j) (C2 : C (c (j - 1)) (c j)) :
    ∃ d, Star (Step C n) (swapK c i) d ∧ Star (Step C n) (swapK c j) d := by
  have a1 : j ≠ i := by omega
  have a2 : j ≠ i - 1 := by omega
  have a3 : j - 1 ≠ i := by omega
  have a4 : j - 1 ≠ i - 1 := by omega
  have b1 : i ≠ j := by omega
  have b2 : i ≠ j - 1 := by omega
  have b3 : i - 1 ≠ j := by omega
  have b4 : i - 1 ≠ j - 1 := by omega
  refine ⟨swapK (swapK c i) j, .one (step_at (by omega) hj (swapK_else a3 a4) (swapK_else a1 a2) l2 C2), ?_⟩
  rw [swap_comm h1 h]
  exact .one (step_at h1 (by omega) (swapK_else b3 b4) (swapK_else b1 b2) l1 C1)
theorem step_local {C n} (hT : ∀ x y z, x < y → y < z → C x y → C y z → C x z) : ∀ a b c, Step C n a b → Step C n a c → ∃ d, Star (Step C n) b d ∧ Star (Step C n) c d := by
  rintro a b c ⟨i, h1, hi, l1, C1, rfl⟩ ⟨j, k1, kj, l2, C2, rfl⟩
  rcases Nat.lt_trichotomy i j with h | h | h
  · by_cases e : j = i + 1
    · subst e; rw [Nat.add_sub_cancel] at l2 C2; exact step_near hT h1 kj l1 C1 l2 C2
    · exact step_far h1 (by omega) kj l1 C1 l2 C2
  · subst h; exact ⟨_, .refl _, .refl _⟩
  · by_cases e : i = j + 1
    · subst e; rw [Nat.add_sub_cancel] at l1 C1
      obtain ⟨d, d1, d2⟩ := step_near hT k1 hi l2 C2 l1 C1
      exact ⟨d, d2, d1⟩
    · obtain ⟨d, d1, d2⟩ := step_far k1 (by omega) hi l2 C2 l1 C1
      exact ⟨d, d2, d1⟩
/-- the pairs that cross in both -/
def Both (a b : Nat → Nat) (x y : Nat) : Prop := a y < a x ∧ b y < b x
theorem both_trans {a b : Nat → Nat} : ∀ x y z, x < y → y < z → Both a b x y → Both a b y z → Both a b x z := fun x y z _ _ h k => ⟨by have := h.1; have := k.1; omega, by have := h.2; have := k.2; omega⟩
/-- c is reached, and no step is left -/
def Meets (a b : Nat → Nat) (n : Nat) (c : Nat → Nat) : Prop := Star (Step (Both a b) n) (idK n) c ∧ ∀ i, 1 ≤ i → i < n → ¬ (c (i - 1) < c i ∧ Both a b (c (i - 1)) (c i))
theorem meets_same {a b n c d} (h : Meets a b n c) (k : Meets a b n d) : c = d :=
  ends_same (mu n) (fun _ _ => Step.mu) (step_local both_trans) h.1 k.1 (fun x ⟨i, h1, hi, l, C, _⟩ => h.2 i h1 hi ⟨l, C⟩) (fun x ⟨i, h1, hi, l, C, _⟩ => k.2 i h1 hi ⟨l, C⟩)
theorem star_perm {C n} {c d : Nat → Nat} (h : Star (Step C n) c d) (hc : Perm n c) : Perm n d := by
  induction h with
  | refl => exact hc
  | head s _ ih =>
    obtain ⟨i, h1, hi, _, _, rfl⟩ := s
    exact ih (hc.swap h1 hi)
theorem exP_cases (i x : Nat) : (x = i ∧ exP i x = i - 1) ∨ (x = i - 1 ∧ x ≠ i ∧ exP i x = i) ∨ (x ≠ i ∧ x ≠ i - 1 ∧ exP i x = x) := by
  unfold exP
  by_cases h : x = i
  · exact .inl ⟨h, by simp [h]⟩
  · by_cases h2 : x = i - 1
    · exact .inr (.inl ⟨h2, h, by rw [if_neg h, if_pos h2]⟩)
    · exact .inr (.inr ⟨h, h2, by rw [if_neg h, if_neg h2]⟩)
/-- a pair that has changed places crosses in both -/
def Crossed (a b : Nat → Nat) (n : Nat) (c : Nat → Nat) : Prop := ∀ p q, p < q → q < n → c q < c p → Both a b (c q) (c p)
theorem crossed_id (a b n) : Crossed a b n (idK n) := by
  intro p q h hq hc
  have : p < n := by omega
  simp [idK, hq, this] at hc
  omega
theorem crossed_step {a b n} {c d : Nat → Nat} (h : Step (Both a b) n c d) (hc : Crossed a b n c) : Crossed a b n d := by
  obtain ⟨i, h1, hi, l, C, rfl⟩ := h
  intro p q hpq hq hlt
  rw [swapK_exP, swapK_exP] at *
  by_cases e : p = i - 1 ∧ q = i
  · have e1 : exP i p = i := by rw [e.1]; unfold exP; have : i - 1 ≠ i := by omega
                                simp [this]
    have e2 : exP i q = i - 1 := by rw [e.2]; simp [exP]
    rw [e1, e2] at *
    exact C
  · have h3 : exP i p < exP i q := by
      rcases exP_cases i p with ⟨a1, a2⟩ | ⟨a1, a2, a3⟩ | ⟨a1, a2, a3⟩ <;> rcases exP_cases i q with ⟨b1, b2⟩ | ⟨b1, b2, b3⟩ | ⟨b1, b2, b3⟩ <;> omega
    exact hc _ _ h3 (exP_lt h1 hi hq) hlt
theorem crossed_star {a b n} {c d : Nat → Nat} (h : Star (Step (Both a b) n) c d) (hc : Crossed a b n c) : Crossed a b n d := by
  induction h with
  | refl => exact hc
  | head s _ ih => exact ih (crossed_step s hc)
/-- where both descend, the pair has not changed places yet -/
theorem asc_of {a b n} {c : Nat → Nat} (hc : Crossed a b n c) (hp : Perm n c) {i : Nat} (h1 : 1 ≤ i) (hi : i < n) (ha : a (c i) < a (c (i - 1))) : c (i - 1) < c i := by
  rcases Nat.lt_trichotomy (c (i - 1)) (c i) with h | h | h
  · exact h
  · rw [h] at ha; omega
  · have := (hc (i - 1) i (by omega) hi h).1
    omega
/-- the pairs that cross in both, as bits -/
theorem both_bit {a b : Nat → Nat} {n x y : Nat} (h2 : n ≤ 8) (hxy : x < y) (hy : y < n) : (desK a n &&& desK b n) / 2 ^ (8 * x + y) % 2 = 1 ↔ Both a b x y := by
  have e1 : (8 * x + y) / 8 = x := by omega
  have e2 : (8 * x + y) % 8 = y := by omega
  have h : ((desK a n &&& desK b n) / 2 ^ (8 * x + y) % 2 = 1) ↔ (desK a n &&& desK b n).testBit (8 * x + y) = true := by
    rw [Nat.testBit_eq_decide_div_mod_eq, decide_eq_true_eq]
  rw [h, Nat.testBit_and, desK_bit n h2, desK_bit n h2, e1, e2]
  simp only [Bool.and_eq_true, decide_eq_true_eq]
  unfold Both
  omega
theorem both_bitAt {a b : Nat → Nat} {n x y : Nat} (h2 : n ≤ 8) (hxy : x < y) (hy : y < n) : bitAt (desK a n &&& desK b n) (8 * x + y) = 1 ↔ Both a b x y := both_bit h2 hxy hy
def boolOf : Value → Bool | .bool b => b | _ => false
/-- no neighbours ahead of i may change places -/
def Done (a b : Nat → Nat) (c : Nat → Nat) (i : Nat) : Prop := ∀ i', 1 ≤ i' → i' < i → ¬ (c (i' - 1) < c i' ∧ Both a b (c (i' - 1)) (c i'))
theorem done_one (a b c) : Done a b c 1 := fun i' h1 h2 => by omega
theorem done_step {a b c i} (h : Done a b c i) (hn : ¬ (c (i - 1) < c i ∧ Both a b (c (i - 1)) (c i))) : Done a b c (i + 1) := by
  intro i' h1 h2
  by_cases e : i' = i
  · rw [e]; exact hn
  · exact h i' h1 (by omega)
/-- the two braids read along c -/
def Along (n : Nat) (a c a' : Nat → Nat) : Prop := ∀ x, x < n → a' x = a (c x)
theorem along_id (n : Nat) (a : Nat → Nat) : Along n a (idK n) a := fun x hx => by simp [idK, hx]
theorem along_swap {n i : Nat} {a c a' : Nat → Nat} (h : Along n a c a') (h1 : 1 ≤ i) (hi : i < n) : Along n a (swapK c i) (thenK (exK n i) a' n) := by
  intro x hx
  rw [then_ex h1 hi hx, swapK_exP, swapK_exP, h _ (exP_lt h1 hi hx)]
def DoneS (a b : Nat → Nat) (c : Nat → Nat) (i : Nat) : Prop := ∀ i', 1 ≤ i' → i' < i → ¬ Both a b (c (i' - 1)) (c i')
theorem doneS_one (a b c) : DoneS a b c 1 := fun i' h1 h2 => by omega
theorem doneS_step {a b c i} (h : DoneS a b c i) (hn : ¬ Both a b (c (i - 1)) (c i)) : DoneS a b c (i + 1) := by
  intro i' h1 h2
  by_cases e : i' = i
  · rw [e]; exact hn
  · exact h i' h1 (by omega)
theorem doneS_done {a b c i} (h : DoneS a b c i) : Done a b c i := fun i' h1 h2 h3 => h i' h1 h2 h3.2
theorem along_both {n : Nat} {a b c a' b' : Nat → Nat} (ha : Along n a c a') (hb : Along n b c b') {x y : Nat} (hx : x < n) (hy : y < n) : Both a b (c x) (c y) ↔ (a' y < a' x ∧ b' y < b' x) := by
  unfold Both
  rw [ha x hx, ha y hy, hb x hx, hb y hy]
theorem step_of {a b c : Nat → Nat} {n i : Nat} (hs : Star (Step (Both a b) n) (idK n) c) (h1 : 1 ≤ i) (hi : i < n) (hB : Both a b (c (i - 1)) (c i)) : Star (Step (Both a b) n) (idK n) (swapK c i) :=
  hs.tail ⟨i, h1, hi, asc_of (crossed_star hs (crossed_id a b n)) (star_perm hs (perm_id n)) h1 hi hB.1, hB, rfl⟩
/-- the meet -/
noncomputable def meetK (a b : Nat → Nat) (n : Nat) : Nat → Nat := open Classical in if h : ∃ c, Meets a b n c then backK h.choose n else zeroN
theorem meetK_eq {a b n c} (h : Meets a b n c) : meetK a b n = backK c n := by
  have hx : ∃ c, Meets a b n c := ⟨c, h⟩
  unfold meetK
  rw [dif_pos hx, meets_same hx.choose_spec h]
end Go.Proofs.Ytikakoclmmmjdaa
namespace Go.Proofs.Ytikakoclmmmjdaa
set_option linter.unusedVariables false
set_option linter.unusedSimpArgs false

/-- the neighbours that the first k letters exchange, one after the other -/
def seqK (n : Nat) (xs : List Int) : Nat → Nat → Nat
  | 0 => idK n
  | k + 1 => swapK (seqK n xs k) (nth xs k).toNat
/-- the letters ahead of k are letters of n strands -/
def LetK (n : Nat) (xs : List Int) (k : Nat) : Prop := ∀ j, j < k → 1 ≤ nth xs j ∧ nth xs j ≤ (n : Int) - 1
theorem letK_zero (n xs) : LetK n xs 0 := fun j h => by omega
theorem letK_succ {n xs k} (h : LetK n xs k) (hk : 1 ≤ nth xs k ∧ nth xs k ≤ (n : Int) - 1) : LetK n xs (k + 1) := by
  intro j hj
  by_cases e : j = k
  · rw [e]; exact hk
  · exact h j (by omega)
theorem LetK.le {n xs k j} (h : LetK n xs k) (hj : j ≤ k) : LetK n xs j := fun i hi => h i (by omega)
theorem seq_perm {n xs} : ∀ k, LetK n xs k → Perm n (seqK n xs k)
  | 0, _ => perm_id n
  | k + 1, h => by
    have := h k (by omega)
    exact (seq_perm k (h.le (by omega))).swap (by omega) (by omega)
open Classical in
/-- what SimpleOfWord answers -/
noncomputable def sowF (n : Int) (xs : List Int) : Nat → Nat := if inB n 1 8 = true ∧ LetK n.toNat xs xs.length ∧ lenK (backK (seqK n.toNat xs xs.length) n.toNat) n.toNat = xs.length then backK (seqK n.toNat xs xs.length) n.toNat else zeroN
open Classical in
noncomputable def sowC (n : Int) (xs : List Int) : Int := if inB n 1 8 = true ∧ LetK n.toNat xs xs.length then (if lenK (backK (seqK n.toNat xs xs.length) n.toNat) n.toNat = xs.length then 0 else 5) else 2
noncomputable def sowR (n : Int) (xs : List Int) : Value := .tuple #[.agg (arrF .u8 8 (up (sowF n xs))), .int .i64 (sowC n xs)]
theorem sow_out {n : Int} {xs} (h : inB n 1 8 = false) : sowR n xs = .tuple #[.agg (arrF .u8 8 (up zeroN)), .int .i64 2] := by simp [sowR, sowF, sowC, h]
theorem sow_bad {n : Nat} {xs : List Int} {k : Nat} (hk : k < xs.length) (h : ¬ (1 ≤ nth xs k ∧ nth xs k ≤ (n : Int) - 1)) : sowR n xs = .tuple #[.agg (arrF .u8 8 (up zeroN)), .int .i64 2] := by
  have : ¬ LetK n xs xs.length := fun hl => h (hl k hk)
  simp [sowR, sowF, sowC, this]
theorem sow_long {n : Nat} {xs : List Int} (hb : inB (n : Int) 1 8 = true) (hl : LetK n xs xs.length) (h : ¬ lenK (backK (seqK n xs xs.length) n) n = xs.length) : sowR n xs = .tuple #[.agg (arrF .u8 8 (up zeroN)), .int .i64 5] := by
  simp [sowR, sowF, sowC, hb, hl, h]
theorem sow_good {n : Nat} {xs : List Int} (hb : inB (n : Int) 1 8 = true) (hl : LetK n xs xs.length) (h : lenK (backK (seqK n xs xs.length) n) n = xs.length) : sowR n xs = .tuple #[.agg (arrF .u8 8 (up (backK (seqK n xs xs.length) n))), .int .i64 0] := by
  simp [sowR, sowF, sowC, hb, hl, h]
end Go.Proofs.Ytikakoclmmmjdaa
namespace Go.Proofs.Ytikakoclmmmjdaa
open Go.RowKit
set_option linter.unusedSimpArgs false
set_option linter.unusedVariables false
/-- the letters' sizes -/
def absL (xs : List Int) : List Int := xs.map fun x => (x.natAbs : Int)
theorem absL_length (xs : List Int) : (absL xs).length = xs.length := by simp [absL]
theorem nth_absL {xs : List Int} {k : Nat} (h : k < xs.length) : nth (absL xs) k = ((nth xs k).natAbs : Int) := by simp [nth, absL, h]
theorem okW_let {n : Int} {xs : List Int} (h : okW n xs = true) : LetK n.toNat (absL xs) xs.length := by
  obtain ⟨m, rfl, h1, h8, _, h2⟩ := okW_true h
  intro j hj
  rw [nth_absL hj]
  have := h2 j hj
  simp only [isL, decide_eq_true_eq] at this
  omega
/-- a letter: its size, and its sign -/
theorem letter_cases {m : Nat} {xs : List Int} {k : Nat} (hl : LetK m (absL xs) xs.length) (hk : k < xs.length) : ∃ p : Nat, p + 1 < m ∧ (nth xs k = (p : Int) + 1 ∨ nth xs k = -((p : Int) + 1)) ∧ ∀ j, seqK m (absL xs) (k + 1) j = swapK (seqK m (absL xs) k) (p + 1) j := by
  have h := hl k hk
  rw [nth_absL hk] at h
  refine ⟨(nth xs k).natAbs - 1, by omega, by omega, fun j => ?_⟩
  show swapK (seqK m (absL xs) k) (nth (absL xs) k).toNat j = _
  rw [nth_absL hk]
  congr 1
  omega
theorem swap_steps (c : Nat → Nat) (p : Nat) : updN (updN c (p + 1) (c p)) p (c (p + 1)) = swapK c (p + 1) := by
  funext j
  simp only [swapK_at, updN, Nat.add_sub_cancel]
  by_cases h1 : j = p
  · subst h1
    have : ¬ j = j + 1 := by omega
    simp [this]
  · simp [h1]
end Go.Proofs.Ytikakoclmmmjdaa
namespace Go.Proofs.Ytikakoclmmmjdaa
open Go.RowKit
set_option linter.unusedSimpArgs false
set_option linter.unusedVariables false
end Go.Proofs.Ytikakoclmmmjdaa
namespace Go.Proofs.Ytikakoclmmmjdaa
open Go.RowKit
set_option linter.unusedSimpArgs false
set_option linter.unusedVariables false
/-- the numbers of a function's first m values -/
def lstOf (m : Nat) (s : Nat → Nat) : List Int := (List.range m).map fun i => (s i : Int)
theorem lstOf_length (m s) : (lstOf m s).length = m := by simp [lstOf]
theorem nth_lstOf {m s i} (h : i < m) : nth (lstOf m s) i = (s i : Int) := by simp [nth, lstOf, h]
theorem lstOf_succ (s : Nat → Nat) (k : Nat) : lstOf k s ++ [(s k : Int)] = lstOf (k + 1) s := by simp [lstOf, List.range_succ]
theorem lstOf_ext {m : Nat} {s t : Nat → Nat} (h : ∀ i, i < m → s i = t i) : lstOf m s = lstOf m t :=
  ext_nth (by simp [lstOf]) fun i hi => by rw [lstOf_length] at hi; rw [nth_lstOf hi, nth_lstOf hi, h i hi]
theorem lstOf_set {m : Nat} (s : Nat → Nat) (i v : Nat) : (lstOf m s).set i (v : Int) = lstOf m (updN s i v) := by
  refine ext_nth (by simp [lstOf]) fun j hj => ?_
  rw [List.length_set, lstOf_length] at hj
  rw [nth_lstOf hj]
  unfold nth
  by_cases e : i = j
  · subst e; simp [lstOf_length, hj, updN]
  · rw [List.getD_eq_getElem?_getD, List.getElem?_set_ne e, ← List.getD_eq_getElem?_getD]
    have := nth_lstOf (s := s) hj
    unfold nth at this
    rw [this]
    have : ¬ j = i := fun h => e h.symm
    simp [updN, this]
theorem swap_steps2 (c : Nat → Nat) (p : Nat) : updN (updN c p (c (p + 1))) (p + 1) (c p) = swapK c (p + 1) := by
  funext j
  simp only [swapK_at, updN, Nat.add_sub_cancel]
theorem own_cells {e : TypeId} {w : World} {B g n c : Nat} {xs : List Int} (h : own e w B (.slice (some ⟨g, 0, none⟩) n c) xs) {i : Nat} (hi : i < xs.length) : ∀ d', (w.drewN d').cell? ⟨g, i, none⟩ = some (.int .i64 (nth xs i)) := fun _ => h.cell hi
theorem own_heap {e : TypeId} {w w' : World} {B : Nat} {v : Value} {xs : List Int} (hh : w.heap = w'.heap) (h : own e w B v xs) : own e w' B v xs := by
  obtain ⟨h1, h2⟩ := h
  refine ⟨h1, ?_⟩
  rcases h2 with h2 | ⟨g, cap, cur, hv, hg, hw, r⟩
  · exact .inl h2
  · exact .inr ⟨g, cap, cur, hv, hg, by rw [← hh]; exact hw, r⟩
theorem below_two {B : Nat} {w : World} {n g i j : Nat} {a b : Value} (hB : B ≤ g) (hs : B ≤ w.heap.size) : Below B w (((w.drewN n).setCell ⟨g, i, none⟩ a).setCell ⟨g, j, none⟩ b) :=
  ⟨rfl, rfl, rfl, by simp, fun k hk => by
    rw [heap_setCell_other _ _ k b (by show k ≠ g; omega), heap_setCell_other _ _ k a (by show k ≠ g; omega)]; rfl⟩
theorem own.drewN {e : TypeId} {w : World} {B : Nat} {v : Value} {xs : List Int} (h : own e w B v xs) (n : Nat) : own e (w.drewN n) B v xs := h
theorem size_any (x : Int) (w : World) (h1 : -1000 ≤ x) (h2 : x ≤ 1000) : Calls Try.prog 51 #[.int .i64 x] w fun e w' => e = .returned (.int .i64 (x.natAbs : Int)) ∧ w = w' := by
  by_cases h : x < -x
  · have e := Lib.hid (show (x.natAbs : Int) = -x by omega)
    go_enter Try.func51, Try.ntmps51
    go_wp2
    go_ret
    exact ⟨by rw [e.out]; rfl, rfl⟩
  · have e := Lib.hid (show (x.natAbs : Int) = x by omega)
    have h' : -x ≤ x := by omega
    go_enter Try.func51, Try.ntmps51
    go_wp2
    go_ret
    exact ⟨by rw [e.out]; rfl, rfl⟩
end Go.Proofs.Ytikakoclmmmjdaa
namespace Go.Proofs.Ytikakoclmmmjdaa
open Go.RowKit
set_option linter.unusedSimpArgs false
set_option linter.unusedVariables false
theorem infoS : (Try.prog.info? 22).map (fun i => (i.zero, i.size, i.bytes)) = some (some (.slice none 0 0), 1, 24) := by kernel_rfl
theorem tab_far {E e : TypeId} {w w0 : World} {B b n c : Nat} {v : Value} {M : List (List Int)} (h : tab E e w0 B v M) (hb : w0.heap.size ≤ b) (hm : ∀ vs : List Value, w.ownsRow B E 1 v M.length vs → w0.ownsRow B E 1 v M.length vs) : ∀ k, (Value.slice (some ⟨b, 0, none⟩) n c).ownBlock = some k → ∀ vs : List Value, w.ownsRow B E 1 v M.length vs → ∀ i, i < M.length → (slot vs i).ownBlock ≠ some k := by
  intro k hk vs hvs i hi he
  have := h.rows_lt (hm vs hvs) i hi k he
  have e : b = k := by simpa [Value.ownBlock] using hk
  omega
theorem row_back {E : TypeId} {w w0 : World} {B n : Nat} {v : Value} {vs : List Value} (hb : Below w0.heap.size w0 w) (hl : ∀ k, v.ownBlock = some k → k < w0.heap.size) (h : w.ownsRow B E 1 v n vs) : w0.ownsRow B E 1 v n vs := by
  obtain ⟨h1, h2⟩ := h
  refine ⟨h1, ?_⟩
  rcases h2 with h2 | ⟨g, cap, cur, hv, hg, hh, r⟩
  · exact .inl h2
  · refine .inr ⟨g, cap, cur, hv, hg, ?_, r⟩
    rw [← hb.block g (hl g (by rw [hv]; rfl))]; exact hh
theorem tab.lt {E e : TypeId} {w : World} {B : Nat} {v : Value} {M : List (List Int)} (h : tab E e w B v M) : ∀ k, v.ownBlock = some k → B ≤ k ∧ k < w.heap.size := by
  obtain ⟨vs, h1, h2, h3, h4⟩ := h
  exact h2.lt
/-- what a function answers that hands a table back in memory of its own -/
def RetTab (E e : TypeId) (w : World) (M : List (List Int)) : Ending → World → Prop := fun en w' => ∃ v, en = .returned v ∧ Below w.heap.size w w' ∧ tab E e w' w.heap.size v M
def RetTab2 (E e : TypeId) (w : World) (M : List (List Int)) (c : Int) : Ending → World → Prop := fun en w' => ∃ v, en = .returned (.tuple #[v, .int .i64 c]) ∧ Below w.heap.size w w' ∧ tab E e w' w.heap.size v M
end Go.Proofs.Ytikakoclmmmjdaa
