/- Letters turned, one by one, by the reference. Conditions: as each theorem says. -/
import Derived.Test.YtdbdfaljfidcaaaU4
namespace Go.Proofs.Ytdbdfaljfidcaaa
open Go.RowKit
set_option linter.unusedSimpArgs false
set_option linter.unusedVariables false
/-- a braid in a box: a block of two cells -/
def boxed (w : World) (b : Nat) (T : TypeId) (n : Int) (v : Value) : Prop := w.heap[b]? = some (.cells #[.int .i64 n, v] T)
theorem heap_lt {w : World} {b : Nat} {o : Obj} (h : w.heap[b]? = some o) : b < w.heap.size := by
  rcases Nat.lt_or_ge b w.heap.size with h' | h'
  · exact h'
  · rw [Array.getElem?_eq_none h'] at h; cases h
theorem boxed.lt {w b T n v} (h : boxed w b T n v) : b < w.heap.size := heap_lt h
theorem boxed.c0 {w b T n v} (h : boxed w b T n v) : w.cell? ⟨b, 0, none⟩ = some (.int .i64 n) := by
  unfold boxed at h; simp [World.cell?, h]
theorem boxed.c1 {w b T n v} (h : boxed w b T n v) : w.cell? ⟨b, 1, none⟩ = some v := by
  unfold boxed at h; simp [World.cell?, h]
theorem boxed.kept {w w' b T n v} (h : boxed w b T n v) (hb : Below w.heap.size w w') : boxed w' b T n v := by
  unfold boxed; rw [hb.block b h.lt]; exact h
theorem boxed.grown {w w' b T n v} {row : Option Nat} (h : boxed w b T n v) (hg : w.grownBy w' row) (hne : row ≠ some b) : boxed w' b T n v := by
  unfold boxed; rw [hg.block b h.lt (fun e => hne e.symm)]; exact h
theorem below_of_alloc {w w' : World} {o : Obj} (h : Below (w.alloc o).heap.size (w.alloc o) w') : Below w.heap.size w w' :=
  ((Below.refl _ _).alloc (Nat.le_refl _) o).trans (h.mono (by rw [World.size_alloc]; omega))
theorem ne_row {o : Option Nat} {b : Nat} (h : ∀ k, o = some k → k ≠ b) : o ≠ some b := fun e => h b e rfl
theorem own_far {e : TypeId} {X Y : World} {B B' : Nat} {J J' : List Obj} {d d' : Nat} {v : Value} {xs : List Int} (h : own e (plus X J d) B v xs) (hs : X.heap.size = Y.heap.size) (hB : X.heap.size ≤ B) (hB' : B' ≤ B) (hp : J <+: J') : own e (plus Y J' d') B' v xs := by
  obtain ⟨K, rfl⟩ := hp
  exact (own_plus (d := d') (own_swap hs hB h)).mono hB'
/-- letters of at most eight strands -/
def Sm (xs : List Int) : Prop := ∀ i, i < xs.length → -7 ≤ nth xs i ∧ nth xs i ≤ 7
theorem okW_sm {n : Int} {xs : List Int} (h : okW n xs = true) : Sm xs := by
  obtain ⟨m, rfl, h1, h8, _, h2⟩ := okW_true h
  intro i hi
  have := h2 i hi
  simp only [isL, decide_eq_true_eq] at this
  omega
theorem okW_n {n : Int} {xs : List Int} (h : okW n xs = true) : 1 ≤ n ∧ n ≤ 8 := by
  obtain ⟨m, rfl, h1, h8, _, h2⟩ := okW_true h
  omega
theorem nth_mem {xs : List Int} {i : Nat} (h : i < xs.length) : nth xs i ∈ xs := by
  have : nth xs i = xs[i] := by simp [nth, h]
  rw [this]; exact List.getElem_mem h
theorem mem_nth {xs : List Int} {x : Int} (h : x ∈ xs) : ∃ i, i < xs.length ∧ nth xs i = x := by
  obtain ⟨i, hi, e⟩ := List.mem_iff_getElem.1 h
  exact ⟨i, hi, by rw [← e]; simp [nth, hi]⟩
theorem Sm_iff {xs : List Int} : Sm xs ↔ ∀ x ∈ xs, -7 ≤ x ∧ x ≤ 7 :=
  ⟨fun h x hx => by obtain ⟨i, hi, rfl⟩ := mem_nth hx; exact h i hi, fun h i hi => h _ (nth_mem hi)⟩
theorem Sm.reverse {xs : List Int} (h : Sm xs) : Sm xs.reverse := Sm_iff.2 fun x hx => Sm_iff.1 h x (List.mem_reverse.1 hx)
theorem take_map_step {xs : List Int} {k : Nat} (g : Int → Int) (h : k < xs.length) : (xs.take k).map g ++ [g (nth xs k)] = (xs.take (k + 1)).map g := by
  have e : nth xs k = xs[k] := by simp [nth, h]
  rw [List.take_succ_eq_append_getElem h, List.map_append, e]; rfl
theorem drop_map_step {xs : List Int} {m : Nat} (g : Int → Int) (h : m < xs.length) : ((xs.drop (m + 1)).reverse).map g ++ [g (nth xs m)] = ((xs.drop m).reverse).map g := by
  have e : nth xs m = xs[m] := by simp [nth, h]
  rw [List.drop_eq_getElem_cons h, List.reverse_cons, List.map_append, e]; rfl
/-- what the letters are turned into -/
def negL (x : Int) : Int := -x
def turnL (n x : Int) : Int := if 0 < x then n - x else -n - x
def shiftL (k x : Int) : Int := if 0 < x then x + k else x - k
theorem turnL_pos {n x : Int} (h : 0 < x) : turnL n x = n - x := if_pos h
theorem turnL_neg {n x : Int} (h : ¬ 0 < x) : turnL n x = -n - x := if_neg h
theorem shiftL_pos {n x : Int} (h : 0 < x) : shiftL n x = x + n := if_pos h
theorem shiftL_neg {n x : Int} (h : ¬ 0 < x) : shiftL n x = x - n := if_neg h
set_option maxHeartbeats 400000 in
theorem l01Inverse_any (v : Value) (xs : List Int) (w : World) (h : reads w v xs) (hlen : xs.length ≤ 200) (hsm : Sm xs) : Calls Try.prog 27 #[v] w (RetInts 2 w (xs.reverse.map (negL))) := by
  obtain ⟨a, c, rfl, h⟩ := h
  have Hr := Lib.hid (show 0 < xs.length → ∃ b o, a = some ⟨b, o, none⟩ ∧ b < w.heap.size ∧ ∀ i, i < xs.length → w.cell? ⟨b, o + i, none⟩ = some (.int .i64 (nth xs i)) from fun hp => by
    rcases h with h | ⟨b, o, rfl, m⟩
    · rw [h] at hp; cases hp
    · exact ⟨b, o, rfl, World.block_lt_of_cell? w _ (m 0 hp), m⟩)
  clear h
  have Hsm := Lib.hid hsm
  clear hsm
  go_enter Try.func27, Try.ntmps27
  go_wp2
  go_loopw [3, 4] (fun vo sl wr => ∃ (v0 : Value) (l : List Int) (i : Nat) (j : List Obj) (d : Nat), v0 = vo ∧ Hid (l = ((xs.drop i).reverse).map (negL)) ∧ i ≤ xs.length ∧ sl = .int .i64 ((i : Int) - 1) ∧ wr = plus w j d ∧ own 2 (plus w j d) w.heap.size v0 l) (fun _ sl _ => (intOf sl + 1).toNat)
  case atStart => exact ⟨_, [], xs.length, [.cells #[] 2], w.drawn, rfl, Lib.hid (by rw [List.drop_length]; rfl), by omega, by go_num, rfl, own_made (Nat.le_refl _) (by decide) rfl⟩
  case round =>
    obtain ⟨v, l, i, j, d, rfl, HLl, hk, rfl, rfl, hown⟩ := hrel
    by_cases hlt : 0 < i
    · obtain ⟨m, rfl⟩ : ∃ m, i = m + 1 := ⟨i - 1, by omega⟩
      obtain ⟨b, o, rfl, hbk, mm⟩ := Hr.out (by omega)
      have hmx : m < xs.length := by omega
      have g1 := mm m hmx
      have hs7 := Hsm.out m hmx
      have hll : l.length < 1000000000 := by have := congrArg List.length HLl.out; simp at this; omega
      have HB := Lib.hid (show l ++ [-nth xs m] = ((xs.drop m).reverse).map (negL) by rw [HLl.out, ← drop_map_step _ hmx]; rfl)
      clear mm Hr
      go_wp2_with (first | (at_builtin; go_loud (refine wpList_append1p rfl _ _ 22 rfl Try.underlying22 infoI _ rfl _ rfl ?_ hown ?_ ?_; ((try simp only [plus_size, World.size_alloc, World.size_drew, World.size_setCell, size_setRow, World.heap_drewN, List.length_append]) <;> omega); (omega); intro v' j' d' hown'; clear hown)))
      go_roundw
      case rel => exact ⟨_, _, m, _, _, rfl, HB, by omega, by go_num, rfl, hown'⟩
      case measure => simp [intOf]
    · obtain rfl : i = 0 := by omega
      have HE := Lib.hid (show l = xs.reverse.map (negL) by rw [HLl.out]; simp)
      go_wp2
      go_ret
      exact ⟨_, rfl, by (repeat (first | (with_reducible exact Below.refl _ _) | (with_reducible assumption) | (with_reducible refine below_plus' ?_ ?_; ((try simp only [plus_size, World.size_alloc, World.size_drew, World.size_setCell, size_setRow, World.heap_drewN, List.length_append]) <;> omega)) | (with_reducible refine below_alloc' ?_ ?_; ((try simp only [plus_size, World.size_alloc, World.size_drew, World.size_setCell, size_setRow, World.heap_drewN, List.length_append]) <;> omega)) | with_reducible refine Below.drew ?_ | (with_reducible refine below_drewN' ?_ _) | exact Below.refl _ _)), by rw [← HE.out]; exact hown⟩
end Go.Proofs.Ytdbdfaljfidcaaa
