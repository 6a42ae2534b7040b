/- A source of numbers. Conditions: as each theorem says. -/
import Derived.Test.YtblpbkfenmkhbaaGreatDoorProg
import Derived.KernelRfl
import Derived.Test.YtblpbkfenmkhbaaGreatDoorMa
import Derived.BigQuiet
import Derived.BigRegion
namespace Go.Proofs.YtblpbkfenmkhbaaGreatDoor
open Go.RowKit
set_option linter.unusedSimpArgs false
set_option linter.unusedVariables false
/-- the letters of a code can be read -/
def readsC (w : World) (v : Value) (m : Nat) : Prop :=
  ∃ a cap, v = .slice a m cap ∧ (m = 0 ∨ ∃ b o, a = some ⟨b, o, none⟩ ∧ ∀ i, i < m → ∃ x : Nat, x < 256 ∧ w.cell? ⟨b, o + i, none⟩ = some (.int .u8 x))
theorem readsC.kept {w w' : World} {v : Value} {m : Nat} (h : readsC w v m) (hb : Below w.heap.size w w') : readsC w' v m := by
  obtain ⟨a, cap, hv, h⟩ := h
  refine ⟨a, cap, hv, ?_⟩
  rcases h with h | ⟨b, o, ha, hc⟩
  · exact .inl h
  · refine .inr ⟨b, o, ha, fun i hi => ?_⟩
    obtain ⟨x, hx, h1⟩ := hc i hi
    exact ⟨x, hx, by rw [hb.cell (p := ⟨b, o + i, none⟩) (World.block_lt_of_cell? w _ h1)]; exact h1⟩
/-- the block g, made behind W, is a source over the code vc of m letters -/
structure Src (W w : World) (g : Nat) (vc : Value) (m : Nat) : Prop where
  lo : W.heap.size ≤ g
  bel : Below W.heap.size W w
  box : ∃ i h : Nat, i ≤ m ∧ h < 18446744073709551616 ∧ w.heap[g]? = some (.cells #[vc, .int .i64 i, .int .u64 h] 77)
theorem Src.lt {W w : World} {g : Nat} {vc : Value} {m : Nat} (h : Src W w g vc m) : g < w.heap.size := by
  obtain ⟨i, h, _, _, hb⟩ := h.box
  rcases Nat.lt_or_ge g w.heap.size with h' | h'
  · exact h'
  · rw [Array.getElem?_eq_none h'] at hb; cases hb
theorem Src.kept {W w w' : World} {g : Nat} {vc : Value} {m : Nat} (h : Src W w g vc m) (hb : Below w.heap.size w w') : Src W w' g vc m := by
  refine ⟨h.lo, h.bel.trans (hb.mono h.bel.size), ?_⟩
  obtain ⟨i, x, h1, h2, h3⟩ := h.box
  exact ⟨i, x, h1, h2, (hb.block g h.lt).trans h3⟩
/-- another block turns -/
theorem Src.apart {W w w' : World} {g : Nat} {vc : Value} {m : Nat} {row : Option Nat} (h : Src W w g vc m) (hg : w.grownBy w' row) (hne : row ≠ some g) (hr : ∀ k, row = some k → W.heap.size ≤ k) : Src W w' g vc m := by
  refine ⟨h.lo, h.bel.trans (below_of_grown hg h.bel.size hr), ?_⟩
  obtain ⟨i, x, h1, h2, h3⟩ := h.box
  exact ⟨i, x, h1, h2, (hg.block g h.lt (fun e => hne e.symm)).trans h3⟩
theorem grownBy_drewN {w w' : World} {row : Option Nat} (h : w.grownBy w' row) (n : Nat) : w.grownBy (w'.drewN n) row := ⟨h.os, h.tape, h.output, h.size, h.block⟩
theorem src_of {W w w' : World} {g : Nat} {vc : Value} {m : Nat} (hS : Src W w g vc m) (hg : w.grownBy w' (some g)) (hb : ∃ i h : Nat, i ≤ m ∧ h < 18446744073709551616 ∧ w'.heap[g]? = some (.cells #[vc, .int .i64 i, .int .u64 h] 77)) : Src W w' g vc m :=
  ⟨hS.lo, hS.bel.trans (below_of_grown hg hS.bel.size (fun k e => by cases e; exact hS.lo)), hb⟩
theorem grown_below {w w' w'' : World} {row : Option Nat} (h : w.grownBy w' row) (hb : Below w'.heap.size w' w'') : w.grownBy w'' row :=
  ⟨hb.os.trans h.os, hb.tape.trans h.tape, hb.output.trans h.output, Nat.le_trans h.size hb.size, fun k hk hne => (hb.block k (Nat.lt_of_lt_of_le hk h.size)).trans (h.block k hk hne)⟩
theorem grown_setRow {w w' : World} {row : Option Nat} {b : Nat} {c : Array Value} (h : w.grownBy w' row) (hb : w.heap.size ≤ b) : w.grownBy (w'.setRow b c) row :=
  ⟨h.os, h.tape, h.output, by simpa using h.size, fun k hk hne => (setRow_other w' b k c (by omega)).trans (h.block k hk hne)⟩
theorem src_setRow {W w : World} {g m b : Nat} {vc : Value} {c : Array Value} (h : Src W w g vc m) (hb : g ≠ b) (hlo : W.heap.size ≤ b) : Src W (w.setRow b c) g vc m := by
  refine ⟨h.lo, h.bel.trans ⟨rfl, rfl, rfl, by simp, fun k hk => setRow_other w b k c (by omega)⟩, ?_⟩
  obtain ⟨i, x, h1, h2, h3⟩ := h.box
  exact ⟨i, x, h1, h2, (setRow_other w b g c hb).trans h3⟩
/-- 24 bits from the 33rd on -/
def mid24 (m : Nat) : Nat := m / 8589934592 % 16777216
theorem mid24_lt (m) : mid24 m < 16777216 := Nat.mod_lt _ (by decide)
theorem and24 (m : Nat) (h : m < 18446744073709551616) : bits .and .u64 ((m : Int) / 8589934592) 16777215 = ((mid24 m : Nat) : Int) := by
  have e1 : (m : Int) / 8589934592 = ((m / 8589934592 : Nat) : Int) := by omega
  have h1 : m / 8589934592 < 18446744073709551616 := Nat.lt_of_le_of_lt (Nat.div_le_self _ _) h
  have := and64 (a := m / 8589934592) (b := 16777215) h1 (by decide)
  rw [e1]
  rw [show (16777215 : Nat) = 2 ^ 24 - 1 by decide, Nat.and_two_pow_sub_one_eq_mod] at this
  exact this
theorem u64_nat (x : Int) : ∃ h : Nat, h < 18446744073709551616 ∧ IntKind.u64.wrap x = (h : Int) := by
  refine ⟨(x % 18446744073709551616).toNat, by omega, ?_⟩
  show x % 2 ^ IntKind.u64.bits = _
  have : (2 : Int) ^ IntKind.u64.bits = 18446744073709551616 := by decide
  rw [this]
  omega
set_option maxHeartbeats 400000 in
theorem next_any (W w : World) (g : Nat) (vc : Value) (m : Nat) (n : Int) (hC : readsC W vc m) (hm : m ≤ 1000000000) (hS : Src W w g vc m) (hn : n ≤ 1000000000000000000) : Calls Tryz.prog 32 #[.pointer (some ⟨g, 0, none⟩), .int .i64 n] w fun e w' => ∃ r : Int, e = .returned (.int .i64 r) ∧ 0 ≤ r ∧ (1 ≤ n → r < n) ∧ (n < 1 → r = 0) ∧ Src W w' g vc m ∧ w.grownBy w' (some g) := by
  by_cases h1 : n < 1
  · go_enter Tryz.func32, Tryz.ntmps32
    go_wp2
    go_ret
    exact ⟨0, rfl, by omega, by omega, fun _ => rfl, hS, World.grownBy.refl _ _⟩
  · have hl := hS.lt
    obtain ⟨i, h, hi, hh, hb⟩ := hS.box
    have c0 : w.cell? ⟨g, 0, none⟩ = some vc := cell_of (i := 0) hb
    have c1 : w.cell? ⟨g, 1, none⟩ = some (.int .i64 i) := cell_of (i := 1) hb
    have c2 : w.cell? ⟨g, 2, none⟩ = some (.int .u64 h) := cell_of (i := 2) hb
    have f1 := frozen_of_row w g 1 _ _ hb
    have f2 := frozen_of_row w g 2 _ _ hb
    obtain ⟨a, cap, rfl, hr⟩ := hC
    obtain ⟨h2, hh2, eh⟩ := u64_nat (IntKind.u64.wrap ((h : Int) * 6364136223846793005) + 1442695040888963407)
    obtain ⟨x, hx, ex⟩ : ∃ x : Nat, x < 16777216 ∧ bits .and .u64 ((h2 : Int) / 8589934592) 16777215 = (x : Int) := ⟨mid24 h2, mid24_lt _, and24 h2 hh2⟩
    have hlo := hS.lo
    have hn1 : 1 ≤ n := by omega
    have hn0 : n ≠ 0 := by omega
    by_cases hlt : i < m
    · obtain ⟨b, o, rfl, hr2⟩ := hr.resolve_left (by omega)
      obtain ⟨y, hy, cy⟩ := hr2 i hlt
      have hbl := World.block_lt_of_cell? W _ cy
      have hbl : b < W.heap.size := hbl
      have hbg : b ≠ g := by omega
      have hgb : g ≠ b := by omega
      have cy : w.cell? ⟨b, o + i, none⟩ = some (.int .u8 (y : Int)) := by rw [hS.bel.cell (p := ⟨b, o + i, none⟩) hbl]; exact cy
      have HS := Lib.hid hS
      have HB := Lib.hid hb
      clear hr hr2 hS hb hbl h1
      go_enter Tryz.func32, Tryz.ntmps32
      go_wp2
      go_quiet (fail)
      go_wp2
      go_quiet (fail)
      go_wp2
      go_ret
      have g1 := fun q => grownBy_trans (grownBy_drewN (grownBy_setCell w g 2 (.int .u64 h2)) q) (grownBy_setCell ((w.setCell ⟨g, 2, none⟩ (.int .u64 h2)).drewN q) g 1 (.int .i64 ((i : Int) + 1)))
      have hb1 := heap_setCell_same w g 2 _ _ (.int .u64 h2) HB.out
      have hb2 := fun q => heap_setCell_same ((w.setCell ⟨g, 2, none⟩ (.int .u64 h2)).drewN q) g 1 _ _ (.int .i64 ((i : Int) + 1)) hb1
      exact ⟨_, rfl, Int.emod_nonneg _ hn0, fun _ => Int.emod_lt_of_pos _ (by omega), fun h => by omega, src_of HS.out (g1 _) ⟨i + 1, h2, by omega, hh2, hb2 _⟩, g1 _⟩
    · obtain rfl : i = m := by omega
      have HS := Lib.hid hS
      have HB := Lib.hid hb
      clear hr hS hb h1
      go_enter Tryz.func32, Tryz.ntmps32
      go_wp2
      go_quiet (fail)
      go_wp2
      go_ret
      have g1 := fun q => grownBy_drewN (grownBy_setCell w g 2 (.int .u64 h2)) q
      have hb1 := heap_setCell_same w g 2 _ _ (.int .u64 h2) HB.out
      exact ⟨_, rfl, Int.emod_nonneg _ hn0, fun _ => Int.emod_lt_of_pos _ (by omega), fun h => by omega, src_of HS.out (g1 _) ⟨i, h2, by omega, hh2, hb1⟩, g1 _⟩
theorem nextN (W w : World) (g : Nat) (vc : Value) (m : Nat) (n : Int) (hC : readsC W vc m) (hm : m ≤ 1000000000) (hS : Src W w g vc m) (hn : n ≤ 1000000000000000000) (h1 : 1 ≤ n) : Calls Tryz.prog 32 #[.pointer (some ⟨g, 0, none⟩), .int .i64 n] w fun e w' => ∃ q : Nat, (q : Int) < n ∧ e = .returned (.int .i64 q) ∧ Src W w' g vc m ∧ w.grownBy w' (some g) :=
  (next_any W w g vc m n hC hm hS hn).mono fun e w' ⟨r, h2, h3, h4, _, h5, h6⟩ => ⟨r.toNat, by have := h4 h1; omega, by rw [h2, show ((r.toNat : Nat) : Int) = r by omega], h5, h6⟩
set_option maxHeartbeats 1000000 in
theorem from_any (v : Value) (m : Nat) (w : World) (hC : readsC w v m) (hm : m ≤ 1000000000) : Calls Tryz.prog 29 #[v] w fun e w' => ∃ g, e = .returned (.pointer (some ⟨g, 0, none⟩)) ∧ Src w w' g v m := by
  obtain ⟨a, cap, rfl, hC⟩ := hC
  have HC := Lib.hid hC
  clear hC
  go_enter Tryz.func29, Tryz.ntmps29
  go_wp2
  go_loopw [4] (fun sl wr => ∃ k h : Nat, k ≤ m ∧ sl = .int .i64 k ∧ h < 18446744073709551616 ∧ wr.heap[w.heap.size]? = some (.cells #[.slice a m cap, .int .i64 0, .int .u64 h] 77) ∧ Below w.heap.size w wr) (fun sl _ => m - (intOf sl).toNat)
  case atStart => exact ⟨0, 9049 + m, by omega, rfl, by omega, by rw [show ((9049 + m : Nat) : Int) = 9049 + (m : Int) from by omega]; (repeat (first | (refine heap_at _ _ _ ?_; ((try simp only [plus_size, World.size_alloc, World.size_drew, World.size_setCell, size_setRow, World.heap_drewN, List.length_append]) <;> omega)) | (refine heap_past' ?_ ?_; ((try simp only [plus_size, World.size_alloc, World.size_drew, World.size_setCell, size_setRow, World.heap_drewN, List.length_append]) <;> omega)) | (refine heap_plus' ?_ ?_; ((try simp only [plus_size, World.size_alloc, World.size_drew, World.size_setCell, size_setRow, World.heap_drewN, List.length_append]) <;> omega)) | assumption)), by (repeat (first | (with_reducible exact Below.refl _ _) | (with_reducible assumption) | (with_reducible refine below_plus' ?_ ?_; ((try simp only [plus_size, World.size_alloc, World.size_drew, World.size_setCell, size_setRow, World.heap_drewN, List.length_append]) <;> omega)) | (with_reducible refine below_alloc' ?_ ?_; ((try simp only [plus_size, World.size_alloc, World.size_drew, World.size_setCell, size_setRow, World.heap_drewN, List.length_append]) <;> omega)) | with_reducible refine Below.drew ?_ | (with_reducible refine below_drewN' ?_ _) | exact Below.refl _ _))⟩
  case round =>
    obtain ⟨k, h, hk, rfl, hh, hb, hB⟩ := hrel
    by_cases hlt : k < m ∧ (k : Int) < 4096
    · obtain ⟨hlt, hl2⟩ := hlt
      obtain ⟨b, o, rfl, hr⟩ := HC.out.resolve_left (by omega)
      obtain ⟨y, hy, cy⟩ := hr k hlt
      have hbl : b < w.heap.size := World.block_lt_of_cell? w _ cy
      have cy : wr.cell? ⟨b, o + k, none⟩ = some (.int .u8 (y : Int)) := by rw [hB.cell (p := ⟨b, o + k, none⟩) hbl]; exact cy
      have c2 : wr.cell? ⟨w.heap.size, 2, none⟩ = some (.int .u64 h) := cell_of (i := 2) hb
      have f2 := frozen_of_row wr w.heap.size 2 _ _ hb
      have hl := heap_lt hb
      have hbl2 : b < wr.heap.size := by omega
      obtain ⟨h2, hh2, eh⟩ := u64_nat (IntKind.u64.wrap (IntKind.u64.wrap ((h : Int) * 1099511628211) + (y : Int)) + 29)
      have hb1 := heap_setCell_same wr w.heap.size 2 _ _ (.int .u64 h2) hb
      have HB1 := Lib.hid hb1
      have hbs : Below w.heap.size wr (wr.setCell ⟨w.heap.size, 2, none⟩ (.int .u64 h2)) := below_of_grown (grownBy_setCell wr w.heap.size 2 (.int .u64 h2)) (Nat.le_of_lt hl) (fun k e => by cases e; exact Nat.le_refl _)
      have HB := Lib.hid (hB.trans hbs)
      clear hbs
      clear hr hb hb1 hB
      go_wp2
      refine region_plus_tail 15 (by kernel_rfl) (by kernel_rfl) ?_
      simp only [List.take_succ_cons, List.take_zero, List.drop_succ_cons, List.drop_zero]
      repeat (go_big_quiet_step (first | fail))
      refine wpQuiet_nil ?_
      intro _ hw'
      obtain ⟨q, hw''⟩ := hw'
      subst hw''
      rw [plusq_eq]
      generalize q.j = j
      generalize q.d = d
      clear q
      go_wp2
      go_roundw
      case rel => exact ⟨k + 1, h2, by omega, by go_num, hh2, by first | exact HB1.out | (rw [plus_heap _ _ _ _ (by rw [World.size_setCell]; exact hl)]; exact HB1.out), below_plus' (by rw [World.size_setCell]; omega) HB.out⟩
      case measure => simp [intOf]; omega
    · have HB := Lib.hid hB
      have Hb := Lib.hid hb
      clear hb hB
      by_cases hlt1 : k < m
      · have hl2 : ¬ (k : Int) < 4096 := fun h => hlt ⟨hlt1, h⟩
        clear hlt
        go_wp2
        go_ret
        exact ⟨_, rfl, Nat.le_refl _, HB.out, 0, h, by omega, hh, Hb.out⟩
      · clear hlt
        go_wp2
        go_ret
        exact ⟨_, rfl, Nat.le_refl _, HB.out, 0, h, by omega, hh, Hb.out⟩
set_option maxHeartbeats 400000 in
theorem pick_any (W w : World) (g : Nat) (vc : Value) (m : Nat) (v : Value) (xs : List Int) (hC : readsC W vc m) (hm : m ≤ 1000000000) (hS : Src W w g vc m) (h : reads w v xs) (h0 : 0 < xs.length) (hl : xs.length ≤ 1000000000) (hne : ∀ k, v.ownBlock = some k → k ≠ g) : Calls Tryz.prog 31 #[.pointer (some ⟨g, 0, none⟩), v] w fun e w' => ∃ k : Nat, k < xs.length ∧ e = .returned (.int .i64 (nth xs k)) ∧ Src W w' g vc m ∧ w.grownBy w' (some g) := by
  obtain ⟨a, cap, rfl, h⟩ := h
  have HC := Lib.hid hC
  have HS := Lib.hid hS
  obtain ⟨b, o, rfl, h2⟩ := h.resolve_left (fun e => by rw [e] at h0; cases h0)
  have hbg : b ≠ g := hne b rfl
  have H := Lib.hid (fun (w' : World) (hg : w.grownBy w' (some g)) (i : Nat) (hi : i < xs.length) => (World.cell?_of_block (a := ⟨b, o + i, none⟩) (hg.block b (World.block_lt_of_cell? w _ (h2 i hi)) (fun e => hbg (Option.some.inj e)))).trans (h2 i hi))
  clear hC hS h h2 hne
  go_enter Tryz.func31, Tryz.ntmps31
  go_wp2_with (first | (go_at_call 32; refine Calls.mono (next_any W _ g vc m _ HC.out hm HS.out (by omega)) ?_; rintro e w' ⟨r, rfl, hr0, hr1, _, hS', hg⟩; have hr1 := hr1 (by omega); obtain ⟨q, rfl⟩ : ∃ q : Nat, r = q := ⟨r.toNat, by omega⟩; have cq := H.out w' hg q (by omega)))
  go_ret
  exact ⟨q, by omega, rfl, hS', hg⟩
end Go.Proofs.YtblpbkfenmkhbaaGreatDoor
