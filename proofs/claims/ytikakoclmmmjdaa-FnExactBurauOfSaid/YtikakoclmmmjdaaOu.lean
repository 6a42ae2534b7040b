/- Tables of polynomials compared. Conditions: as each theorem says. -/
import Derived.Test.YtikakoclmmmjdaaOt
import Derived.Test.YtikakoclmmmjdaaOw
namespace Go.Proofs.Ytikakoclmmmjdaa
open Go.RowKit
set_option linter.unusedSimpArgs false
set_option linter.unusedVariables false
open Go.RowKit
set_option maxHeartbeats 1000000 in
theorem eqRow_same (b1 c1 b2 c2 m : Nat) (f : Nat → Pol) (w : World) (hb1 : b1 < w.heap.size) (hb2 : b2 < w.heap.size) (h1 : ∀ j, j < m → ∃ sa sc, w.cell? ⟨b1, j * 2, none⟩ = some (.int .i64 (f j).1) ∧ w.cell? ⟨b1, j * 2 + 1, none⟩ = some (.slice sa (f j).2.length sc) ∧ reads w (.slice sa (f j).2.length sc) (f j).2) (h2 : ∀ j, j < m → ∃ sa sc, w.cell? ⟨b2, j * 2, none⟩ = some (.int .i64 (f j).1) ∧ w.cell? ⟨b2, j * 2 + 1, none⟩ = some (.slice sa (f j).2.length sc) ∧ reads w (.slice sa (f j).2.length sc) (f j).2) (hm : m ≤ 8) (hl : ∀ j, j < m → (f j).2.length ≤ 1000000000) : Calls Try.prog 29 #[.slice (some ⟨b1, 0, none⟩) m c1, .slice (some ⟨b2, 0, none⟩) m c2] w fun e w' => e = .returned (.bool true) ∧ Below w.heap.size w w' := by
  have H1 := Lib.hid h1
  have H2 := Lib.hid h2
  have HL := Lib.hid hl
  clear h1 h2 hl
  go_enter Try.func29, Try.ntmps29
  go_wp2
  go_loopw [5] (fun sl wr => ∃ (k : Nat), k ≤ m ∧ sl = .int .i64 k ∧ Below w.heap.size w wr) (fun sl _ => m - (intOf sl).toNat)
  case atStart => exact ⟨0, by omega, rfl, by (repeat (first | (with_reducible exact Below.refl _ _) | (with_reducible assumption) | (with_reducible refine below_plus' ?_ ?_; ((try simp only [plus_size, World.size_alloc, World.size_drew, World.size_setCell, size_setRow, World.heap_drewN, List.length_append]) <;> omega)) | (with_reducible refine below_alloc' ?_ ?_; ((try simp only [plus_size, World.size_alloc, World.size_drew, World.size_setCell, size_setRow, World.heap_drewN, List.length_append]) <;> omega)) | with_reducible refine Below.drew ?_ | (with_reducible refine below_drewN' ?_ _) | exact Below.refl _ _))⟩
  case round =>
    obtain ⟨k, hk, rfl, hbel⟩ := hrel
    rcases Nat.lt_or_ge k m with hlt | hge
    · obtain ⟨sa1, sc1, p1, q1, r1⟩ := H1.out k hlt
      obtain ⟨sa2, sc2, p2, q2, r2⟩ := H2.out k hlt
      have hlt1 : (k : Int) < (m : Int) := by omega
      have hz := hbel.size
      have k1 : b1 < wr.heap.size := by omega
      have k2 : b2 < wr.heap.size := by omega
      replace p1 := (hbel.cell (p := ⟨b1, k * 2, none⟩) hb1).trans p1
      replace q1 := (hbel.cell (p := ⟨b1, k * 2 + 1, none⟩) hb1).trans q1
      replace p2 := (hbel.cell (p := ⟨b2, k * 2, none⟩) hb2).trans p2
      replace q2 := (hbel.cell (p := ⟨b2, k * 2 + 1, none⟩) hb2).trans q2
      replace r1 := r1.kept hbel
      replace r2 := r2.kept hbel
      have hl := HL.out k hlt
      have HEQ := Lib.hid (fun w' (hb : Below wr.heap.size wr w') => eqLaurent_same (f k).1 (.slice sa1 (f k).2.length sc1) (.slice sa2 (f k).2.length sc2) (f k).2 w' (r1.kept hb) (r2.kept hb) hl)
      clear r1 r2
      generalize (f k).1 = lo at p1 p2 HEQ
      generalize (f k).2 = ys at q1 q2 HEQ
      go_upto_region 6 with (fail)
      go_wp2_with fail
      refine region_plus (by kernel_rfl) (by kernel_rfl) ?_
      repeat (go_big_quiet_step (first | (go_at_call 19; exact calls_plus (HEQ.out _ (by rw [plusq_eq]; (repeat (first | (with_reducible exact Below.refl _ _) | (with_reducible assumption) | (with_reducible refine below_plus' ?_ ?_; ((try simp only [plus_size, World.size_alloc, World.size_drew, World.size_setCell, size_setRow, World.heap_drewN, List.length_append]) <;> omega)) | (with_reducible refine below_alloc' ?_ ?_; ((try simp only [plus_size, World.size_alloc, World.size_drew, World.size_setCell, size_setRow, World.heap_drewN, List.length_append]) <;> omega)) | with_reducible refine Below.drew ?_ | (with_reducible refine below_drewN' ?_ _) | exact Below.refl _ _)))))))
      refine wpQuiet_nil ?_
      intro _ hw'
      obtain ⟨q, hw''⟩ := hw'
      subst hw''
      rw [plusq_eq]
      generalize q.j = j
      generalize q.d = d
      clear q
      go_wp2
      go_roundw
      case rel => exact ⟨k + 1, by omega, by go_num, by (repeat (first | (with_reducible exact Below.refl _ _) | (with_reducible assumption) | (with_reducible refine below_plus' ?_ ?_; ((try simp only [plus_size, World.size_alloc, World.size_drew, World.size_setCell, size_setRow, World.heap_drewN, List.length_append]) <;> omega)) | (with_reducible refine below_alloc' ?_ ?_; ((try simp only [plus_size, World.size_alloc, World.size_drew, World.size_setCell, size_setRow, World.heap_drewN, List.length_append]) <;> omega)) | with_reducible refine Below.drew ?_ | (with_reducible refine below_drewN' ?_ _) | exact Below.refl _ _))⟩
      case measure => simp [intOf]; omega
    · obtain rfl : k = m := by omega
      have hge1 : ¬ ((k : Int) < (k : Int)) := by omega
      go_wp2
      go_ret
      exact ⟨rfl, hbel⟩
set_option maxHeartbeats 1000000 in
theorem eqGrid_same (v1 v2 : Value) (m : Nat) (F : Nat → Nat → Pol) (w : World) (h1 : readsM w v1 m F) (h2 : readsM w v2 m F) (hm : m ≤ 8) (hl : ∀ i, i < m → ∀ j, j < m → (F i j).2.length ≤ 1000000000) : Calls Try.prog 10 #[v1, v2] w fun e w' => e = .returned (.bool true) ∧ Below w.heap.size w w' := by
  obtain ⟨a1, c1, rfl, h1⟩ := h1
  obtain ⟨a2, c2, rfl, h2⟩ := h2
  have H1 := Lib.hid h1
  have H2 := Lib.hid h2
  have HL := Lib.hid hl
  clear h1 h2 hl
  go_enter Try.func10, Try.ntmps10
  go_wp2
  go_loopw [5] (fun sl wr => ∃ (k : Nat), k ≤ m ∧ sl = .int .i64 k ∧ Below w.heap.size w wr) (fun sl _ => m - (intOf sl).toNat)
  case atStart => exact ⟨0, by omega, rfl, by (repeat (first | (with_reducible exact Below.refl _ _) | (with_reducible assumption) | (with_reducible refine below_plus' ?_ ?_; ((try simp only [plus_size, World.size_alloc, World.size_drew, World.size_setCell, size_setRow, World.heap_drewN, List.length_append]) <;> omega)) | (with_reducible refine below_alloc' ?_ ?_; ((try simp only [plus_size, World.size_alloc, World.size_drew, World.size_setCell, size_setRow, World.heap_drewN, List.length_append]) <;> omega)) | with_reducible refine Below.drew ?_ | (with_reducible refine below_drewN' ?_ _) | exact Below.refl _ _))⟩
  case round =>
    obtain ⟨k, hk, rfl, hbel⟩ := hrel
    rcases Nat.lt_or_ge k m with hlt | hge
    · obtain ⟨b1, rfl, hb1, g1⟩ := H1.out.resolve_left (by omega)
      obtain ⟨b2, rfl, hb2, g2⟩ := H2.out.resolve_left (by omega)
      obtain ⟨x1, y1, p1, q1, r1⟩ := g1 k hlt
      obtain ⟨x2, y2, p2, q2, r2⟩ := g2 k hlt
      have hlt1 : (k : Int) < (m : Int) := by omega
      have hz := hbel.size
      have k1 : b1 < wr.heap.size := by omega
      have k2 : b2 < wr.heap.size := by omega
      have kept : ∀ w', Below wr.heap.size wr w' → ∀ rb, rb < w.heap.size → (∀ j, j < m → ∃ sa sc, w.cell? ⟨rb, j * 2, none⟩ = some (.int .i64 (F k j).1) ∧ w.cell? ⟨rb, j * 2 + 1, none⟩ = some (.slice sa (F k j).2.length sc) ∧ reads w (.slice sa (F k j).2.length sc) (F k j).2) → ∀ j, j < m → ∃ sa sc, w'.cell? ⟨rb, j * 2, none⟩ = some (.int .i64 (F k j).1) ∧ w'.cell? ⟨rb, j * 2 + 1, none⟩ = some (.slice sa (F k j).2.length sc) ∧ reads w' (.slice sa (F k j).2.length sc) (F k j).2 := fun w' hb rb hrb h j hj => by
        obtain ⟨sa, sc, h3, h4, h5⟩ := h j hj
        have hbb := hbel.trans (hb.mono hbel.size)
        exact ⟨sa, sc, (hbb.cell (p := ⟨rb, j * 2, none⟩) hrb).trans h3, (hbb.cell (p := ⟨rb, j * 2 + 1, none⟩) hrb).trans h4, h5.kept hbb⟩
      replace p1 := (hbel.cell (p := ⟨b1, k, none⟩) hb1).trans p1
      replace p2 := (hbel.cell (p := ⟨b2, k, none⟩) hb2).trans p2
      have HEQ := Lib.hid (fun w' (hb : Below wr.heap.size wr w') => eqRow_same x1 y1 x2 y2 m (F k) w' (by have := hb.size; omega) (by have := hb.size; omega) (kept w' hb x1 q1 r1) (kept w' hb x2 q2 r2) hm (HL.out k hlt))
      clear g1 g2 r1 r2 kept
      go_upto_region 6 with (fail)
      go_wp2_with fail
      refine region_plus (by kernel_rfl) (by kernel_rfl) ?_
      repeat (go_big_quiet_step (first | (go_at_call 29; exact calls_plus (HEQ.out _ (by rw [plusq_eq]; (repeat (first | (with_reducible exact Below.refl _ _) | (with_reducible assumption) | (with_reducible refine below_plus' ?_ ?_; ((try simp only [plus_size, World.size_alloc, World.size_drew, World.size_setCell, size_setRow, World.heap_drewN, List.length_append]) <;> omega)) | (with_reducible refine below_alloc' ?_ ?_; ((try simp only [plus_size, World.size_alloc, World.size_drew, World.size_setCell, size_setRow, World.heap_drewN, List.length_append]) <;> omega)) | with_reducible refine Below.drew ?_ | (with_reducible refine below_drewN' ?_ _) | exact Below.refl _ _)))))))
      refine wpQuiet_nil ?_
      intro _ hw'
      obtain ⟨q, hw''⟩ := hw'
      subst hw''
      rw [plusq_eq]
      generalize q.j = j
      generalize q.d = d
      clear q
      go_wp2
      go_roundw
      case rel => exact ⟨k + 1, by omega, by go_num, by (repeat (first | (with_reducible exact Below.refl _ _) | (with_reducible assumption) | (with_reducible refine below_plus' ?_ ?_; ((try simp only [plus_size, World.size_alloc, World.size_drew, World.size_setCell, size_setRow, World.heap_drewN, List.length_append]) <;> omega)) | (with_reducible refine below_alloc' ?_ ?_; ((try simp only [plus_size, World.size_alloc, World.size_drew, World.size_setCell, size_setRow, World.heap_drewN, List.length_append]) <;> omega)) | with_reducible refine Below.drew ?_ | (with_reducible refine below_drewN' ?_ _) | exact Below.refl _ _))⟩
      case measure => simp [intOf]; omega
    · obtain rfl : k = m := by omega
      have hge1 : ¬ ((k : Int) < (k : Int)) := by omega
      go_wp2
      go_ret
      exact ⟨rfl, hbel⟩
end Go.Proofs.Ytikakoclmmmjdaa
