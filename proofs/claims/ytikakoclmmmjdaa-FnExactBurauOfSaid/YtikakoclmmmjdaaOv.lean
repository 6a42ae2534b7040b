/- Tables of polynomials numbered, and held. Conditions: as each theorem says. -/
import Derived.Test.YtikakoclmmmjdaaOu
namespace Go.Proofs.Ytikakoclmmmjdaa
open Go.RowKit
set_option linter.unusedSimpArgs false
set_option linter.unusedVariables false
open Go.RowKit
theorem offR_succ (f : Nat → Pol) (j : Nat) : offR f (j + 1) = offR f j + 1 + (f j).2.length := rfl
theorem offG_succ (m : Nat) (G : Nat → Nat → Pol) (i : Nat) : offG m G (i + 1) = offG m G i + offR (G i) m := rfl
theorem offR_mono (f : Nat → Pol) : ∀ {i j : Nat}, i ≤ j → offR f i ≤ offR f j := by
  intro i j
  induction j with
  | zero => intro h; rw [Nat.le_zero.1 h]; exact Nat.le_refl _
  | succ j ih =>
    intro h
    by_cases e : i = j + 1
    · subst e; exact Nat.le_refl _
    · have := ih (by omega); rw [offR_succ]; omega
theorem offG_mono (m : Nat) (G : Nat → Nat → Pol) : ∀ {i j : Nat}, i ≤ j → offG m G i ≤ offG m G j := by
  intro i j
  induction j with
  | zero => intro h; rw [Nat.le_zero.1 h]; exact Nat.le_refl _
  | succ j ih =>
    intro h
    by_cases e : i = j + 1
    · subst e; exact Nat.le_refl _
    · have := ih (by omega); rw [offG_succ]; omega
theorem mkT_at {m : Nat} {G : Nat → Nat → Pol} {k0 : Int} {i x y : Nat} (h : x < i) (hy : y < m) : mkT m G k0 i x y = mkP (k0 + offG m G x + offR (G x) y) (G x y) := if_pos ⟨h, hy⟩
theorem mkP_len (k : Int) (q : Pol) : (mkP k q).2.length = q.2.length := marks_len _ _
theorem mkT_step (m : Nat) (G : Nat → Nat → Pol) (k0 : Int) (i : Nat) : mkR (mkT m G k0 i) i (k0 + offG m G i) m = mkT m G k0 (i + 1) := by
  funext x y
  show (if x = i ∧ y < m then mkP (k0 + offG m G i + offR (mkT m G k0 i i) y) (mkT m G k0 i i y) else _) = (if x < i + 1 ∧ y < m then _ else _)
  rw [mkT_row]
  by_cases h : x = i ∧ y < m
  · obtain ⟨rfl, h2⟩ := h
    rw [if_pos ⟨rfl, h2⟩, if_pos ⟨by omega, h2⟩]
  · rw [if_neg h]
    show (if x < i ∧ y < m then _ else _) = _
    by_cases h3 : x < i ∧ y < m
    · rw [if_pos h3, if_pos ⟨by omega, h3.2⟩]
    · rw [if_neg h3, if_neg (fun h4 => by
        have := h4.1; have := h4.2
        by_cases e : x = i
        · exact h ⟨e, h4.2⟩
        · exact h3 ⟨by omega, h4.2⟩)]
set_option maxHeartbeats 2000000 in
theorem markRow_any (w : World) (B m g : Nat) (kb ck : Nat → Nat) (sv : Nat → Nat → Value) (G : Nat → Nat → Pol) (h : Grid w B m g kb ck sv G) (hB : B ≤ w.heap.size) (i : Nat) (hi : i < m) (k0 : Int) (hm : m ≤ 8) (hk0 : 0 ≤ k0) (hk1 : k0 + offR (G i) m ≤ 1000000) : Calls Try.prog 32 #[.slice (some ⟨kb i, 0, none⟩) m (ck i), .int .i64 k0] w fun e w' => e = .returned (.int .i64 (k0 + offR (G i) m)) ∧ Grid w' B m g kb ck sv (mkR G i k0 m) ∧ Below B w w' := by
  have HM := Lib.hid (fun j (hj : j ≤ m) => offR_mono (G i) hj)
  rw [← mkR_0 G i k0] at h
  go_enter Try.func32, Try.ntmps32
  go_wp2
  go_loopw [5, 1] (fun sl s1 wr => ∃ (k : Nat), k ≤ m ∧ sl = .int .i64 k ∧ s1 = .int .i64 (k0 + offR (G i) k) ∧ Grid wr B m g kb ck sv (mkR G i k0 k) ∧ Below B w wr) (fun sl _ _ => m - (intOf sl).toNat)
  case atStart => exact ⟨0, by omega, rfl, by simp [offR], h, Below.refl _ _⟩
  case round =>
    clear h
    obtain ⟨k, hk, rfl, rfl, ht, hbel⟩ := hrel
    rcases Nat.lt_or_ge k m with hlt | hge
    · have hlt1 : (k : Int) < (m : Int) := by omega
      have hstep := offR_succ (G i) k
      have hmo := HM.out (k + 1) (by omega)
      have hgr1 := ht.low hi hlt (k0 + offR (G i) k)
      obtain ⟨cur, hblk⟩ := ht.tk i hi
      have hfr := frozen_of_row wr (kb i) (k * 2) _ _ hblk
      have hc0 := ht.c0 i hi k hlt
      have hc1' := hgr1.c1 i hi k hlt
      have hw2 : own 2 (wr.setCell ⟨kb i, k * 2, none⟩ (.int .i64 (k0 + offR (G i) k))) B (sv i k) (G i k).2 := by have t := hgr1.ow i hi k hlt; rw [updG_at, mkR_at] at t; exact t
      have hfin : k0 + (offR (G i) k : Int) + 1 + ((G i k).2.length : Int) = k0 + ((offR (G i) (k + 1) : Nat) : Int) := by omega
      obtain ⟨xa, xc, hform⟩ := readsL_form hw2.reads
      have hw3 := hw2
      rw [hform] at hw3
      have hsb := (Below.refl B wr).setCell (p := ⟨kb i, k * 2, none⟩) (ht.bk i hi) (.int .i64 (k0 + offR (G i) k))
      go_wp2_with (first | (go_at_call 31; refine Calls.mono (markInts_any _ _ B _ _ hw3 (by omega) (by omega) (by omega)) ?_; rw [hfin]; rintro e w' ⟨rfl, ho', hgr⟩))
      rw [← hform] at ho' hgr
      have ht2 := hgr1.list hi hlt ho' hgr
      rw [updG_two, updG_at] at ht2
      have ht3 : Grid _ B m g kb ck sv (mkR G i k0 (k + 1)) := (mkR_step G i k0 k) ▸ ht2
      have hB2 := below_of_grown hgr (Nat.le_trans hB (hbel.trans hsb).size) (fun q hq => (hw2.lt q hq).1)
      go_roundw
      case rel => exact ⟨k + 1, by omega, by go_num, rfl, ht3, (hbel.trans hsb).trans hB2⟩
      case measure => simp [intOf]; omega
    · obtain rfl : k = m := by omega
      have hge1 : ¬ ((k : Int) < (k : Int)) := by omega
      go_wp2
      go_ret
      exact ⟨rfl, ht, hbel⟩
set_option maxHeartbeats 2000000 in
theorem markGrid_any (w : World) (B m g c : Nat) (kb ck : Nat → Nat) (sv : Nat → Nat → Value) (G : Nat → Nat → Pol) (h : Grid w B m g kb ck sv G) (hB : B ≤ w.heap.size) (k0 : Int) (hm : m ≤ 8) (hk0 : 0 ≤ k0) (hk1 : k0 + offG m G m ≤ 1000000) : Calls Try.prog 13 #[.slice (some ⟨g, 0, none⟩) m c, .int .i64 k0] w fun e w' => e = .returned (.int .i64 (k0 + offG m G m)) ∧ Grid w' B m g kb ck sv (mkT m G k0 m) ∧ Below B w w' := by
  have HM := Lib.hid (fun j (hj : j ≤ m) => offG_mono m G hj)
  rw [← mkT_0 m G k0] at h
  go_enter Try.func13, Try.ntmps13
  go_wp2
  go_loopw [5, 1] (fun sl s1 wr => ∃ (k : Nat), k ≤ m ∧ sl = .int .i64 k ∧ s1 = .int .i64 (k0 + offG m G k) ∧ Grid wr B m g kb ck sv (mkT m G k0 k) ∧ Below B w wr) (fun sl _ _ => m - (intOf sl).toNat)
  case atStart => exact ⟨0, by omega, rfl, by simp [offG], h, Below.refl _ _⟩
  case round =>
    clear h
    obtain ⟨k, hk, rfl, rfl, ht, hbel⟩ := hrel
    rcases Nat.lt_or_ge k m with hlt | hge
    · have hlt1 : (k : Int) < (m : Int) := by omega
      have hstep := offG_succ m G k
      have hmo := HM.out (k + 1) (by omega)
      have hc0 := ht.cr k hlt
      have hfin : k0 + (offG m G k : Int) + (offR (G k) m : Int) = k0 + ((offG m G (k + 1) : Nat) : Int) := by omega
      go_wp2_with (first | (go_at_call 32; refine Calls.mono (markRow_any _ B m g kb ck sv _ ht (Nat.le_trans hB hbel.size) k hlt (k0 + offG m G k) hm (by omega) (by rw [mkT_row]; omega)) ?_; rw [mkT_row, hfin, mkT_step]; rintro e w' ⟨rfl, ht2, hB2⟩))
      go_roundw
      case rel => exact ⟨k + 1, by omega, by go_num, rfl, ht2, hbel.trans hB2⟩
      case measure => simp [intOf]; omega
    · obtain rfl : k = m := by omega
      have hge1 : ¬ ((k : Int) < (k : Int)) := by omega
      go_wp2
      go_ret
      exact ⟨rfl, ht, hbel⟩
set_option maxHeartbeats 2000000 in
theorem heldRow_any (b c m : Nat) (f : Nat → Pol) (k0 : Int) (w : World) (hb : b < w.heap.size) (h : ∀ j, j < m → ∃ sa sc, w.cell? ⟨b, j * 2, none⟩ = some (.int .i64 (k0 + offR f j)) ∧ w.cell? ⟨b, j * 2 + 1, none⟩ = some (.slice sa (f j).2.length sc) ∧ reads w (.slice sa (f j).2.length sc) (marks (k0 + offR f j + 1) (f j).2.length)) (hm : m ≤ 8) (hk0 : 0 ≤ k0) (hk1 : k0 + offR f m ≤ 1000000) : Calls Try.prog 33 #[.slice (some ⟨b, 0, none⟩) m c, .int .i64 k0] w fun e w' => e = .returned (.int .i64 (k0 + offR f m)) ∧ Below w.heap.size w w' := by
  have HM := Lib.hid (fun j (hj : j ≤ m) => offR_mono f hj)
  have H := Lib.hid h
  clear h
  go_enter Try.func33, Try.ntmps33
  go_wp2
  go_loopw [5, 1] (fun sl s1 wr => ∃ (k : Nat), k ≤ m ∧ sl = .int .i64 k ∧ s1 = .int .i64 (k0 + offR f k) ∧ Below w.heap.size w wr) (fun sl _ _ => m - (intOf sl).toNat)
  case atStart => exact ⟨0, by omega, rfl, by simp [offR], by (repeat (first | (with_reducible exact Below.refl _ _) | (with_reducible assumption) | (with_reducible refine below_plus' ?_ ?_; ((try simp only [plus_size, World.size_alloc, World.size_drew, World.size_setCell, size_setRow, World.heap_drewN, List.length_append]) <;> omega)) | (with_reducible refine below_alloc' ?_ ?_; ((try simp only [plus_size, World.size_alloc, World.size_drew, World.size_setCell, size_setRow, World.heap_drewN, List.length_append]) <;> omega)) | with_reducible refine Below.drew ?_ | (with_reducible refine below_drewN' ?_ _) | exact Below.refl _ _))⟩
  case round =>
    obtain ⟨k, hk, rfl, rfl, hbel⟩ := hrel
    rcases Nat.lt_or_ge k m with hlt | hge
    · have hlt1 : (k : Int) < (m : Int) := by omega
      have hstep := offR_succ f k
      have hmo := HM.out (k + 1) (by omega)
      obtain ⟨sa, sc, p1, p2, hr1⟩ := H.out k hlt
      have hz := hbel.size
      have k1 : b < wr.heap.size := by omega
      replace p1 := (hbel.cell (p := ⟨b, k * 2, none⟩) hb).trans p1
      replace p2 := (hbel.cell (p := ⟨b, k * 2 + 1, none⟩) hb).trans p2
      have hr2 := hr1.kept hbel
      have hfin : k0 + (offR f k : Int) + 1 + ((f k).2.length : Int) = k0 + ((offR f (k + 1) : Nat) : Int) := by omega
      have h7 : ¬ k0 + ((offR f (k + 1) : Nat) : Int) < 0 := by omega
      clear hr1
      go_wp2_with (first | (go_at_call 40; refine Calls.mono (heldInts_any _ (f k).2.length (k0 + offR f k + 1) _ hr2 (by omega) (by omega) (by omega)) ?_; rw [hfin]; rintro e w' ⟨rfl, hB⟩; obtain ⟨j, d, rfl⟩ := plus_of_below hB; clear hB))
      go_roundw
      case rel => exact ⟨k + 1, by omega, by go_num, rfl, by (repeat (first | (with_reducible exact Below.refl _ _) | (with_reducible assumption) | (with_reducible refine below_plus' ?_ ?_; ((try simp only [plus_size, World.size_alloc, World.size_drew, World.size_setCell, size_setRow, World.heap_drewN, List.length_append]) <;> omega)) | (with_reducible refine below_alloc' ?_ ?_; ((try simp only [plus_size, World.size_alloc, World.size_drew, World.size_setCell, size_setRow, World.heap_drewN, List.length_append]) <;> omega)) | with_reducible refine Below.drew ?_ | (with_reducible refine below_drewN' ?_ _) | exact Below.refl _ _))⟩
      case measure => simp [intOf]; omega
    · obtain rfl : k = m := by omega
      have hge1 : ¬ ((k : Int) < (k : Int)) := by omega
      go_wp2
      go_ret
      exact ⟨rfl, hbel⟩
set_option maxHeartbeats 2000000 in
theorem heldGrid_any (w : World) (B m g c : Nat) (kb ck : Nat → Nat) (sv : Nat → Nat → Value) (G : Nat → Nat → Pol) (k0 : Int) (h : Grid w B m g kb ck sv (mkT m G k0 m)) (hm : m ≤ 8) (hk0 : 0 ≤ k0) (hk1 : k0 + offG m G m ≤ 1000000) : Calls Try.prog 14 #[.slice (some ⟨g, 0, none⟩) m c, .int .i64 k0] w fun e w' => e = .returned (.int .i64 (k0 + offG m G m)) ∧ Below w.heap.size w w' := by
  have HM := Lib.hid (fun j (hj : j ≤ m) => offG_mono m G hj)
  have hent : ∀ k, k < m → ∀ j, j < m → ∃ sa sc, w.cell? ⟨(kb k), j * 2, none⟩ = some (.int .i64 ((k0 + offG m G k) + offR (G k) j)) ∧ w.cell? ⟨(kb k), j * 2 + 1, none⟩ = some (.slice sa (G k j).2.length sc) ∧ reads w (.slice sa (G k j).2.length sc) (marks ((k0 + offG m G k) + offR (G k) j + 1) (G k j).2.length) := fun k hk j hj => by
    have ho := own.reads (h.ow k hk j hj)
    have h0 := h.c0 k hk j hj
    have h1 := h.c1 k hk j hj
    rw [mkT_at hk hj] at ho h0
    obtain ⟨sa, sc, he⟩ := readsL_form ho
    rw [he] at ho h1
    rw [mkP_len] at ho h1
    exact ⟨sa, sc, h0, h1, ho⟩
  obtain ⟨cg, hg⟩ := h.tg
  have hgl := lt_of_block hg
  have hkb : ∀ k, k < m → kb k < w.heap.size := fun k hk => by
    obtain ⟨cur, hk2⟩ := h.tk k hk
    exact lt_of_block hk2
  have HE := Lib.hid hent
  clear hent
  go_enter Try.func14, Try.ntmps14
  go_wp2
  go_loopw [5, 1] (fun sl s1 wr => ∃ (k : Nat), k ≤ m ∧ sl = .int .i64 k ∧ s1 = .int .i64 (k0 + offG m G k) ∧ Below w.heap.size w wr) (fun sl _ _ => m - (intOf sl).toNat)
  case atStart => exact ⟨0, by omega, rfl, by simp [offG], by (repeat (first | (with_reducible exact Below.refl _ _) | (with_reducible assumption) | (with_reducible refine below_plus' ?_ ?_; ((try simp only [plus_size, World.size_alloc, World.size_drew, World.size_setCell, size_setRow, World.heap_drewN, List.length_append]) <;> omega)) | (with_reducible refine below_alloc' ?_ ?_; ((try simp only [plus_size, World.size_alloc, World.size_drew, World.size_setCell, size_setRow, World.heap_drewN, List.length_append]) <;> omega)) | with_reducible refine Below.drew ?_ | (with_reducible refine below_drewN' ?_ _) | exact Below.refl _ _))⟩
  case round =>
    obtain ⟨k, hk, rfl, rfl, hbel⟩ := hrel
    rcases Nat.lt_or_ge k m with hlt | hge
    · have hlt1 : (k : Int) < (m : Int) := by omega
      have hstep := offG_succ m G k
      have hmo := HM.out (k + 1) (by omega)
      have hz := hbel.size
      have hkk := hkb k hlt
      have k1 : g < wr.heap.size := by omega
      have hc0 := (hbel.cell (p := ⟨g, k, none⟩) hgl).trans (h.cr k hlt)
      have HR := Lib.hid (fun k (hk : k < m) (j : Nat) (hj : j < m) => by
        obtain ⟨sa, sc, p1, p2, p3⟩ := HE.out k hk j hj
        exact (⟨sa, sc, (hbel.cell (p := ⟨kb k, j * 2, none⟩) (hkb k hk)).trans p1, (hbel.cell (p := ⟨kb k, j * 2 + 1, none⟩) (hkb k hk)).trans p2, p3.kept hbel⟩ : ∃ sa sc, wr.cell? ⟨(kb k), j * 2, none⟩ = some (.int .i64 ((k0 + offG m G k) + offR (G k) j)) ∧ wr.cell? ⟨(kb k), j * 2 + 1, none⟩ = some (.slice sa (G k j).2.length sc) ∧ reads wr (.slice sa (G k j).2.length sc) (marks ((k0 + offG m G k) + offR (G k) j + 1) (G k j).2.length)))
      have hfin : k0 + (offG m G k : Int) + (offR (G k) m : Int) = k0 + ((offG m G (k + 1) : Nat) : Int) := by omega
      have h7 : ¬ k0 + ((offG m G (k + 1) : Nat) : Int) < 0 := by omega
      go_wp2_with (first | (go_at_call 33; refine Calls.mono (heldRow_any (kb k) (ck k) m (G k) (k0 + offG m G k) _ ?_ ?_ hm (by omega) (by omega)) ?_; omega; exact HR.out k hlt; rw [hfin]; rintro e w' ⟨rfl, hB⟩; obtain ⟨j, d, rfl⟩ := plus_of_below hB; clear hB))
      go_roundw
      case rel => exact ⟨k + 1, by omega, by go_num, rfl, by (repeat (first | (with_reducible exact Below.refl _ _) | (with_reducible assumption) | (with_reducible refine below_plus' ?_ ?_; ((try simp only [plus_size, World.size_alloc, World.size_drew, World.size_setCell, size_setRow, World.heap_drewN, List.length_append]) <;> omega)) | (with_reducible refine below_alloc' ?_ ?_; ((try simp only [plus_size, World.size_alloc, World.size_drew, World.size_setCell, size_setRow, World.heap_drewN, List.length_append]) <;> omega)) | with_reducible refine Below.drew ?_ | (with_reducible refine below_drewN' ?_ _) | exact Below.refl _ _))⟩
      case measure => simp [intOf]; omega
    · obtain rfl : k = m := by omega
      have hge1 : ¬ ((k : Int) < (k : Int)) := by omega
      go_wp2
      go_ret
      exact ⟨rfl, hbel⟩
end Go.Proofs.Ytikakoclmmmjdaa
