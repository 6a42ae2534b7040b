/- A source whose numbers are known. Conditions: as each theorem says. -/
import Derived.Test.YtblpbkfenmkhbaaGreatDoorD1
import Derived.Test.YtblpbkfenmkhbaaGreatDoorQa
namespace Go.Proofs.YtblpbkfenmkhbaaGreatDoor
open Go.RowKit
set_option linter.unusedSimpArgs false
set_option linter.unusedVariables false
/-- a source of which t numbers were taken since its state was h0 -/
def SrcT (W w : World) (g : Nat) (vc : Value) (m h0 t : Nat) : Prop := Src W w g vc m ∧ ∃ i : Nat, i ≤ m ∧ min t m ≤ i ∧ w.heap[g]? = some (.cells #[vc, .int .i64 i, .int .u64 (hs h0 t : Nat)] 77)
theorem SrcT.src {W w : World} {g : Nat} {vc : Value} {m h0 t : Nat} (h : SrcT W w g vc m h0 t) : Src W w g vc m := h.1
theorem SrcT.lt {W w : World} {g : Nat} {vc : Value} {m h0 t : Nat} (h : SrcT W w g vc m h0 t) : g < w.heap.size := h.1.lt
theorem SrcT.kept {W w w' : World} {g : Nat} {vc : Value} {m h0 t : Nat} (h : SrcT W w g vc m h0 t) (hb : Below w.heap.size w w') : SrcT W w' g vc m h0 t := by
  obtain ⟨h1, i, h2, h3, h4⟩ := h
  exact ⟨h1.kept hb, i, h2, h3, (hb.block g h1.lt).trans h4⟩
theorem Src.start {W w : World} {g : Nat} {vc : Value} {m : Nat} (h : Src W w g vc m) : ∃ h0, h0 < 18446744073709551616 ∧ SrcT W w g vc m h0 0 := by
  obtain ⟨i, x, h1, h2, h3⟩ := h.box
  exact ⟨x, h2, h, i, h1, by omega, h3⟩
theorem u64_next (h : Nat) : IntKind.u64.wrap (IntKind.u64.wrap ((h : Int) * 6364136223846793005) + 1442695040888963407) = ((nextH h : Nat) : Int) := by
  show ((h : Int) * 6364136223846793005 % 2 ^ IntKind.u64.bits + 1442695040888963407) % 2 ^ IntKind.u64.bits = _
  have : (2 : Int) ^ IntKind.u64.bits = 18446744073709551616 := by decide
  rw [this]
  unfold nextH
  omega
set_option maxHeartbeats 400000 in
theorem nextT0 (W w : World) (g : Nat) (vc : Value) (m : Nat) (n : Int) (h0 t : Nat) (hC : readsC W vc m) (hm : m ≤ 1000000000) (hh0 : h0 < 18446744073709551616) (hT : SrcT W w g vc m h0 t) (hn : n ≤ 1000000000000000000) (h1 : 1 ≤ n) : Calls Tryz.prog 32 #[.pointer (some ⟨g, 0, none⟩), .int .i64 n] w fun e w' => ∃ r : Int, e = .returned (.int .i64 r) ∧ 0 ≤ r ∧ r < n ∧ SrcT W w' g vc m h0 (t + 1) ∧ w.grownBy w' (some g) ∧ (m ≤ t → r = ((top24 (hs h0 (t + 1)) : Nat) : Int) % n) := by
  obtain ⟨hS, i, hi, hti, hb⟩ := hT
  have hl := hS.lt
  have hsn : hs h0 (t + 1) = nextH (hs h0 t) := rfl
  have hh := hs_lt hh0 t
  have hh2 := hs_lt hh0 (t + 1)
  rw [hsn] at hh2 ⊢
  unfold SrcT
  rw [hsn]
  generalize hs h0 t = h at *
  have eh := u64_next h
  generalize nextH h = h2 at *
  have c0 : w.cell? ⟨g, 0, none⟩ = some vc := cell_of (i := 0) hb
  have c1 : w.cell? ⟨g, 1, none⟩ = some (.int .i64 i) := cell_of (i := 1) hb
  have c2 : w.cell? ⟨g, 2, none⟩ = some (.int .u64 h) := cell_of (i := 2) hb
  have f1 := frozen_of_row w g 1 _ _ hb
  have f2 := frozen_of_row w g 2 _ _ hb
  obtain ⟨a, cap, rfl, hr⟩ := hC
  obtain ⟨x, hx, ex, hxe⟩ : ∃ x : Nat, x < 16777216 ∧ bits .and .u64 ((h2 : Int) / 8589934592) 16777215 = (x : Int) ∧ x = top24 h2 := ⟨mid24 h2, mid24_lt _, and24 h2 hh2, rfl⟩
  have hlo := hS.lo
  have hn0 : n ≠ 0 := by omega
  by_cases hlt : i < m
  · obtain ⟨b, o, rfl, hr2⟩ := hr.resolve_left (by omega)
    obtain ⟨y, hy, cy⟩ := hr2 i hlt
    have hbl := World.block_lt_of_cell? W _ cy
    have hbl : b < W.heap.size := hbl
    have hbg : b ≠ g := by omega
    have hgb : g ≠ b := by omega
    have cy : w.cell? ⟨b, o + i, none⟩ = some (.int .u8 (y : Int)) := by rw [hS.bel.cell (p := ⟨b, o + i, none⟩) hbl]; exact cy
    have HS := Lib.hid hS
    have HB := Lib.hid hb
    have HT := Lib.hid hti
    clear hr hr2 hS hb hbl hxe hsn hti
    go_enter Tryz.func32, Tryz.ntmps32
    go_wp2
    go_quiet (fail)
    go_wp2
    go_quiet (fail)
    go_wp2
    go_ret
    have g1 := fun q => grownBy_trans (grownBy_drewN (grownBy_setCell w g 2 (.int .u64 h2)) q) (grownBy_setCell ((w.setCell ⟨g, 2, none⟩ (.int .u64 h2)).drewN q) g 1 (.int .i64 ((i : Int) + 1)))
    have hb1 := heap_setCell_same w g 2 _ _ (.int .u64 h2) HB.out
    have hb2 := fun q => heap_setCell_same ((w.setCell ⟨g, 2, none⟩ (.int .u64 h2)).drewN q) g 1 _ _ (.int .i64 ((i : Int) + 1)) hb1
    have hti := HT.out
    exact ⟨_, rfl, Int.emod_nonneg _ hn0, Int.emod_lt_of_pos _ (by omega), ⟨src_of HS.out (g1 _) ⟨i + 1, h2, by omega, hh2, hb2 _⟩, i + 1, by omega, by omega, hb2 _⟩, g1 _, fun h => by omega⟩
  · obtain rfl : i = m := by omega
    have HS := Lib.hid hS
    have HB := Lib.hid hb
    have HX := Lib.hid hxe
    clear hr hS hb hxe hsn hti
    go_enter Tryz.func32, Tryz.ntmps32
    go_wp2
    go_quiet (fail)
    go_wp2
    go_ret
    have g1 := fun q => grownBy_drewN (grownBy_setCell w g 2 (.int .u64 h2)) q
    have hb1 := heap_setCell_same w g 2 _ _ (.int .u64 h2) HB.out
    exact ⟨_, rfl, Int.emod_nonneg _ hn0, Int.emod_lt_of_pos _ (by omega), ⟨src_of HS.out (g1 _) ⟨i, h2, by omega, hh2, hb1⟩, i, by omega, by omega, hb1⟩, g1 _, fun _ => by rw [HX.out]⟩
theorem nextT (W w : World) (g : Nat) (vc : Value) (m : Nat) (n : Int) (h0 t : Nat) (hC : readsC W vc m) (hm : m ≤ 1000000000) (hh0 : h0 < 18446744073709551616) (hT : SrcT W w g vc m h0 t) (hn : n ≤ 1000000000000000000) (h1 : 1 ≤ n) : Calls Tryz.prog 32 #[.pointer (some ⟨g, 0, none⟩), .int .i64 n] w fun e w' => ∃ q : Nat, (q : Int) < n ∧ e = .returned (.int .i64 q) ∧ SrcT W w' g vc m h0 (t + 1) ∧ w.grownBy w' (some g) ∧ (m ≤ t → (q : Int) = ((top24 (hs h0 (t + 1)) : Nat) : Int) % n) :=
  (nextT0 W w g vc m n h0 t hC hm hh0 hT hn h1).mono fun e w' ⟨r, h2, h3, h4, h5, h6, h7⟩ => by
    obtain ⟨q, rfl⟩ : ∃ q : Nat, r = q := ⟨r.toNat, by omega⟩
    exact ⟨q, h4, h2, h5, h6, h7⟩
end Go.Proofs.YtblpbkfenmkhbaaGreatDoor
