/- Strands followed, with a table, by the program. Conditions: as each theorem says. -/
import Derived.Test.YtgkpdklkeajipaaGreatDoorX2
namespace Go.Proofs.YtgkpdklkeajipaaGreatDoor
open Go.RowKit
set_option linter.unusedSimpArgs false
set_option linter.unusedVariables false
theorem Within.then_below {B T : Nat} {w a b : World} (h : Within B T w a) (k : Below w.heap.size a b) : Within B T w b :=
  ⟨k.os.trans h.1, k.tape.trans h.2.1, k.output.trans h.2.2.1, Nat.le_trans h.2.2.2.1 k.size, fun i hi ho => (k.block i hi).trans (h.2.2.2.2 i hi ho)⟩
theorem Within.mono {B T : Nat} {w0 w a : World} (h : Within B T w a) (k : Below w0.heap.size w0 w) : Within B T w0 a :=
  ⟨h.1.trans k.os, h.2.1.trans k.tape, h.2.2.1.trans k.output, Nat.le_trans k.size h.2.2.2.1, fun i hi ho => (h.2.2.2.2 i (Nat.lt_of_lt_of_le hi k.size) ho).trans (k.block i hi)⟩
theorem Within.refl (B T : Nat) (w : World) : Within B T w w := ⟨rfl, rfl, rfl, Nat.le_refl _, fun _ _ _ => rfl⟩
theorem within_two (w : World) (n g i j : Nat) (a b : Value) : Within g (g + 1) w (((w.drewN n).setCell ⟨g, i, none⟩ a).setCell ⟨g, j, none⟩ b) :=
  ⟨rfl, rfl, rfl, by simp, fun k hk ho => by
    rw [heap_setCell_other _ _ k b (by show k ≠ g; omega), heap_setCell_other _ _ k a (by show k ≠ g; omega)]; rfl⟩
theorem crossF_succ {m k p : Nat} {xs : List Int} {z : Int} (hz : nth xs k = z) (hp : z.natAbs = p + 1) : crossF m xs (k + 1) = cross2 (crossF m xs k) (seqK m (absL xs) k p) (seqK m (absL xs) k (p + 1)) (sgn z) := by
  show cross2 (crossF m xs k) (seqK m (absL xs) k ((nth xs k).natAbs - 1)) (seqK m (absL xs) k (nth xs k).natAbs) (sgn (nth xs k)) = _
  rw [hz, hp, Nat.add_sub_cancel]
set_option maxHeartbeats 4000000 in
theorem follow2_any (m b B T : Nat) (v vt : Value) (xs : List Int) (wB w : World) (h : reads wB v xs) (hwB : wB.heap.size = B) (hbw : Below B wB w) (hTw : T ≤ w.heap.size) (h1 : 1 ≤ m) (h2 : m ≤ 8) (hlen : xs.length ≤ 200) (hlet : LetK m (absL xs) xs.length)
    (ht0 : tabU 24 2 w B T vt (tabL m (crossF m xs 0))) (hb0 : w.heap[b]? = some (.cells #[vt] 37)) (hbT : T ≤ b) : Calls Tryz.prog 39 #[.agg #[.int .i64 m, v], .func (.func 40) #[] #[.pointer (some ⟨b, 0, none⟩)]] w fun e w' => (∃ v, e = .returned v) ∧ tabU 24 2 w' B T vt (tabL m (crossF m xs xs.length)) ∧ w'.heap[b]? = some (.cells #[vt] 37) ∧ Within B T w w' := by
  obtain ⟨a, c, rfl, h⟩ := h
  have Hr := Lib.hid (fun (hp : 0 < xs.length) => h.resolve_left (fun e => by rw [e] at hp; cases hp))
  clear h
  have Hlet := Lib.hid hlet
  clear hlet
  have hbl0 := lt_of_block hb0
  go_enter Tryz.func39, Tryz.ntmps39
  go_wp2_with (first | (go_at_call 57; refine Calls.mono (strandsOf_any _ _ h2) ?_; rintro e w' ⟨vo, rfl, hB, ho⟩; obtain ⟨g, ca, rfl, hgB, hgl, hcap⟩ := own_some ho (by rw [lstOf_length]; omega); (simp only [lstOf_length] at ho hcap ⊢); obtain ⟨j0, d0, rfl⟩ := plus_of_below hB; clear hB))
  go_loopw [15] (fun sl wr => ∃ k : Nat, k ≤ xs.length ∧ sl = .int .i64 k ∧ own 2 wr (w.alloc (.cells #[.int .i64 m, .slice a xs.length c] 26)).heap.size (.slice (some ⟨g, 0, none⟩) m ca) (lstOf m (seqK m (absL xs) k)) ∧ tabU 24 2 wr B T vt (tabL m (crossF m xs k)) ∧ wr.heap[b]? = some (.cells #[vt] 37) ∧ Within B T w wr) (fun sl _ => xs.length - (intOf sl).toNat)
  case atStart => exact ⟨0, by omega, rfl, ho.mono (by ((try simp only [plus_size, World.size_alloc, World.size_drew, World.size_setCell, size_setRow, World.heap_drewN, List.length_append]) <;> omega)), ht0.kept (by (repeat (first | (with_reducible exact Below.refl _ _) | (with_reducible assumption) | (with_reducible refine below_plus' ?_ ?_; ((try simp only [plus_size, World.size_alloc, World.size_drew, World.size_setCell, size_setRow, World.heap_drewN, List.length_append]) <;> omega)) | (with_reducible refine below_alloc' ?_ ?_; ((try simp only [plus_size, World.size_alloc, World.size_drew, World.size_setCell, size_setRow, World.heap_drewN, List.length_append]) <;> omega)) | with_reducible refine Below.drew ?_ | (with_reducible refine below_drewN' ?_ _) | exact Below.refl _ _))), by (repeat (first | (refine heap_at _ _ _ ?_; ((try simp only [plus_size, World.size_alloc, World.size_drew, World.size_setCell, size_setRow, World.heap_drewN, List.length_append]) <;> omega)) | (refine heap_past' ?_ ?_; ((try simp only [plus_size, World.size_alloc, World.size_drew, World.size_setCell, size_setRow, World.heap_drewN, List.length_append]) <;> omega)) | (refine heap_plus' ?_ ?_; ((try simp only [plus_size, World.size_alloc, World.size_drew, World.size_setCell, size_setRow, World.heap_drewN, List.length_append]) <;> omega)) | assumption)), Within.of_below (by (repeat (first | (with_reducible exact Below.refl _ _) | (with_reducible assumption) | (with_reducible refine below_plus' ?_ ?_; ((try simp only [plus_size, World.size_alloc, World.size_drew, World.size_setCell, size_setRow, World.heap_drewN, List.length_append]) <;> omega)) | (with_reducible refine below_alloc' ?_ ?_; ((try simp only [plus_size, World.size_alloc, World.size_drew, World.size_setCell, size_setRow, World.heap_drewN, List.length_append]) <;> omega)) | with_reducible refine Below.drew ?_ | (with_reducible refine below_drewN' ?_ _) | exact Below.refl _ _)))⟩
  case round =>
    clear ho
    obtain ⟨k, hk, rfl, hown, ht, hb, hW⟩ := hrel
    by_cases hlt : k < xs.length
    · obtain ⟨bv, o, rfl, mm⟩ := Hr.out (by omega)
      have g0 := mm k hlt
      have hbB : bv < wB.heap.size := World.block_lt_of_cell? wB _ g0
      have hBs := hbw.size
      have hBW : Below B wB wr := hbw.trans (hW.below (by omega))
      have g1 : wr.cell? ⟨bv, o + k, none⟩ = some (.int .i64 (nth xs k)) := by
        rw [hBW.cell (p := ⟨bv, o + k, none⟩) (by show bv < B; omega)]; exact g0
      obtain ⟨p, hp, hx, hs⟩ := letter_cases Hlet.out hlt
      have HS := Lib.hid (show swapK (seqK m (absL xs) k) (p + 1) = seqK m (absL xs) (k + 1) from (funext hs).symm)
      obtain ⟨z, hz⟩ : ∃ z, nth xs k = z := ⟨_, rfl⟩
      rw [hz] at g1 hx
      have hab : (z.natAbs : Int) = (p : Int) + 1 := by omega
      have HC := Lib.hid (crossF_succ (m := m) hz (show z.natAbs = p + 1 by omega))
      have hz1 : -1000 ≤ z := by omega
      have hz2 : z ≤ 1000 := by omega
      have c1 := hown.cell (i := p) (by rw [lstOf_length]; omega)
      have c2 := hown.cell (i := p + 1) (by rw [lstOf_length]; omega)
      rw [nth_lstOf (by omega)] at c1 c2
      have hq1 := (seq_perm k (Hlet.out.le hk)).lt p (by omega)
      have hq2 := (seq_perm k (Hlet.out.le hk)).lt (p + 1) (by omega)
      have hpw : IntKind.i64.wrap (p : Int) = p := by rw [IntKind.wrap_i64]; omega
      have hgl := (hown.lt g rfl).2
      have hgb := (hown.lt g rfl).1
      have hbl := lt_of_block hb
      have hbvl : bv < wr.heap.size := by have := hBW.size; omega
      clear mm Hr hs g0 hx hz
      obtain ⟨sx, hsx⟩ : ∃ sx, seqK m (absL xs) k p = sx := ⟨_, rfl⟩
      obtain ⟨sy, hsy⟩ : ∃ sy, seqK m (absL xs) k (p + 1) = sy := ⟨_, rfl⟩
      rw [hsx] at hq1 c1
      rw [hsy] at hq2 c2
      go_upto_region 6 with (first | (go_at_call 58; refine (size_any _ _ (by omega) (by omega)).mono ?_; rw [hab]; rintro e w' ⟨rfl, rfl⟩))
      go_wp2_with fail
      refine region_plus_tail 11 (by kernel_rfl) (by kernel_rfl) ?_
      simp only [List.take_succ_cons, List.take_zero, List.drop_succ_cons, List.drop_zero]
      repeat (go_big_quiet_step (first | fail))
      refine wpQuiet_nil ?_
      intro _ hw'
      obtain ⟨q, hw''⟩ := hw'
      subst hw''
      rw [plusq_eq]
      generalize q.j = j
      generalize q.d = d
      clear q
      go_upto_region 7 with ((go_at_call 40; refine Calls.mono (crossC_any m sx sy b B T z vt _ _ hq1 hq2 h2 (ht.kept (by (repeat (first | (with_reducible exact Below.refl _ _) | (with_reducible assumption) | (with_reducible refine below_plus' ?_ ?_; ((try simp only [plus_size, World.size_alloc, World.size_drew, World.size_setCell, size_setRow, World.heap_drewN, List.length_append]) <;> omega)) | (with_reducible refine below_alloc' ?_ ?_; ((try simp only [plus_size, World.size_alloc, World.size_drew, World.size_setCell, size_setRow, World.heap_drewN, List.length_append]) <;> omega)) | with_reducible refine Below.drew ?_ | (with_reducible refine below_drewN' ?_ _) | exact Below.refl _ _)))) (by (repeat (first | (refine heap_at _ _ _ ?_; ((try simp only [plus_size, World.size_alloc, World.size_drew, World.size_setCell, size_setRow, World.heap_drewN, List.length_append]) <;> omega)) | (refine heap_past' ?_ ?_; ((try simp only [plus_size, World.size_alloc, World.size_drew, World.size_setCell, size_setRow, World.heap_drewN, List.length_append]) <;> omega)) | (refine heap_plus' ?_ ?_; ((try simp only [plus_size, World.size_alloc, World.size_drew, World.size_setCell, size_setRow, World.heap_drewN, List.length_append]) <;> omega)) | assumption))) hbT) ?_; rintro e w' ⟨rfl, ht', hW'⟩))
      have hown2 := (hown.kept (show Below wr.heap.size wr (plus wr j d) by (repeat (first | (with_reducible exact Below.refl _ _) | (with_reducible assumption) | (with_reducible refine below_plus' ?_ ?_; ((try simp only [plus_size, World.size_alloc, World.size_drew, World.size_setCell, size_setRow, World.heap_drewN, List.length_append]) <;> omega)) | (with_reducible refine below_alloc' ?_ ?_; ((try simp only [plus_size, World.size_alloc, World.size_drew, World.size_setCell, size_setRow, World.heap_drewN, List.length_append]) <;> omega)) | with_reducible refine Below.drew ?_ | (with_reducible refine below_drewN' ?_ _) | exact Below.refl _ _)))).within hW' (by ((try simp only [plus_size, World.size_alloc, World.size_drew, World.size_setCell, size_setRow, World.heap_drewN, List.length_append]) <;> omega))
      have hb2 := (hW'.2.2.2.2 b (by ((try simp only [plus_size, World.size_alloc, World.size_drew, World.size_setCell, size_setRow, World.heap_drewN, List.length_append]) <;> omega)) (.inr hbT)).trans (show (plus wr j d).heap[b]? = some (.cells #[vt] 37) by (repeat (first | (refine heap_at _ _ _ ?_; ((try simp only [plus_size, World.size_alloc, World.size_drew, World.size_setCell, size_setRow, World.heap_drewN, List.length_append]) <;> omega)) | (refine heap_past' ?_ ?_; ((try simp only [plus_size, World.size_alloc, World.size_drew, World.size_setCell, size_setRow, World.heap_drewN, List.length_append]) <;> omega)) | (refine heap_plus' ?_ ?_; ((try simp only [plus_size, World.size_alloc, World.size_drew, World.size_setCell, size_setRow, World.heap_drewN, List.length_append]) <;> omega)) | assumption)))
      have hW2 := (hW.trans (Within.of_below (show Below wr.heap.size wr (plus wr j d) by (repeat (first | (with_reducible exact Below.refl _ _) | (with_reducible assumption) | (with_reducible refine below_plus' ?_ ?_; ((try simp only [plus_size, World.size_alloc, World.size_drew, World.size_setCell, size_setRow, World.heap_drewN, List.length_append]) <;> omega)) | (with_reducible refine below_alloc' ?_ ?_; ((try simp only [plus_size, World.size_alloc, World.size_drew, World.size_setCell, size_setRow, World.heap_drewN, List.length_append]) <;> omega)) | with_reducible refine Below.drew ?_ | (with_reducible refine below_drewN' ?_ _) | exact Below.refl _ _))))).trans hW'
      have d1 := hown2.cell (i := p) (by rw [lstOf_length]; omega)
      have d2 := hown2.cell (i := p + 1) (by rw [lstOf_length]; omega)
      rw [nth_lstOf (by omega)] at d1 d2
      rw [hsx] at d1
      rw [hsy] at d2
      have f1 := hown2.free p
      have f2 := hown2.free (p + 1)
      have hgl2 := (hown2.lt g rfl).2
      have hgw : w.heap.size < g := by simp only [World.size_alloc] at hgb; omega
      clear hown ht hb hW hW' c1 c2 hgl hgb
      go_wp2
      go_region
      go_wp2
      refine ⟨⟨k + 1, by omega, by go_num, ?_, ?_, ?_, ?_⟩, ?_⟩
      · have e := (hown2.set p (sy : Int)).set (p + 1) (sx : Int)
        rw [← hsx, ← hsy, lstOf_set, lstOf_set, swap_steps2, HS.out, hsx, hsy] at e
        exact own_heap rfl e
      · rw [HC.out, hsx, hsy]
        exact ht'.within0 (within_two w' _ g p (p + 1) _ _) (.inl (by omega))
      · exact ((within_two w' _ g p (p + 1) _ _).2.2.2.2 b (lt_of_block hb2) (.inl (by omega))).trans hb2
      · exact hW2.then_below (((within_two w' _ g p (p + 1) _ _).below (by omega)).mono (by omega))
      · simp [intOf]; omega
    · obtain rfl : k = xs.length := by omega
      go_wp2
      go_ret
      exact ⟨⟨_, rfl⟩, ht, hb, hW⟩
end Go.Proofs.YtgkpdklkeajipaaGreatDoor
