/- Noughts at both ends taken away, by the reference. Conditions: as each theorem says. -/
import Derived.Test.YtcipdgmimmngoaaZe
import Derived.Test.YtcipdgmimmngoaaI3
namespace Go.Proofs.Ytcipdgmimmngoaa
open Go.RowKit
set_option linter.unusedSimpArgs false
set_option linter.unusedVariables false
open Go.RowKit
set_option maxHeartbeats 400000 in
theorem l01Own_any (v : Value) (xs : List Int) (w : World) (h : reads w v xs) (hlen : xs.length ≤ 1000000000) : Calls Try.prog 50 #[v] w (RetInts 2 w xs) := by
  have Hr := Lib.hid (fun w' (hb : Below w.heap.size w w') => h.kept hb)
  clear h
  go_enter Try.func50, Try.ntmps50
  go_wp2_with (first | (at_builtin; go_loud (refine wpList_appendL rfl _ _ 22 rfl 2 Try.underlying22 infoI w.heap.size _ _ [] xs rfl rfl (own_made (Nat.le_refl _) (by decide) rfl) (Hr.out _ (by (repeat (first | (with_reducible exact Below.refl _ _) | (with_reducible assumption) | (with_reducible refine below_plus' ?_ ?_; ((try simp only [plus_size, World.size_alloc, World.size_drew, World.size_setCell, size_setRow, World.heap_drewN, List.length_append]) <;> omega)) | (with_reducible refine below_alloc' ?_ ?_; ((try simp only [plus_size, World.size_alloc, World.size_drew, World.size_setCell, size_setRow, World.heap_drewN, List.length_append]) <;> omega)) | with_reducible refine Below.drew ?_ | (with_reducible refine below_drewN' ?_ _) | exact Below.refl _ _)))) (by simp; omega) (by ((try simp only [plus_size, World.size_alloc, World.size_drew, World.size_setCell, size_setRow, World.heap_drewN, List.length_append]) <;> omega)) ?_; intro v' w' hown' hgr hB; replace hB := Below.trans (show Below w.heap.size w _ by (repeat (first | (with_reducible exact Below.refl _ _) | (with_reducible assumption) | (with_reducible refine below_plus' ?_ ?_; ((try simp only [plus_size, World.size_alloc, World.size_drew, World.size_setCell, size_setRow, World.heap_drewN, List.length_append]) <;> omega)) | (with_reducible refine below_alloc' ?_ ?_; ((try simp only [plus_size, World.size_alloc, World.size_drew, World.size_setCell, size_setRow, World.heap_drewN, List.length_append]) <;> omega)) | with_reducible refine Below.drew ?_ | (with_reducible refine below_drewN' ?_ _) | exact Below.refl _ _))) hB; obtain ⟨j, d, rfl⟩ := plus_of_below hB; clear hB hgr)))
  go_ret
  exact ⟨_, rfl, by (repeat (first | (with_reducible exact Below.refl _ _) | (with_reducible assumption) | (with_reducible refine below_plus' ?_ ?_; ((try simp only [plus_size, World.size_alloc, World.size_drew, World.size_setCell, size_setRow, World.heap_drewN, List.length_append]) <;> omega)) | (with_reducible refine below_alloc' ?_ ?_; ((try simp only [plus_size, World.size_alloc, World.size_drew, World.size_setCell, size_setRow, World.heap_drewN, List.length_append]) <;> omega)) | with_reducible refine Below.drew ?_ | (with_reducible refine below_drewN' ?_ _) | exact Below.refl _ _)), by simpa using hown'⟩
theorem retI_form {e : TypeId} {w w' : World} {xs : List Int} {en : Ending} (h : RetInts e w xs en w') : ∃ v, en = .returned v ∧ Below w.heap.size w w' ∧ own e w' w.heap.size v xs := h
theorem own.cap {e : TypeId} {w : World} {B : Nat} {ao : Option Addr} {n co : Nat} {xs : List Int} (h : own e w B (.slice ao n co) xs) : xs.length ≤ co := by
  rcases h.2 with ⟨h1, h2⟩ | ⟨g, cap, cur, h1, _, _, h2, _⟩
  · omega
  · cases h1; exact h2
theorem reads_part {w : World} {b q n ca a m : Nat} {xs : List Int} (h : reads w (.slice (some ⟨b, q, none⟩) n ca) xs) (hm : a + m ≤ n) (c' : Nat) (h0 : 0 < m) : reads w (.slice (some ⟨b, q + a, none⟩) m c') ((xs.drop a).take m) := by
  obtain ⟨p, c, hv, h⟩ := h
  cases hv
  have hlen : ((xs.drop a).take m).length = m := by rw [List.length_take, List.length_drop]; omega
  refine ⟨_, _, by rw [hlen], ?_⟩
  obtain ⟨b', q', e, mm⟩ := h.resolve_left (fun e => by rw [e] at hm; simp at hm; omega)
  cases e
  refine .inr ⟨b, q + a, rfl, fun i hi => ?_⟩
  rw [hlen] at hi
  rw [nth_take hi, nth_drop, show q + a + i = q + (a + i) by omega]
  exact mm (a + i) (by omega)
set_option maxHeartbeats 2000000 in
theorem l05Trim_any (low : Int) (a0 : Option Addr) (c0 : Nat) (xs : List Int) (w : World) (h : reads w (.slice a0 xs.length c0) xs) (hc0 : xs.length ≤ c0) (hlen : xs.length ≤ 100000) (hl1 : -100000 ≤ low) (hl2 : low ≤ 100000) : Calls Try.prog 39 #[.int .i64 low, .slice a0 xs.length c0] w (RetB 2 w (trimLow low xs) (trimLst xs)) := by
  have H0 := Lib.hid h
  obtain ⟨a, c, hv, h⟩ := h
  simp only [Value.slice.injEq, true_and] at hv
  obtain ⟨rfl, rfl⟩ := hv
  have Hr := Lib.hid (show 0 < xs.length → ∃ b o, a0 = some ⟨b, o, none⟩ ∧ b < w.heap.size ∧ ∀ i, i < xs.length → w.cell? ⟨b, o + i, none⟩ = some (.int .i64 (nth xs i)) from fun hp => by
    rcases h with h | ⟨b, o, rfl, m⟩
    · rw [h] at hp; cases hp
    · exact ⟨b, o, rfl, World.block_lt_of_cell? w _ (m 0 hp), m⟩)
  clear h
  go_enter Try.func39, Try.ntmps39
  go_wp2
  go_loop [6] (fun sl => ∃ m : Nat, m ≤ xs.length ∧ sl = .int .i64 m ∧ Hid (∀ i, m ≤ i → nth xs i = 0)) (fun sl => (intOf sl).toNat)
  case atStart => exact ⟨xs.length, Nat.le_refl _, rfl, Lib.hid (fun i hi => nth_over hi)⟩
  case round =>
    obtain ⟨m, hm, rfl, HB⟩ := hrel
    rcases Nat.eq_zero_or_pos m with rfl | hm0
    · have HT := Lib.hid (trim_is (low := low) (xs := xs) (a := 0) (m := 0) (fun i hi => by omega) (fun i hi => HB.out i (by omega)) (.inl rfl))
      clear Hr
      go_wp2
      go_loop [5] (fun sl => sl = .int .i64 0) (fun _ => 0)
      case atStart => exact by go_num
      case round =>
        obtain rfl := hrel
        go_wp2
        refine bodyPost_ret (v := .agg #[.int .i64 0, .slice none 0 0]) (by simp [results, Try.results39, go_sem]) rfl ?_
        exact ⟨_, by rw [HT.out.1, if_pos trivial], by (repeat (first | (with_reducible exact Below.refl _ _) | (with_reducible assumption) | (with_reducible refine below_plus' ?_ ?_; ((try simp only [plus_size, World.size_alloc, World.size_drew, World.size_setCell, size_setRow, World.heap_drewN, List.length_append]) <;> omega)) | (with_reducible refine below_alloc' ?_ ?_; ((try simp only [plus_size, World.size_alloc, World.size_drew, World.size_setCell, size_setRow, World.heap_drewN, List.length_append]) <;> omega)) | with_reducible refine Below.drew ?_ | (with_reducible refine below_drewN' ?_ _) | exact Below.refl _ _)), by rw [HT.out.2]; simpa using own_nil _ _ _⟩
    · obtain ⟨b, o, rfl, hbk, mm⟩ := Hr.out (by omega)
      obtain ⟨p, rfl⟩ : ∃ p, m = p + 1 := ⟨m - 1, by omega⟩
      have hm1 : (0 : Int) < ((p + 1 : Nat) : Int) := by omega
      have hp : p < xs.length := by omega
      have hw1 : ((p + 1 : Nat) : Int) - 1 = p := by omega
      have g1 := mm p hp
      have HM := Lib.hid mm
      clear mm Hr
      by_cases hy : nth xs p = 0
      · have HY := Lib.hid hy
        rw [hy] at g1
        clear hy
        go_wp2
        refine ⟨⟨p, by omega, rfl, Lib.hid (fun i hi => ?_)⟩, by simp [intOf]⟩
        by_cases e : i = p
        · rw [e]; exact HY.out
        · exact HB.out i (by omega)
      · have hyb : (nth xs p == 0) = false := by simp [hy]
        have HY := Lib.hid hy
        clear hy
        go_wp2
        go_loop [5] (fun sl => ∃ a : Nat, a ≤ p ∧ sl = .int .i64 a ∧ Hid (∀ i, i < a → nth xs i = 0)) (fun sl => p + 1 - (intOf sl).toNat)
        case atStart => exact ⟨0, by omega, by go_num, Lib.hid (fun i hi => by omega)⟩
        case round =>
          clear g1 hyb
          obtain ⟨a, ha, rfl, HZ⟩ := hrel
          have g2 := HM.out a (by omega)
          have ha1 : (a : Int) < ((p + 1 : Nat) : Int) := by omega
          by_cases hx : nth xs a = 0
          · have HX := Lib.hid hx
            have hap : a ≠ p := fun e => by rw [e] at hx; exact HY.out hx
            rw [hx] at g2
            clear hx
            go_wp2
            refine ⟨⟨a + 1, by omega, by go_num, Lib.hid (fun i hi => ?_)⟩, by simp [intOf]; omega⟩
            by_cases e : i = a
            · rw [e]; exact HX.out
            · exact HZ.out i (by omega)
          · have hxb : (nth xs a == 0) = false := by simp [hx]
            have HT := Lib.hid (trim_is (low := low) (xs := xs) (a := a) (m := p + 1 - a) HZ.out (fun i hi => HB.out i (by omega)) (.inr ⟨hx, by rw [show a + (p + 1 - a) - 1 = p by omega]; exact HY.out⟩))
            have hne : ((a : Int) == ((p + 1 : Nat) : Int)) = false := beq_eq_false_iff_ne.2 (by omega)
            have HC := Lib.hid (fun w' (hb : Below w.heap.size w w') => l01Own_any _ ((xs.drop a).take (p + 1 - a)) w' ((reads_part H0.out (a := a) (m := p + 1 - a) (by omega) (c0 - a) (by omega)).kept hb) (by rw [List.length_take]; omega))
            generalize (xs.drop a).take (p + 1 - a) = R at HC HT
            clear hx
            go_wp2_with (first | (go_at_call 50; refine Calls.mono (HC.out _ ?_) ?_; (repeat (first | (with_reducible exact Below.refl _ _) | (with_reducible assumption) | (with_reducible refine below_plus' ?_ ?_; ((try simp only [plus_size, World.size_alloc, World.size_drew, World.size_setCell, size_setRow, World.heap_drewN, List.length_append]) <;> omega)) | (with_reducible refine below_alloc' ?_ ?_; ((try simp only [plus_size, World.size_alloc, World.size_drew, World.size_setCell, size_setRow, World.heap_drewN, List.length_append]) <;> omega)) | with_reducible refine Below.drew ?_ | (with_reducible refine below_drewN' ?_ _) | exact Below.refl _ _)); intro e w' hh; obtain ⟨vG, rfl, hB, hoG⟩ := retI_form hh; clear hh; have hrG := hoG.reads; obtain ⟨aG, cG, rfl⟩ := readsL_form hrG; obtain ⟨j, d, rfl⟩ := plus_of_below hB; clear hB))
            refine bodyPost_ret (v := .agg #[.int .i64 (low + a), .slice aG R.length cG]) (by simp [results, Try.results39, go_sem]) rfl ?_
            refine ⟨_, by rw [HT.out.1, if_neg (by omega)], by (repeat (first | (with_reducible exact Below.refl _ _) | (with_reducible assumption) | (with_reducible refine below_plus' ?_ ?_; ((try simp only [plus_size, World.size_alloc, World.size_drew, World.size_setCell, size_setRow, World.heap_drewN, List.length_append]) <;> omega)) | (with_reducible refine below_alloc' ?_ ?_; ((try simp only [plus_size, World.size_alloc, World.size_drew, World.size_setCell, size_setRow, World.heap_drewN, List.length_append]) <;> omega)) | with_reducible refine Below.drew ?_ | (with_reducible refine below_drewN' ?_ _) | exact Below.refl _ _)), ?_⟩
            rw [HT.out.2]
            exact own_farG hoG (by ((try simp only [plus_size, World.size_alloc, World.size_drew, World.size_setCell, size_setRow, World.heap_drewN, List.length_append]) <;> omega)) (by ((try simp only [plus_size, World.size_alloc, World.size_drew, World.size_setCell, size_setRow, World.heap_drewN, List.length_append]) <;> omega)) (by ((try simp only [plus_size, World.size_alloc, World.size_drew, World.size_setCell, size_setRow, World.heap_drewN, List.length_append]) <;> omega)) (by (repeat (first | (with_reducible exact List.prefix_rfl) | (with_reducible exact List.nil_prefix) | (refine List.IsPrefix.trans ?_ (List.prefix_append _ _)))))
end Go.Proofs.Ytcipdgmimmngoaa
