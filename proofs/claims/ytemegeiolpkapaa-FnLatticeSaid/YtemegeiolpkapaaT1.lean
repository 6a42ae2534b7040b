/- Descending pairs of a simple braid, and how many they are. Conditions: as each theorem says. -/
import Derived.Test.YtemegeiolpkapaaS1
import Derived.Test.YtemegeiolpkapaaP3
import Derived.Test.YtemegeiolpkapaaIn
namespace Go.Proofs.Ytemegeiolpkapaa
open Go.RowKit
set_option linter.unusedSimpArgs false
set_option linter.unusedVariables false
set_option maxHeartbeats 400000 in
theorem descents_any (s : Nat → Nat) (n : Nat) (w : World) (h2 : n ≤ 8) : Calls Try.prog 76 #[.agg (arrF .u8 8 (up s)), .int .i64 n] w fun e w' => e = .returned (.int .u64 ((desK s n : Nat) : Int)) ∧ Below w.heap.size w w' := by
  go_enter Try.func76, Try.ntmps76
  go_wp2
  go_loopw [9, 5] (fun sl sb wr => ∃ y d : Nat, y ≤ n ∧ sl = .int .i64 y ∧ sb = .int .u64 ((desK s y : Nat) : Int) ∧ wr = plus (w.alloc (.cells (arrF .u8 8 (up s)) 25)) [] d) (fun sl _ _ => n - (intOf sl).toNat)
  case atStart => exact ⟨0, _, by omega, rfl, rfl, (plus_nil _).symm⟩
  case round =>
    obtain ⟨y, d, hy, rfl, rfl, rfl⟩ := hrel
    by_cases hlt : y < n
    · have hy8 : y < 8 := by omega
      go_wp2
      go_loopw [13, 5] (fun sl sb wr => ∃ x d : Nat, x ≤ y ∧ sl = .int .i64 x ∧ sb = .int .u64 ((desIn s y (desK s y) x : Nat) : Int) ∧ wr = plus (w.alloc (.cells (arrF .u8 8 (up s)) 25)) [] d) (fun sl _ _ => y - (intOf sl).toNat)
      case atStart => exact ⟨0, _, by omega, rfl, rfl, rfl⟩
      case round =>
        obtain ⟨x, d, hx, rfl, rfl, rfl⟩ := hrel
        by_cases hlx : x < y
        · have hx8 : x < 8 := by omega
          have hb := desIn_lt s hy8 hx
          by_cases hd : s y < s x
          · go_wp2
            go_quiet (fail)
            go_wp2
            go_roundw
            case rel => exact ⟨x + 1, _, by omega, by go_num, by rw [desIn_yes hd], rfl⟩
            case measure => simp [intOf]; omega
          · go_wp2
            go_quiet (fail)
            go_wp2
            go_roundw
            case rel => exact ⟨x + 1, _, by omega, by go_num, by rw [desIn_no hd], rfl⟩
            case measure => simp [intOf]; omega
        · obtain rfl : x = y := by omega
          go_wp2
          go_roundw
          case rel => exact ⟨x + 1, _, by omega, by go_num, by rw [desK_succ], rfl⟩
          case measure => simp [intOf]; omega
    · obtain rfl : y = n := by omega
      go_wp2
      go_ret
      exact ⟨rfl, by (repeat (first | (with_reducible exact Below.refl _ _) | (with_reducible assumption) | (with_reducible refine below_plus' ?_ ?_; ((try simp only [plus_size, World.size_alloc, World.size_drew, World.size_setCell, size_setRow, World.heap_drewN, List.length_append]) <;> omega)) | (with_reducible refine below_alloc' ?_ ?_; ((try simp only [plus_size, World.size_alloc, World.size_drew, World.size_setCell, size_setRow, World.heap_drewN, List.length_append]) <;> omega)) | with_reducible refine Below.drew ?_ | (with_reducible refine below_drewN' ?_ _) | exact Below.refl _ _))⟩
set_option maxHeartbeats 400000 in
theorem lengthOf_any (s : Nat → Nat) (n : Nat) (w : World) (h2 : n ≤ 8) : Calls Try.prog 43 #[.agg (arrF .u8 8 (up s)), .int .i64 n] w fun e w' => e = .returned (.int .i64 ((lenK s n : Nat) : Int)) ∧ Below w.heap.size w w' := by
  have hl := lenK_le s h2
  have Hp := Lib.hid (pc_des s h2)
  have Hd := Lib.hid (desK_lt s h2)
  go_enter Try.func43, Try.ntmps43
  go_wp2_with (first | (go_at_call 76; refine (descents_any _ _ _ h2).mono ?_; rintro e w' ⟨rfl, hB⟩; obtain ⟨j, d, rfl⟩ := plus_of_below hB; clear hB) | ((with_reducible apply wpList_load_arr rfl 25 _ rfl _ rfl 8 5 Try.underlying25 info25); (repeat (first | (refine heap_at _ _ _ ?_; ((try simp only [plus_size, World.size_alloc, World.size_drew, World.size_setCell, size_setRow, World.heap_drewN, List.length_append]) <;> omega)) | (refine heap_past' ?_ ?_; ((try simp only [plus_size, World.size_alloc, World.size_drew, World.size_setCell, size_setRow, World.heap_drewN, List.length_append]) <;> omega)) | (refine heap_plus' ?_ ?_; ((try simp only [plus_size, World.size_alloc, World.size_drew, World.size_setCell, size_setRow, World.heap_drewN, List.length_append]) <;> omega)) | assumption)); (simp only [arrF_size, arrO_size])))
  go_loop [6, 5] (fun sb sc => ∃ b c : Nat, b < 18446744073709551616 ∧ c + pc b = lenK s n ∧ sb = .int .u64 b ∧ sc = .int .i64 c) (fun sb _ => (intOf sb).toNat)
  case atStart => exact ⟨_, 0, Hd.out, by rw [Hp.out]; omega, rfl, rfl⟩
  case round =>
    obtain ⟨b, c, hb, hc, rfl, rfl⟩ := hrel
    by_cases h0 : b = 0
    · subst h0
      rw [pc_zero] at hc
      obtain rfl : c = lenK s n := by omega
      go_wp2
      go_ret
      exact ⟨rfl, by (repeat (first | (with_reducible exact Below.refl _ _) | (with_reducible assumption) | (with_reducible refine below_plus' ?_ ?_; ((try simp only [plus_size, World.size_alloc, World.size_drew, World.size_setCell, size_setRow, World.heap_drewN, List.length_append]) <;> omega)) | (with_reducible refine below_alloc' ?_ ?_; ((try simp only [plus_size, World.size_alloc, World.size_drew, World.size_setCell, size_setRow, World.heap_drewN, List.length_append]) <;> omega)) | with_reducible refine Below.drew ?_ | (with_reducible refine below_drewN' ?_ _) | exact Below.refl _ _))⟩
    · have hb0 : 0 < b := by omega
      have h3 := pc_low hb0 hb
      have h4 := lowC_lt hb0
      have hc64 : c ≤ 64 := by omega
      go_wp2
      go_round
      case rel => exact ⟨lowC b, c + 1, by omega, by omega, rfl, by go_num⟩
      case measure => simp [intOf]; omega
set_option maxHeartbeats 400000 in
theorem l02Length_any (s : Nat → Nat) (n : Nat) (w : World) (h2 : n ≤ 8) : Calls Try.prog 45 #[.agg (arrF .u8 8 (up s)), .int .i64 n] w fun e w' => e = .returned (.int .i64 ((lenK s n : Nat) : Int)) ∧ Below w.heap.size w w' := by
  go_enter Try.func45, Try.ntmps45
  go_wp2
  go_loopw [6, 5] (fun sl sb wr => ∃ x d : Nat, x ≤ n ∧ sl = .int .i64 x ∧ sb = .int .i64 ((rowK s n x : Nat) : Int) ∧ wr = plus (w.alloc (.cells (arrF .u8 8 (up s)) 25)) [] d) (fun sl _ _ => n - (intOf sl).toNat)
  case atStart => exact ⟨0, _, by omega, rfl, rfl, (plus_nil _).symm⟩
  case round =>
    obtain ⟨x, d, hx, rfl, rfl, rfl⟩ := hrel
    by_cases hlt : x < n
    · have hx8 : x < 8 := by omega
      go_wp2
      go_loopw [7, 5] (fun sl sb wr => ∃ k d : Nat, x + 1 ≤ k ∧ k ≤ n ∧ sl = .int .i64 k ∧ sb = .int .i64 ((cntK s n x k : Nat) : Int) ∧ wr = plus (w.alloc (.cells (arrF .u8 8 (up s)) 25)) [] d) (fun sl _ _ => n - (intOf sl).toNat)
      case atStart => exact ⟨x + 1, _, by omega, by omega, by go_num, by rw [rowK_start], rfl⟩
      case round =>
        obtain ⟨k, d, hk1, hk, rfl, rfl, rfl⟩ := hrel
        by_cases hlk : k < n
        · have hk8 : k < 8 := by omega
          have hb := cntK_le (s := s) (k := k) h2 hx8 (by omega)
          by_cases hd : s k < s x
          · go_wp2
            go_quiet (fail)
            go_wp2
            go_roundw
            case rel => exact ⟨k + 1, _, by omega, by omega, by go_num, by rw [← cntK_yes hk1 hd]; go_num, rfl⟩
            case measure => simp [intOf]; omega
          · go_wp2
            go_quiet (fail)
            go_wp2
            go_roundw
            case rel => exact ⟨k + 1, _, by omega, by omega, by go_num, by rw [cntK_no hd], rfl⟩
            case measure => simp [intOf]; omega
        · obtain rfl : k = n := by omega
          go_wp2
          go_roundw
          case rel => exact ⟨x + 1, _, by omega, by go_num, by rw [rowK_end], rfl⟩
          case measure => simp [intOf]; omega
    · obtain rfl : x = n := by omega
      go_wp2
      go_ret
      exact ⟨by rw [rowK_all]; rfl, by (repeat (first | (with_reducible exact Below.refl _ _) | (with_reducible assumption) | (with_reducible refine below_plus' ?_ ?_; ((try simp only [plus_size, World.size_alloc, World.size_drew, World.size_setCell, size_setRow, World.heap_drewN, List.length_append]) <;> omega)) | (with_reducible refine below_alloc' ?_ ?_; ((try simp only [plus_size, World.size_alloc, World.size_drew, World.size_setCell, size_setRow, World.heap_drewN, List.length_append]) <;> omega)) | with_reducible refine Below.drew ?_ | (with_reducible refine below_drewN' ?_ _) | exact Below.refl _ _))⟩
set_option maxHeartbeats 400000 in
theorem l02Within_any (a b : Nat → Nat) (n : Nat) (w : World) (h2 : n ≤ 8) : Calls Try.prog 77 #[.agg (arrF .u8 8 (up a)), .agg (arrF .u8 8 (up b)), .int .i64 n] w fun e w' => e = .returned (.bool (withK a b n)) ∧ Below w.heap.size w w' := by
  go_enter Try.func77, Try.ntmps77
  go_wp2
  go_loopw [7] (fun sl wr => ∃ x d : Nat, x ≤ n ∧ sl = .int .i64 x ∧ wr = plus ((w.alloc (.cells (arrF .u8 8 (up a)) 25)).alloc (.cells (arrF .u8 8 (up b)) 25)) [] d ∧ Hid (∀ x' y, x' < x → x' < y → y < n → a y < a x' → ¬ b x' < b y)) (fun sl _ => n - (intOf sl).toNat)
  case atStart => exact ⟨0, _, by omega, rfl, (plus_nil _).symm, Lib.hid (fun x' y h => by omega)⟩
  case round =>
    obtain ⟨x, d, hx, rfl, rfl, H⟩ := hrel
    by_cases hlt : x < n
    · have hx8 : x < 8 := by omega
      go_wp2
      go_loopw [8] (fun sl wr => ∃ k d : Nat, x + 1 ≤ k ∧ k ≤ n ∧ sl = .int .i64 k ∧ wr = plus ((w.alloc (.cells (arrF .u8 8 (up a)) 25)).alloc (.cells (arrF .u8 8 (up b)) 25)) [] d ∧ Hid (∀ y, x < y → y < k → a y < a x → ¬ b x < b y)) (fun sl _ => n - (intOf sl).toNat)
      case atStart => exact ⟨x + 1, _, by omega, by omega, by go_num, rfl, Lib.hid (fun y h h' => by omega)⟩
      case round =>
        obtain ⟨k, d, hk1, hk, rfl, rfl, H2⟩ := hrel
        by_cases hlk : k < n
        · have hk8 : k < 8 := by omega
          by_cases hd : a k < a x
          · by_cases he : b x < b k
            · have HR := Lib.hid (withK_no hk1 hlk hd he)
              go_wp2
              go_quiet (fail)
              go_wp2
              go_ret
              exact ⟨by rw [HR.out]; rfl, by (repeat (first | (with_reducible exact Below.refl _ _) | (with_reducible assumption) | (with_reducible refine below_plus' ?_ ?_; ((try simp only [plus_size, World.size_alloc, World.size_drew, World.size_setCell, size_setRow, World.heap_drewN, List.length_append]) <;> omega)) | (with_reducible refine below_alloc' ?_ ?_; ((try simp only [plus_size, World.size_alloc, World.size_drew, World.size_setCell, size_setRow, World.heap_drewN, List.length_append]) <;> omega)) | with_reducible refine Below.drew ?_ | (with_reducible refine below_drewN' ?_ _) | exact Below.refl _ _))⟩
            · go_wp2
              go_quiet (fail)
              go_wp2
              go_roundw
              case rel => exact ⟨k + 1, _, by omega, by omega, by go_num, rfl, Lib.hid (fun y h h' ha => by by_cases e : y = k; (· subst e; exact he); (· exact H2.out y h (by omega) ha))⟩
              case measure => simp [intOf]; omega
          · go_wp2
            go_quiet (fail)
            go_wp2
            go_roundw
            case rel => exact ⟨k + 1, _, by omega, by omega, by go_num, rfl, Lib.hid (fun y h h' ha => by by_cases e : y = k; (· subst e; exact absurd ha hd); (· exact H2.out y h (by omega) ha))⟩
            case measure => simp [intOf]; omega
        · obtain rfl : k = n := by omega
          go_wp2
          go_roundw
          case rel => exact ⟨x + 1, _, by omega, by go_num, rfl, Lib.hid (fun x' y h h' h3 ha => by by_cases e : x' = x; (· subst e; exact H2.out y h' h3 ha); (· exact H.out x' y (by omega) h' h3 ha))⟩
          case measure => simp [intOf]; omega
    · obtain rfl : x = n := by omega
      have HR := Lib.hid (withK_yes H.out)
      go_wp2
      go_ret
      exact ⟨by rw [HR.out]; rfl, by (repeat (first | (with_reducible exact Below.refl _ _) | (with_reducible assumption) | (with_reducible refine below_plus' ?_ ?_; ((try simp only [plus_size, World.size_alloc, World.size_drew, World.size_setCell, size_setRow, World.heap_drewN, List.length_append]) <;> omega)) | (with_reducible refine below_alloc' ?_ ?_; ((try simp only [plus_size, World.size_alloc, World.size_drew, World.size_setCell, size_setRow, World.heap_drewN, List.length_append]) <;> omega)) | with_reducible refine Below.drew ?_ | (with_reducible refine below_drewN' ?_ _) | exact Below.refl _ _))⟩
end Go.Proofs.Ytemegeiolpkapaa
