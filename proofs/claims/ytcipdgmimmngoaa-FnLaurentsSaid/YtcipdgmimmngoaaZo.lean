/- Sums of products, by the reference. Conditions: as each theorem says. -/
import Derived.Test.YtcipdgmimmngoaaZn
import Derived.Test.YtcipdgmimmngoaaZh
import Derived.BigQuiet
namespace Go.Proofs.Ytcipdgmimmngoaa
open Go.RowKit
set_option linter.unusedSimpArgs false
set_option linter.unusedVariables false
open Go.RowKit
theorem tq (a : Int) : a = a.tdiv 1000000 * 1000000 + a.tmod 1000000 ∧ -1000000 < a.tmod 1000000 ∧ a.tmod 1000000 < 1000000 := by
  have h := Int.mul_tdiv_add_tmod a 1000000
  rcases Int.le_total 0 a with h0 | h0
  · have h1 := Int.tmod_nonneg 1000000 h0
    have h2 := Int.tmod_lt_of_pos a (b := 1000000) (by decide)
    omega
  · have e : (-a).tmod 1000000 = -(a.tmod 1000000) := Int.neg_tmod a 1000000
    have h1 := Int.tmod_nonneg 1000000 (show 0 ≤ -a by omega)
    have h2 := Int.tmod_lt_of_pos (-a) (b := 1000000) (by decide)
    omega
theorem split_ab {a b x y u v : Int} (ha : a = x * 1000000 + y) (hb : b = u * 1000000 + v) : a * b = x * u * 1000000000000 + (x * v + y * u) * 1000000 + y * v := by
  have e1 : x * 1000000 * (u * 1000000) = x * u * 1000000000000 := by
    rw [← Int.mul_assoc, Int.mul_right_comm x 1000000 u]; omega
  have e2 : x * 1000000 * v = x * v * 1000000 := Int.mul_right_comm x 1000000 v
  have e3 : y * (u * 1000000) = y * u * 1000000 := (Int.mul_assoc y u 1000000).symm
  rw [ha, hb, Int.add_mul, Int.mul_add, Int.mul_add, e1, e2, e3]
  omega
theorem mul_6 {a b : Int} (ha0 : -1000000 ≤ a) (ha : a ≤ 1000000) (hb0 : -1000000 ≤ b) (hb : b ≤ 1000000) : -1000000000000 ≤ a * b ∧ a * b ≤ 1000000000000 := by
  have h1 := Int.mul_nonneg (show 0 ≤ 1000000 - a by omega) (show 0 ≤ 1000000 - b by omega)
  have h2 := Int.mul_nonneg (show 0 ≤ 1000000 + a by omega) (show 0 ≤ 1000000 + b by omega)
  have h3 := Int.mul_nonneg (show 0 ≤ 1000000 - a by omega) (show 0 ≤ 1000000 + b by omega)
  have h4 := Int.mul_nonneg (show 0 ≤ 1000000 + a by omega) (show 0 ≤ 1000000 - b by omega)
  simp only [Int.sub_mul, Int.add_mul, Int.mul_sub, Int.mul_add] at h1 h2 h3 h4
  rw [Int.mul_comm a 1000000] at h1 h2 h3 h4
  omega
/-- the sum of the products of the first n numbers -/
def dotS (xs ys : List Int) : Nat → Int
  | 0 => 0
  | n + 1 => dotS xs ys n + nth xs n * nth ys n
set_option maxHeartbeats 4000000 in
theorem l05Exact_any (v1 v2 : Value) (xs ys : List Int) (w : World) (h1 : reads w v1 xs) (h2 : reads w v2 ys) (hlen : ys.length = xs.length) (hl : xs.length ≤ 2001) (ha1 : allC xs = true) (ha2 : allC ys = true) : Calls Try.prog 38 #[v1, v2] w fun e w' => (∃ r : Int, e = .returned (.tuple #[.int .i64 r, .bool (inB (dotS xs ys xs.length) (-1000000000000) 1000000000000)]) ∧ (inB (dotS xs ys xs.length) (-1000000000000) 1000000000000 = true → r = dotS xs ys xs.length)) ∧ Below w.heap.size w w' := by
  have H1 := Lib.hid h1
  have H2 := Lib.hid h2
  have HA1 := Lib.hid ha1
  have HA2 := Lib.hid ha2
  have HLN := Lib.hid hlen
  obtain ⟨a1, c1, rfl⟩ := readsL_form h1
  obtain ⟨a2, c2, rfl⟩ := readsL_form h2
  clear h1 h2 ha1 ha2 hlen
  go_enter Try.func38, Try.ntmps38
  go_wp2
  go_loopw [9, 6, 7, 8] (fun sl sh sm sw wr => ∃ (k : Nat) (H M L : Int) (d : Nat), k ≤ xs.length ∧ sl = .int .i64 k ∧ sh = .int .i64 H ∧ sm = .int .i64 M ∧ sw = .int .i64 L ∧ Hid (H * 1000000000000 + M * 1000000 + L = dotS xs ys k) ∧ -(1000000000000 * (k : Int)) ≤ H ∧ H ≤ 1000000000000 * (k : Int) ∧ -(2000000000000 * (k : Int)) ≤ M ∧ M ≤ 2000000000000 * (k : Int) ∧ -(1000000000000 * (k : Int)) ≤ L ∧ L ≤ 1000000000000 * (k : Int) ∧ wr = plus w [] d) (fun sl _ _ _ _ => xs.length - (intOf sl).toNat)
  case atStart => exact ⟨0, 0, 0, 0, w.drawn, by omega, rfl, rfl, rfl, rfl, Lib.hid (by simp [dotS]), by omega, by omega, by omega, by omega, by omega, by omega, (plus_nil _).symm⟩
  case round =>
    obtain ⟨k, H, M, L, d, hk, rfl, rfl, rfl, rfl, HS, b1, b2, b3, b4, b5, b6, rfl⟩ := hrel
    by_cases hlt : k < xs.length
    · obtain ⟨b, o, rfl, hbk, mm⟩ := reads_cells H1.out (by omega)
      have g1 := mm k hlt
      have hlt2 : k < ys.length := by rw [HLN.out]; exact hlt
      obtain ⟨b', o', rfl, hbk', mm'⟩ := reads_cells H2.out (by omega)
      have g2 := mm' k hlt2
      have n1 := allC_at HA1.out hlt
      have n2 := allC_at HA2.out hlt2
      have t1 := tq (nth xs k)
      have t2 := tq (nth ys k)
      clear mm mm'
      have hlen' := HLN.out
      obtain ⟨x, hx⟩ : ∃ x, (nth xs k).tdiv 1000000 = x := ⟨_, rfl⟩
      obtain ⟨y, hy⟩ : ∃ y, (nth xs k).tmod 1000000 = y := ⟨_, rfl⟩
      obtain ⟨u, hu⟩ : ∃ u, (nth ys k).tdiv 1000000 = u := ⟨_, rfl⟩
      obtain ⟨z, hz⟩ : ∃ z, (nth ys k).tmod 1000000 = z := ⟨_, rfl⟩
      rw [hx, hy] at t1
      rw [hu, hz] at t2
      have HD := Lib.hid (show (H + x * u) * 1000000000000 + (M + x * z + y * u) * 1000000 + (L + y * z) = dotS xs ys (k + 1) by
        rw [dotS, split_ab t1.1 t2.1, ← HS.out]; omega)
      have m1 := mul_6 (a := x) (b := u) (by omega) (by omega) (by omega) (by omega)
      have m2 := mul_6 (a := x) (b := z) (by omega) (by omega) (by omega) (by omega)
      have m3 := mul_6 (a := y) (b := u) (by omega) (by omega) (by omega) (by omega)
      have m4 := mul_6 (a := y) (b := z) (by omega) (by omega) (by omega) (by omega)
      obtain ⟨m1a, m1b⟩ := m1
      obtain ⟨m2a, m2b⟩ := m2
      obtain ⟨m3a, m3b⟩ := m3
      obtain ⟨m4a, m4b⟩ := m4
      have xb : -1000000 ≤ x ∧ x ≤ 1000000 := by omega
      have ub : -1000000 ≤ u ∧ u ≤ 1000000 := by omega
      obtain ⟨xb1, xb2⟩ := xb
      obtain ⟨ub1, ub2⟩ := ub
      obtain ⟨t1a, t1b, t1c⟩ := t1
      obtain ⟨t2a, t2b, t2c⟩ := t2
      have T1 := Lib.hid t1a
      have T2 := Lib.hid t2a
      clear t1a t2a hlen'
      go_upto_region 5 with (fail)
      go_quiet (fail)
      go_wp2
      refine ⟨⟨k + 1, _, _, _, d + nq, by omega, by go_num, rfl, rfl, rfl, HD, by omega, by omega, by omega, by omega, by omega, by omega, rfl⟩, ?_⟩
      simp [intOf]; omega
    · obtain rfl : k = xs.length := by omega
      have t1 := tq L
      obtain ⟨t, ht⟩ : ∃ t, L.tdiv 1000000 = t := ⟨_, rfl⟩
      obtain ⟨r, hr⟩ : ∃ r, L.tmod 1000000 = r := ⟨_, rfl⟩
      rw [ht, hr] at t1
      have t2 := tq (M + t)
      obtain ⟨t', ht'⟩ : ∃ t', (M + t).tdiv 1000000 = t' := ⟨_, rfl⟩
      obtain ⟨m, hm⟩ : ∃ m, (M + t).tmod 1000000 = m := ⟨_, rfl⟩
      rw [ht', hm] at t2
      have HSS := Lib.hid (show (H + t') * 1000000000000 + m * 1000000 + r = dotS xs ys xs.length by rw [← HS.out]; omega)
      obtain ⟨t1a, t1b, t1c⟩ := t1
      obtain ⟨t2a, t2b, t2c⟩ := t2
      have tb1 : -100000000000 ≤ t ∧ t ≤ 100000000000 := by omega
      have tb2 : -100000000000 ≤ t' ∧ t' ≤ 100000000000 := by omega
      obtain ⟨tb1a, tb1b⟩ := tb1
      obtain ⟨tb2a, tb2b⟩ := tb2
      have T1 := Lib.hid t1a
      have T2 := Lib.hid t2a
      clear t1a t2a
      cases hin : inB (H + t') (-3) 3 with
      | false =>
        have HO := Lib.hid (show inB (dotS xs ys xs.length) (-1000000000000) 1000000000000 = false from by
          cases hc : inB (dotS xs ys xs.length) (-1000000000000) 1000000000000 with
          | false => rfl
          | true =>
            have h1 := inB_true hc
            have h2 := HSS.out
            have : inB (H + t') (-3) 3 = true := by simp only [inB, Bool.and_eq_true, decide_eq_true_eq]; omega
            rw [hin] at this; cases this)
        go_wp2_with (first | (go_at_call 52; refine (l01In_any _ _ _ _).mono ?_; rw [hin]; rintro e w' ⟨rfl, rfl⟩))
        go_ret2
        exact ⟨⟨0, by rw [HO.out]; rfl, by rw [HO.out]; intro h; cases h⟩, by (repeat (first | (with_reducible exact Below.refl _ _) | (with_reducible assumption) | (with_reducible refine below_plus' ?_ ?_; ((try simp only [plus_size, World.size_alloc, World.size_drew, World.size_setCell, size_setRow, World.heap_drewN, List.length_append]) <;> omega)) | (with_reducible refine below_alloc' ?_ ?_; ((try simp only [plus_size, World.size_alloc, World.size_drew, World.size_setCell, size_setRow, World.heap_drewN, List.length_append]) <;> omega)) | with_reducible refine Below.drew ?_ | (with_reducible refine below_drewN' ?_ _) | exact Below.refl _ _))⟩
      | true =>
        have hi3 := inB_true hin
        obtain ⟨i3a, i3b⟩ := hi3
        go_wp2_with (first | (go_at_call 52; refine (l01In_any _ _ _ _).mono ?_; rw [hin]; rintro e w' ⟨rfl, rfl⟩) | (go_at_call 52; refine (l01In_any _ _ _ _).mono ?_; rintro e w' ⟨rfl, rfl⟩))
        go_ret2
        exact ⟨⟨(H + t') * 1000000000000 + m * 1000000 + r, by rw [← HSS.out]; rfl, fun _ => HSS.out⟩, by (repeat (first | (with_reducible exact Below.refl _ _) | (with_reducible assumption) | (with_reducible refine below_plus' ?_ ?_; ((try simp only [plus_size, World.size_alloc, World.size_drew, World.size_setCell, size_setRow, World.heap_drewN, List.length_append]) <;> omega)) | (with_reducible refine below_alloc' ?_ ?_; ((try simp only [plus_size, World.size_alloc, World.size_drew, World.size_setCell, size_setRow, World.heap_drewN, List.length_append]) <;> omega)) | with_reducible refine Below.drew ?_ | (with_reducible refine below_drewN' ?_ _) | exact Below.refl _ _))⟩
end Go.Proofs.Ytcipdgmimmngoaa
