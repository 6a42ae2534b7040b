/- Noughts at both ends taken away. Conditions: as each theorem says. -/
import Derived.Test.YtcipdgmimmngoaaZa
namespace Go.Proofs.Ytcipdgmimmngoaa
open Go.RowKit
set_option linter.unusedSimpArgs false
set_option linter.unusedVariables false
open Go.RowKit
/-- a list of integers that stay far inside of 256 bits -/
def Fw (xs : List Int) : Prop := ∀ i, i < xs.length → -57896044618658097711785492504343953926634992332820282019728792003956564819968 ≤ nth xs i ∧ nth xs i < 57896044618658097711785492504343953926634992332820282019728792003956564819968
/-- noughts ahead of the first other number -/
def fzo : List Int → Nat
  | [] => 0
  | x :: xs => if x = 0 then fzo xs + 1 else 0
/-- the place behind the last number that is no nought -/
def lzo : List Int → Nat
  | [] => 0
  | x :: xs => if lzo xs = 0 then (if x = 0 then 0 else 1) else lzo xs + 1
theorem nth_succ (x : Int) (xs : List Int) (i : Nat) : nth (x :: xs) (i + 1) = nth xs i := by simp [nth]
theorem nth_zero (x : Int) (xs : List Int) : nth (x :: xs) 0 = x := by simp [nth]
theorem nth_nil (i : Nat) : nth [] i = 0 := by simp [nth]
theorem nth_over {xs : List Int} {i : Nat} (h : xs.length ≤ i) : nth xs i = 0 := by simp [nth, List.getElem?_eq_none h]
theorem fzo_eq {xs : List Int} {a : Nat} (h1 : ∀ i, i < a → nth xs i = 0) (h2 : nth xs a ≠ 0) : fzo xs = a := by
  induction xs generalizing a with
  | nil => exact absurd (nth_nil a) h2
  | cons x xs ih =>
    cases a with
    | zero => rw [nth_zero] at h2; simp [fzo, h2]
    | succ a =>
      have h0 := h1 0 (by omega)
      rw [nth_zero] at h0
      rw [nth_succ] at h2
      have := ih (a := a) (fun i hi => by rw [← nth_succ x]; exact h1 (i + 1) (by omega)) h2
      simp [fzo, h0, this]
theorem lzo_zero {xs : List Int} (h : ∀ i, nth xs i = 0) : lzo xs = 0 := by
  induction xs with
  | nil => rfl
  | cons x xs ih =>
    have h0 := h 0
    rw [nth_zero] at h0
    have := ih (fun i => by rw [← nth_succ x]; exact h (i + 1))
    simp [lzo, this, h0]
theorem lzo_eq {xs : List Int} {p : Nat} (h1 : ∀ i, p + 1 ≤ i → nth xs i = 0) (h2 : nth xs p ≠ 0) : lzo xs = p + 1 := by
  induction xs generalizing p with
  | nil => exact absurd (nth_nil p) h2
  | cons x xs ih =>
    cases p with
    | zero =>
      rw [nth_zero] at h2
      have : lzo xs = 0 := lzo_zero fun i => by rw [← nth_succ x]; exact h1 (i + 1) (by omega)
      simp [lzo, this, h2]
    | succ p =>
      rw [nth_succ] at h2
      have := ih (p := p) (fun i hi => by rw [← nth_succ x]; exact h1 (i + 1) (by omega)) h2
      simp [lzo, this]
/-- a polynomial without noughts at its ends -/
def trimLow (low : Int) (xs : List Int) : Int := if lzo xs = 0 then 0 else low + fzo xs
def trimLst (xs : List Int) : List Int := if lzo xs = 0 then [] else (xs.drop (fzo xs)).take (lzo xs - fzo xs)
theorem trim_is {low : Int} {xs : List Int} {a m : Nat} (h1 : ∀ i, i < a → nth xs i = 0) (h2 : ∀ i, a + m ≤ i → nth xs i = 0) (h3 : m = 0 ∨ (nth xs a ≠ 0 ∧ nth xs (a + m - 1) ≠ 0)) : trimLow low xs = (if m = 0 then 0 else low + a) ∧ trimLst xs = (xs.drop a).take m := by
  by_cases hm : m = 0
  · subst hm
    have : lzo xs = 0 := lzo_zero fun i => by
      by_cases hi : i < a
      · exact h1 i hi
      · exact h2 i (by omega)
    simp [trimLow, trimLst, this]
  · obtain ⟨h3, h4⟩ := h3.resolve_left hm
    have e1 := fzo_eq h1 h3
    have e2 : lzo xs = a + m := by
      have := lzo_eq (xs := xs) (p := a + m - 1) (fun i hi => h2 i (by omega)) h4
      omega
    have e3 : ¬ a + m = 0 := by omega
    constructor
    · simp only [trimLow, e1, e2, if_neg e3, if_neg hm]
    · simp only [trimLst, e1, e2, if_neg e3]
      congr 1
      omega
theorem zero_eq {x : Int} (h1 : -57896044618658097711785492504343953926634992332820282019728792003956564819968 ≤ x) (h2 : x < 57896044618658097711785492504343953926634992332820282019728792003956564819968) : ((List.range 4).all fun i => wrd x i == zeroF i) = decide (x = 0) := by
  rw [Bool.eq_iff_iff]
  simp only [List.all_eq_true, List.mem_range, beq_iff_eq, decide_eq_true_eq]
  constructor
  · intro h
    exact wrd_inj h1 h2 (by decide) (by decide) fun i hi => by rw [wrd_zero]; exact h i hi
  · rintro rfl i hi
    exact wrd_zero i
theorem nth_drop (xs : List Int) (a i : Nat) : nth (xs.drop a) i = nth xs (a + i) := by simp [nth]
theorem nth_take {xs : List Int} {m i : Nat} (h : i < m) : nth (xs.take m) i = nth xs i := by simp [nth, h]
theorem readsW.cells {w : World} {pa : Option Addr} {n ca : Nat} {ys : List Int} (h : readsW w (.slice pa n ca) ys) (h0 : 0 < ys.length) : ∃ b q, pa = some ⟨b, q, none⟩ ∧ b < w.heap.size ∧ ∀ i, i < ys.length → ∀ j, j < 4 → w.cell? ⟨b, q + 4 * i + j, none⟩ = some (.int .u64 (wrd (nth ys i) j)) := by
  obtain ⟨a, c, hv, h⟩ := h
  cases hv
  obtain ⟨b, q, rfl, mm⟩ := h.resolve_left (fun e => by rw [e] at h0; simp at h0)
  exact ⟨b, q, rfl, World.block_lt_of_cell? w _ (mm 0 h0 0 (by decide)), mm⟩
theorem readsW.tail {w : World} {b q n ca : Nat} {ys : List Int} (h : readsW w (.slice (some ⟨b, q, none⟩) n ca) ys) (hc : n ≤ ca) (h0 : 0 < n) : readsW w (.slice (if ca = 1 then some ⟨b, q, none⟩ else some ⟨b, q + 4, none⟩) (n - 1) (ca - 1)) (ys.drop 1) := by
  obtain ⟨a, c, hv, h⟩ := h
  cases hv
  refine ⟨_, _, by rw [List.length_drop], ?_⟩
  by_cases h1 : ca = 1
  · exact .inl (List.eq_nil_of_length_eq_zero (by rw [List.length_drop]; omega))
  · rw [if_neg h1]
    refine .inr ⟨b, q + 4, rfl, fun i hi j hj => ?_⟩
    obtain ⟨b', q', e, mm⟩ := h.resolve_left (fun e => by rw [e] at h0; simp at h0)
    cases e
    rw [List.length_drop] at hi
    have := mm (i + 1) (by omega) j hj
    rw [nth_drop, show q + 4 + 4 * i + j = q + 4 * (i + 1) + j by omega, show 1 + i = i + 1 by omega]
    exact this
theorem readsW.front {w : World} {pa : Option Addr} {n ca m : Nat} {ys : List Int} (h : readsW w (.slice pa n ca) ys) (hm : m ≤ n) : readsW w (.slice pa m ca) (ys.take m) := by
  obtain ⟨a, c, hv, h⟩ := h
  cases hv
  refine ⟨_, _, by rw [List.length_take, Nat.min_eq_left hm], ?_⟩
  rcases h with rfl | ⟨b, q, rfl, mm⟩
  · exact .inl (by simp)
  · refine .inr ⟨b, q, rfl, fun i hi j hj => ?_⟩
    rw [List.length_take] at hi
    rw [nth_take (by omega)]
    exact mm i (by omega) j hj
/-- the length of the list in a box -/
def boxLen (w : World) (b : Nat) : Nat := match w.cell? ⟨b, 1, none⟩ with | some (.slice _ n _) => n | _ => 0
set_option maxHeartbeats 2000000 in
theorem trim_any (low : Int) (a0 : Option Addr) (c0 : Nat) (xs : List Int) (w : World) (h : readsW w (.slice a0 xs.length c0) xs) (hc0 : xs.length ≤ c0) (hlen : xs.length ≤ 100000) (hl1 : -100000 ≤ low) (hl2 : low ≤ 100000) (hf : Fw xs) : Calls Try.prog 56 #[.agg #[.int .i64 low, .slice a0 xs.length c0]] w fun e w' => (∃ v', e = .returned (.agg #[.int .i64 (trimLow low xs), v']) ∧ readsW w v' (trimLst xs)) ∧ Below w.heap.size w w' := by
  have hE := eql_arrF (P := Try.prog) (t := 68) (e := 66) (n := 4) (k := .u64) (ht := Try.underlying68) (he := Try.underlying66) (hsz := fun w => by simp [Try.sizeOf66]) (G := zeroF)
  have HE := Lib.hid (fun w i (hi : i < xs.length) => (hE w (wrd (nth xs i))).trans (by rw [zero_eq (hf i hi).1 (hf i hi).2]))
  clear hE hf
  have H := Lib.hid h
  clear h
  go_enter Try.func56, Try.ntmps56
  go_wp2
  go_loopw [] (fun wr => ∃ (a : Nat) (pa : Option Addr) (n ca : Nat), a ≤ xs.length ∧ Hid (n = xs.length - a) ∧ n ≤ ca ∧ wr = ((w.alloc (.cells #[.int .i64 (low + a), .slice pa n ca] 48)).alloc (.cells #[.int .i64 0, .slice none 0 0] 48)) ∧ Hid (readsW w (.slice pa n ca) (xs.drop a)) ∧ Hid (∀ i, i < a → nth xs i = 0)) (fun wr => boxLen wr w.heap.size)
  case atStart => exact ⟨0, a0, xs.length, c0, by omega, Lib.hid rfl, hc0, by simp, Lib.hid (by simpa using H.out), Lib.hid (fun i hi => by omega)⟩
  case round =>
    obtain ⟨a, pa, n, ca, ha, Hn, hca, rfl, HR, HZ⟩ := hrel
    have hnl : n ≤ 100000 := by have := Hn.out; omega
    by_cases h0 : a < xs.length
    · obtain ⟨b, q, rfl, hbk, mm⟩ := HR.out.cells (by simp; omega)
      have c0 := mm 0 (by simp; omega) 0 (by decide)
      have c1 := mm 0 (by simp; omega) 1 (by decide)
      have c2 := mm 0 (by simp; omega) 2 (by decide)
      have c3 := mm 0 (by simp; omega) 3 (by decide)
      have HMM := Lib.hid mm
      simp only [nth_drop, Nat.mul_zero, Nat.add_zero] at c0 c1 c2 c3
      have hn0 : 0 < n := by have := Hn.out; omega
      have hn1 : (0 : Int) < (n : Int) := by omega
      have hb1 : b < w.heap.size + 1 := by omega
      clear mm
      by_cases hz : nth xs a = 0
      · have hE := fun w => HE.out w a h0
        simp only [hz] at hE c0 c1 c2 c3
        have HZ2 := Lib.hid hz
        clear hz
        go_wp2
        refine ⟨⟨a + 1, _, xs.length - (a + 1), ca - 1, by omega, Lib.hid rfl, by have := Hn.out; omega, by rw [show n - 1 = xs.length - (a + 1) by have := Hn.out; omega, show low + ((a + 1 : Nat) : Int) = low + a + 1 by omega], Lib.hid ?_, Lib.hid (fun i hi => ?_)⟩, ?_⟩
        · have := HR.out.tail hca hn0
          rw [List.drop_drop, Hn.out] at this
          exact this
        · by_cases e : i = a
          · rw [e]; exact HZ2.out
          · exact HZ.out i (by omega)
        · simp [boxLen, go_sem]; have := Hn.out; omega
      · have hE := fun w => HE.out w a h0
        simp only [hz, decide_false] at hE
        have HZ2 := Lib.hid hz
        clear hz
        go_wp2
        go_loopw [3] (fun sl wr => ∃ (m : Nat), 0 < m ∧ m ≤ n ∧ sl = .int .i64 m ∧ wr = ((w.alloc (.cells #[.int .i64 (low + a), .slice (some ⟨b, q, none⟩) m ca] 48)).alloc (.cells #[.int .i64 0, .slice none 0 0] 48)) ∧ Hid (∀ i, a + m ≤ i → nth xs i = 0)) (fun sl _ => (intOf sl).toNat)
        case atStart => exact ⟨n, hn0, Nat.le_refl _, by go_num, rfl, Lib.hid (fun i hi => nth_over (by have := Hn.out; omega))⟩
        case round =>
          obtain ⟨m, hm0, hm, rfl, rfl, HB⟩ := hrel
          have hm1 : (0 : Int) < (m : Int) := by omega
          obtain ⟨p, rfl⟩ : ∃ p, m = p + 1 := ⟨m - 1, by omega⟩
          have hp : p < n := by omega
          have hw1 : ((p + 1 : Nat) : Int) - 1 = p := by omega
          have mm := HMM.out
          have hap : a + p < xs.length := by have := Hn.out; omega
          have d0 := mm p (by rw [List.length_drop]; omega) 0 (by decide)
          have d1 := mm p (by rw [List.length_drop]; omega) 1 (by decide)
          have d2 := mm p (by rw [List.length_drop]; omega) 2 (by decide)
          have d3 := mm p (by rw [List.length_drop]; omega) 3 (by decide)
          rw [Nat.mul_comm, nth_drop] at d0 d1 d2 d3
          rw [Nat.add_zero] at d0
          clear mm c0 c1 c2 c3 hE
          by_cases hy : nth xs (a + p) = 0
          · have hE := fun w => HE.out w (a + p) hap
            simp only [hy, decide_true] at hE d0 d1 d2 d3
            have HY := Lib.hid hy
            clear hy
            go_wp2
            have hp0 : 0 < p := by
              rcases Nat.eq_zero_or_pos p with rfl | h
              · exact absurd HY.out HZ2.out
              · exact h
            refine ⟨⟨p, hp0, by omega, rfl, rfl, Lib.hid (fun i hi => ?_)⟩, by simp [intOf]⟩
            by_cases e : i = a + p
            · rw [e]; exact HY.out
            · exact HB.out i (by omega)
          · have hE := fun w => HE.out w (a + p) hap
            simp only [hy, decide_false] at hE
            have HT := Lib.hid (trim_is (low := low) (xs := xs) (a := a) (m := p + 1) HZ.out HB.out (.inr ⟨HZ2.out, hy⟩))
            clear hy
            go_wp2
            refine bodyPost_ret (v := .agg #[.int .i64 (low + a), .slice (some ⟨b, q, none⟩) (p + 1) ca]) (by simp [results, Try.results56, go_sem]) rfl ?_
            refine ⟨⟨_, by rw [HT.out.1, if_neg (by omega)], ?_⟩, by (repeat (first | (with_reducible exact Below.refl _ _) | (with_reducible assumption) | (with_reducible refine below_plus' ?_ ?_; ((try simp only [plus_size, World.size_alloc, World.size_drew, World.size_setCell, size_setRow, World.heap_drewN, List.length_append]) <;> omega)) | (with_reducible refine below_alloc' ?_ ?_; ((try simp only [plus_size, World.size_alloc, World.size_drew, World.size_setCell, size_setRow, World.heap_drewN, List.length_append]) <;> omega)) | with_reducible refine Below.drew ?_ | (with_reducible refine below_drewN' ?_ _) | exact Below.refl _ _))⟩
            rw [HT.out.2]
            exact HR.out.front hm
    · obtain rfl : a = xs.length := by omega
      obtain rfl : n = 0 := by have := Hn.out; omega
      clear ha h0 hnl hca Hn
      have HT := Lib.hid (trim_is (low := low) (xs := xs) (a := xs.length) (m := 0) HZ.out (fun i hi => nth_over (by omega)) (.inl rfl))
      go_wp2
      go_loopw [3] (fun sl wr => sl = .int .i64 0 ∧ wr = ((w.alloc (.cells #[.int .i64 (low + xs.length), .slice pa 0 ca] 48)).alloc (.cells #[.int .i64 0, .slice none 0 0] 48))) (fun _ _ => 0)
      case atStart => exact ⟨by go_num, rfl⟩
      case round =>
        obtain ⟨rfl, rfl⟩ := hrel
        go_wp2
        refine bodyPost_ret (v := .agg #[.int .i64 0, .slice pa 0 ca]) (by simp [results, Try.results56, go_sem]) rfl ?_
        refine ⟨⟨_, by rw [HT.out.1, if_pos trivial], ?_⟩, by (repeat (first | (with_reducible exact Below.refl _ _) | (with_reducible assumption) | (with_reducible refine below_plus' ?_ ?_; ((try simp only [plus_size, World.size_alloc, World.size_drew, World.size_setCell, size_setRow, World.heap_drewN, List.length_append]) <;> omega)) | (with_reducible refine below_alloc' ?_ ?_; ((try simp only [plus_size, World.size_alloc, World.size_drew, World.size_setCell, size_setRow, World.heap_drewN, List.length_append]) <;> omega)) | with_reducible refine Below.drew ?_ | (with_reducible refine below_drewN' ?_ _) | exact Below.refl _ _))⟩
        rw [HT.out.2]
        exact HR.out.front (Nat.le_refl 0)
end Go.Proofs.Ytcipdgmimmngoaa
