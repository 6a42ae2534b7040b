/- Noughts at both ends taken away, by the reference. Conditions: as each theorem says. -/
import Derived.Test.YtnbpkbkgbpfomaaW3
import Derived.Test.YtnbpkbkgbpfomaaI3
import Derived.Test.YtnbpkbkgbpfomaaAp
namespace Go.Proofs.Ytnbpkbkgbpfomaa
open Go.RowKit
set_option linter.unusedSimpArgs false
set_option linter.unusedVariables false
open Go.RowKit
/-- a list of integers that stay far inside of 256 bits -/
def Fw (xs : List Int) : Prop := ∀ i, i < xs.length → -57896044618658097711785492504343953926634992332820282019728792003956564819968 ≤ nth xs i ∧ nth xs i < 57896044618658097711785492504343953926634992332820282019728792003956564819968
/-- noughts ahead of the first other number -/
def fzo : List Int → Nat
  | [] => 0
  | x :: xs => if x = 0 then fzo xs + 1 else 0
/-- the place behind the last number that is no nought -/
def lzo : List Int → Nat
  | [] => 0
  | x :: xs => if lzo xs = 0 then (if x = 0 then 0 else 1) else lzo xs + 1
theorem nth_succ (x : Int) (xs : List Int) (i : Nat) : nth (x :: xs) (i + 1) = nth xs i := by simp [nth]
theorem nth_zero (x : Int) (xs : List Int) : nth (x :: xs) 0 = x := by simp [nth]
theorem nth_nil (i : Nat) : nth [] i = 0 := by simp [nth]
theorem nth_over {xs : List Int} {i : Nat} (h : xs.length ≤ i) : nth xs i = 0 := by simp [nth, List.getElem?_eq_none h]
theorem fzo_eq {xs : List Int} {a : Nat} (h1 : ∀ i, i < a → nth xs i = 0) (h2 : nth xs a ≠ 0) : fzo xs = a := by
  induction xs generalizing a with
  | nil => exact absurd (nth_nil a) h2
  | cons x xs ih =>
    cases a with
    | zero => rw [nth_zero] at h2; simp [fzo, h2]
    | succ a =>
      have h0 := h1 0 (by omega)
      rw [nth_zero] at h0
      rw [nth_succ] at h2
      have := ih (a := a) (fun i hi => by rw [← nth_succ x]; exact h1 (i + 1) (by omega)) h2
      simp [fzo, h0, this]
theorem lzo_zero {xs : List Int} (h : ∀ i, nth xs i = 0) : lzo xs = 0 := by
  induction xs with
  | nil => rfl
  | cons x xs ih =>
    have h0 := h 0
    rw [nth_zero] at h0
    have := ih (fun i => by rw [← nth_succ x]; exact h (i + 1))
    simp [lzo, this, h0]
theorem lzo_eq {xs : List Int} {p : Nat} (h1 : ∀ i, p + 1 ≤ i → nth xs i = 0) (h2 : nth xs p ≠ 0) : lzo xs = p + 1 := by
  induction xs generalizing p with
  | nil => exact absurd (nth_nil p) h2
  | cons x xs ih =>
    cases p with
    | zero =>
      rw [nth_zero] at h2
      have : lzo xs = 0 := lzo_zero fun i => by rw [← nth_succ x]; exact h1 (i + 1) (by omega)
      simp [lzo, this, h2]
    | succ p =>
      rw [nth_succ] at h2
      have := ih (p := p) (fun i hi => by rw [← nth_succ x]; exact h1 (i + 1) (by omega)) h2
      simp [lzo, this]
/-- a polynomial without noughts at its ends -/
def trimLow (low : Int) (xs : List Int) : Int := if lzo xs = 0 then 0 else low + fzo xs
def trimLst (xs : List Int) : List Int := if lzo xs = 0 then [] else (xs.drop (fzo xs)).take (lzo xs - fzo xs)
theorem trim_is {low : Int} {xs : List Int} {a m : Nat} (h1 : ∀ i, i < a → nth xs i = 0) (h2 : ∀ i, a + m ≤ i → nth xs i = 0) (h3 : m = 0 ∨ (nth xs a ≠ 0 ∧ nth xs (a + m - 1) ≠ 0)) : trimLow low xs = (if m = 0 then 0 else low + a) ∧ trimLst xs = (xs.drop a).take m := by
  by_cases hm : m = 0
  · subst hm
    have : lzo xs = 0 := lzo_zero fun i => by
      by_cases hi : i < a
      · exact h1 i hi
      · exact h2 i (by omega)
    simp [trimLow, trimLst, this]
  · obtain ⟨h3, h4⟩ := h3.resolve_left hm
    have e1 := fzo_eq h1 h3
    have e2 : lzo xs = a + m := by
      have := lzo_eq (xs := xs) (p := a + m - 1) (fun i hi => h2 i (by omega)) h4
      omega
    have e3 : ¬ a + m = 0 := by omega
    constructor
    · simp only [trimLow, e1, e2, if_neg e3, if_neg hm]
    · simp only [trimLst, e1, e2, if_neg e3]
      congr 1
      omega
theorem nth_drop (xs : List Int) (a i : Nat) : nth (xs.drop a) i = nth xs (a + i) := by simp [nth]
theorem nth_take {xs : List Int} {m i : Nat} (h : i < m) : nth (xs.take m) i = nth xs i := by simp [nth, h]
theorem readsL_form {w : World} {v : Value} {xs : List Int} (h : reads w v xs) : ∃ a c, v = .slice a xs.length c := by
  obtain ⟨a, c, rfl, _⟩ := h
  exact ⟨_, _, rfl⟩
theorem own_farL {e : TypeId} {X Y : World} {B B' : Nat} {J J' : List Obj} {d d' : Nat} {v : Value} {xs : List Int} (h : own e (plus X J d) B v xs) (hs : X.heap.size = Y.heap.size) (hB : X.heap.size ≤ B) (hB' : B' ≤ B) (hp : J <+: J') : own e (plus Y J' d') B' v xs := by
  obtain ⟨K, rfl⟩ := hp
  exact (own_plus (d := d') (own_swap hs hB h)).mono hB'
theorem own_farG {e : TypeId} {X Y : World} {B B' : Nat} {J J' : List Obj} {d d' : Nat} {v : Value} {xs : List Int} (h : own e (plus X J d) B v xs) (hs : X.heap.size = Y.heap.size) (hB : X.heap.size ≤ B) (hB' : B' ≤ B) (hp : J <+: J') : own e (plus Y J' d') B' v xs := own_farL h hs hB hB' hp
set_option maxHeartbeats 400000 in
theorem l01Own_any (v : Value) (xs : List Int) (w : World) (h : reads w v xs) (hlen : xs.length ≤ 1000000000) : Calls Try.prog 35 #[v] w (RetInts 2 w xs) := by
  have Hr := Lib.hid (fun w' (hb : Below w.heap.size w w') => h.kept hb)
  clear h
  go_enter Try.func35, Try.ntmps35
  go_wp2_with (first | (at_builtin; go_loud (refine wpList_appendL rfl _ _ 22 rfl 2 Try.underlying22 infoI w.heap.size _ _ [] xs rfl rfl (own_made (Nat.le_refl _) (by decide) rfl) (Hr.out _ (by (repeat (first | (with_reducible exact Below.refl _ _) | (with_reducible assumption) | (with_reducible refine below_plus' ?_ ?_; ((try simp only [plus_size, World.size_alloc, World.size_drew, World.size_setCell, size_setRow, World.heap_drewN, List.length_append]) <;> omega)) | (with_reducible refine below_alloc' ?_ ?_; ((try simp only [plus_size, World.size_alloc, World.size_drew, World.size_setCell, size_setRow, World.heap_drewN, List.length_append]) <;> omega)) | with_reducible refine Below.drew ?_ | (with_reducible refine below_drewN' ?_ _) | exact Below.refl _ _)))) (by simp; omega) (by ((try simp only [plus_size, World.size_alloc, World.size_drew, World.size_setCell, size_setRow, World.heap_drewN, List.length_append]) <;> omega)) ?_; intro v' w' hown' hgr hB; replace hB := Below.trans (show Below w.heap.size w _ by (repeat (first | (with_reducible exact Below.refl _ _) | (with_reducible assumption) | (with_reducible refine below_plus' ?_ ?_; ((try simp only [plus_size, World.size_alloc, World.size_drew, World.size_setCell, size_setRow, World.heap_drewN, List.length_append]) <;> omega)) | (with_reducible refine below_alloc' ?_ ?_; ((try simp only [plus_size, World.size_alloc, World.size_drew, World.size_setCell, size_setRow, World.heap_drewN, List.length_append]) <;> omega)) | with_reducible refine Below.drew ?_ | (with_reducible refine below_drewN' ?_ _) | exact Below.refl _ _))) hB; obtain ⟨j, d, rfl⟩ := plus_of_below hB; clear hB hgr)))
  go_ret
  exact ⟨_, rfl, by (repeat (first | (with_reducible exact Below.refl _ _) | (with_reducible assumption) | (with_reducible refine below_plus' ?_ ?_; ((try simp only [plus_size, World.size_alloc, World.size_drew, World.size_setCell, size_setRow, World.heap_drewN, List.length_append]) <;> omega)) | (with_reducible refine below_alloc' ?_ ?_; ((try simp only [plus_size, World.size_alloc, World.size_drew, World.size_setCell, size_setRow, World.heap_drewN, List.length_append]) <;> omega)) | with_reducible refine Below.drew ?_ | (with_reducible refine below_drewN' ?_ _) | exact Below.refl _ _)), by simpa using hown'⟩
theorem retI_form {e : TypeId} {w w' : World} {xs : List Int} {en : Ending} (h : RetInts e w xs en w') : ∃ v, en = .returned v ∧ Below w.heap.size w w' ∧ own e w' w.heap.size v xs := h
theorem own.cap {e : TypeId} {w : World} {B : Nat} {ao : Option Addr} {n co : Nat} {xs : List Int} (h : own e w B (.slice ao n co) xs) : xs.length ≤ co := by
  rcases h.2 with ⟨h1, h2⟩ | ⟨g, cap, cur, h1, _, _, h2, _⟩
  · omega
  · cases h1; exact h2
theorem reads_part {w : World} {b q n ca a m : Nat} {xs : List Int} (h : reads w (.slice (some ⟨b, q, none⟩) n ca) xs) (hm : a + m ≤ n) (c' : Nat) (h0 : 0 < m) : reads w (.slice (some ⟨b, q + a, none⟩) m c') ((xs.drop a).take m) := by
  obtain ⟨p, c, hv, h⟩ := h
  cases hv
  have hlen : ((xs.drop a).take m).length = m := by rw [List.length_take, List.length_drop]; omega
  refine ⟨_, _, by rw [hlen], ?_⟩
  obtain ⟨b', q', e, mm⟩ := h.resolve_left (fun e => by rw [e] at hm; simp at hm; omega)
  cases e
  refine .inr ⟨b, q + a, rfl, fun i hi => ?_⟩
  rw [hlen] at hi
  rw [nth_take hi, nth_drop, show q + a + i = q + (a + i) by omega]
  exact mm (a + i) (by omega)
set_option maxHeartbeats 2000000 in
theorem l05Trim_any (low : Int) (a0 : Option Addr) (c0 : Nat) (xs : List Int) (w : World) (h : reads w (.slice a0 xs.length c0) xs) (hc0 : xs.length ≤ c0) (hlen : xs.length ≤ 100000) (hl1 : -100000 ≤ low) (hl2 : low ≤ 100000) : Calls Try.prog 34 #[.int .i64 low, .slice a0 xs.length c0] w (RetB 2 w (trimLow low xs) (trimLst xs)) := by
  have H0 := Lib.hid h
  obtain ⟨a, c, hv, h⟩ := h
  simp only [Value.slice.injEq, true_and] at hv
  obtain ⟨rfl, rfl⟩ := hv
  have Hr := Lib.hid (show 0 < xs.length → ∃ b o, a0 = some ⟨b, o, none⟩ ∧ b < w.heap.size ∧ ∀ i, i < xs.length → w.cell? ⟨b, o + i, none⟩ = some (.int .i64 (nth xs i)) from fun hp => by
    rcases h with h | ⟨b, o, rfl, m⟩
    · rw [h] at hp; cases hp
    · exact ⟨b, o, rfl, World.block_lt_of_cell? w _ (m 0 hp), m⟩)
  clear h
  go_enter Try.func34, Try.ntmps34
  go_wp2
  go_loop [6] (fun sl => ∃ m : Nat, m ≤ xs.length ∧ sl = .int .i64 m ∧ Hid (∀ i, m ≤ i → nth xs i = 0)) (fun sl => (intOf sl).toNat)
  case atStart => exact ⟨xs.length, Nat.le_refl _, rfl, Lib.hid (fun i hi => nth_over hi)⟩
  case round =>
    obtain ⟨m, hm, rfl, HB⟩ := hrel
    rcases Nat.eq_zero_or_pos m with rfl | hm0
    · have HT := Lib.hid (trim_is (low := low) (xs := xs) (a := 0) (m := 0) (fun i hi => by omega) (fun i hi => HB.out i (by omega)) (.inl rfl))
      clear Hr
      go_wp2
      go_loop [5] (fun sl => sl = .int .i64 0) (fun _ => 0)
      case atStart => exact by go_num
      case round =>
        obtain rfl := hrel
        go_wp2
        refine bodyPost_ret (v := .agg #[.int .i64 0, .slice none 0 0]) (by simp [results, Try.results34, go_sem]) rfl ?_
        exact ⟨_, by rw [HT.out.1, if_pos trivial], by (repeat (first | (with_reducible exact Below.refl _ _) | (with_reducible assumption) | (with_reducible refine below_plus' ?_ ?_; ((try simp only [plus_size, World.size_alloc, World.size_drew, World.size_setCell, size_setRow, World.heap_drewN, List.length_append]) <;> omega)) | (with_reducible refine below_alloc' ?_ ?_; ((try simp only [plus_size, World.size_alloc, World.size_drew, World.size_setCell, size_setRow, World.heap_drewN, List.length_append]) <;> omega)) | with_reducible refine Below.drew ?_ | (with_reducible refine below_drewN' ?_ _) | exact Below.refl _ _)), by rw [HT.out.2]; simpa using own_nil _ _ _⟩
    · obtain ⟨b, o, rfl, hbk, mm⟩ := Hr.out (by omega)
      obtain ⟨p, rfl⟩ : ∃ p, m = p + 1 := ⟨m - 1, by omega⟩
      have hm1 : (0 : Int) < ((p + 1 : Nat) : Int) := by omega
      have hp : p < xs.length := by omega
      have hw1 : ((p + 1 : Nat) : Int) - 1 = p := by omega
      have g1 := mm p hp
      have HM := Lib.hid mm
      clear mm Hr
      by_cases hy : nth xs p = 0
      · have HY := Lib.hid hy
        rw [hy] at g1
        clear hy
        go_wp2
        refine ⟨⟨p, by omega, rfl, Lib.hid (fun i hi => ?_)⟩, by simp [intOf]⟩
        by_cases e : i = p
        · rw [e]; exact HY.out
        · exact HB.out i (by omega)
      · have hyb : (nth xs p == 0) = false := by simp [hy]
        have HY := Lib.hid hy
        clear hy
        go_wp2
        go_loop [5] (fun sl => ∃ a : Nat, a ≤ p ∧ sl = .int .i64 a ∧ Hid (∀ i, i < a → nth xs i = 0)) (fun sl => p + 1 - (intOf sl).toNat)
        case atStart => exact ⟨0, by omega, by go_num, Lib.hid (fun i hi => by omega)⟩
        case round =>
          clear g1 hyb
          obtain ⟨a, ha, rfl, HZ⟩ := hrel
          have g2 := HM.out a (by omega)
          have ha1 : (a : Int) < ((p + 1 : Nat) : Int) := by omega
          by_cases hx : nth xs a = 0
          · have HX := Lib.hid hx
            have hap : a ≠ p := fun e => by rw [e] at hx; exact HY.out hx
            rw [hx] at g2
            clear hx
            go_wp2
            refine ⟨⟨a + 1, by omega, by go_num, Lib.hid (fun i hi => ?_)⟩, by simp [intOf]; omega⟩
            by_cases e : i = a
            · rw [e]; exact HX.out
            · exact HZ.out i (by omega)
          · have hxb : (nth xs a == 0) = false := by simp [hx]
            have HT := Lib.hid (trim_is (low := low) (xs := xs) (a := a) (m := p + 1 - a) HZ.out (fun i hi => HB.out i (by omega)) (.inr ⟨hx, by rw [show a + (p + 1 - a) - 1 = p by omega]; exact HY.out⟩))
            have hne : ((a : Int) == ((p + 1 : Nat) : Int)) = false := beq_eq_false_iff_ne.2 (by omega)
            have HC := Lib.hid (fun w' (hb : Below w.heap.size w w') => l01Own_any _ ((xs.drop a).take (p + 1 - a)) w' ((reads_part H0.out (a := a) (m := p + 1 - a) (by omega) (c0 - a) (by omega)).kept hb) (by rw [List.length_take]; omega))
            generalize (xs.drop a).take (p + 1 - a) = R at HC HT
            clear hx
            go_wp2_with (first | (go_at_call 35; refine Calls.mono (HC.out _ ?_) ?_; (repeat (first | (with_reducible exact Below.refl _ _) | (with_reducible assumption) | (with_reducible refine below_plus' ?_ ?_; ((try simp only [plus_size, World.size_alloc, World.size_drew, World.size_setCell, size_setRow, World.heap_drewN, List.length_append]) <;> omega)) | (with_reducible refine below_alloc' ?_ ?_; ((try simp only [plus_size, World.size_alloc, World.size_drew, World.size_setCell, size_setRow, World.heap_drewN, List.length_append]) <;> omega)) | with_reducible refine Below.drew ?_ | (with_reducible refine below_drewN' ?_ _) | exact Below.refl _ _)); intro e w' hh; obtain ⟨vG, rfl, hB, hoG⟩ := retI_form hh; clear hh; have hrG := hoG.reads; obtain ⟨aG, cG, rfl⟩ := readsL_form hrG; obtain ⟨j, d, rfl⟩ := plus_of_below hB; clear hB))
            refine bodyPost_ret (v := .agg #[.int .i64 (low + a), .slice aG R.length cG]) (by simp [results, Try.results34, go_sem]) rfl ?_
            refine ⟨_, by rw [HT.out.1, if_neg (by omega)], by (repeat (first | (with_reducible exact Below.refl _ _) | (with_reducible assumption) | (with_reducible refine below_plus' ?_ ?_; ((try simp only [plus_size, World.size_alloc, World.size_drew, World.size_setCell, size_setRow, World.heap_drewN, List.length_append]) <;> omega)) | (with_reducible refine below_alloc' ?_ ?_; ((try simp only [plus_size, World.size_alloc, World.size_drew, World.size_setCell, size_setRow, World.heap_drewN, List.length_append]) <;> omega)) | with_reducible refine Below.drew ?_ | (with_reducible refine below_drewN' ?_ _) | exact Below.refl _ _)), ?_⟩
            rw [HT.out.2]
            exact own_farG hoG (by ((try simp only [plus_size, World.size_alloc, World.size_drew, World.size_setCell, size_setRow, World.heap_drewN, List.length_append]) <;> omega)) (by ((try simp only [plus_size, World.size_alloc, World.size_drew, World.size_setCell, size_setRow, World.heap_drewN, List.length_append]) <;> omega)) (by ((try simp only [plus_size, World.size_alloc, World.size_drew, World.size_setCell, size_setRow, World.heap_drewN, List.length_append]) <;> omega)) (by (repeat (first | (with_reducible exact List.prefix_rfl) | (with_reducible exact List.nil_prefix) | (refine List.IsPrefix.trans ?_ (List.prefix_append _ _)))))
end Go.Proofs.Ytnbpkbkgbpfomaa
