/- The product of two polynomials, by the reference. Conditions: as each theorem says. -/
import Derived.Test.YtcipdgmimmngoaaZo
import Derived.Test.YtcipdgmimmngoaaAp
namespace Go.Proofs.Ytcipdgmimmngoaa
open Go.RowKit
set_option linter.unusedSimpArgs false
set_option linter.unusedVariables false
open Go.RowKit
theorem own_madeE {e : TypeId} {w : World} {B b : Nat} (hb : b = w.heap.size) (hB : B ≤ w.heap.size) : own e (w.alloc (.cells #[] e)) B (.slice (some ⟨b, 0, none⟩) 0 0) [] := by
  subst hb
  exact own_made hB (by decide) rfl
theorem lstI_succ (k : Nat) (f : Nat → Int) : lstI k f ++ [f k] = lstI (k + 1) f := by simp [lstI, List.range_succ]
/-- three lists of the call's own that lie apart -/
def Tri (e : TypeId) (w : World) (B : Nat) (v0 v1 v2 : Value) (l0 l1 l2 : List Int) : Prop := own e w B v0 l0 ∧ own e w B v1 l1 ∧ own e w B v2 l2 ∧ (∀ k, v0.ownBlock = some k → v1.ownBlock ≠ some k) ∧ (∀ k, v0.ownBlock = some k → v2.ownBlock ≠ some k) ∧ (∀ k, v1.ownBlock = some k → v2.ownBlock ≠ some k)
theorem Tri.kept {e : TypeId} {w w' : World} {B : Nat} {v0 v1 v2 : Value} {l0 l1 l2 : List Int} (h : Tri e w B v0 v1 v2 l0 l1 l2) (hb : Below w.heap.size w w') : Tri e w' B v0 v1 v2 l0 l1 l2 :=
  ⟨h.1.kept hb, h.2.1.kept hb, h.2.2.1.kept hb, h.2.2.2⟩
theorem Tri.push1 {e : TypeId} {w w' : World} {B : Nat} {v0 v1 v2 v' : Value} {l0 l1 l2 l' : List Int} (h : Tri e w B v0 v1 v2 l0 l1 l2) (h1 : own e w' B v' l') (hg : w.grownBy w' v1.ownBlock) (hw : ∀ k, v'.ownBlock = some k → v1.ownBlock = some k ∨ w.heap.size ≤ k) : Tri e w' B v0 v' v2 l0 l' l2 := by
  obtain ⟨o0, o1, o2, a, b, c⟩ := h
  refine ⟨o0.apart hg (fun k h1 h2 => a k h1 h2), h1, o2.apart hg (fun k h1 h2 => c k h2 h1), fun k h2 h3 => ?_, b, fun k h2 h3 => ?_⟩
  · rcases hw k h3 with h4 | h4
    · exact a k h2 h4
    · have := (o0.lt k h2).2; omega
  · rcases hw k h2 with h4 | h4
    · exact c k h4 h3
    · have := (o2.lt k h3).2; omega
theorem Tri.push2 {e : TypeId} {w w' : World} {B : Nat} {v0 v1 v2 v' : Value} {l0 l1 l2 l' : List Int} (h : Tri e w B v0 v1 v2 l0 l1 l2) (h1 : own e w' B v' l') (hg : w.grownBy w' v2.ownBlock) (hw : ∀ k, v'.ownBlock = some k → v2.ownBlock = some k ∨ w.heap.size ≤ k) : Tri e w' B v0 v1 v' l0 l1 l' := by
  obtain ⟨o0, o1, o2, a, b, c⟩ := h
  refine ⟨o0.apart hg (fun k h1 h2 => b k h1 h2), o1.apart hg (fun k h1 h2 => c k h1 h2), h1, a, fun k h2 h3 => ?_, fun k h2 h3 => ?_⟩
  · rcases hw k h3 with h4 | h4
    · exact b k h2 h4
    · have := (o0.lt k h2).2; omega
  · rcases hw k h3 with h4 | h4
    · exact c k h2 h4
    · have := (o1.lt k h2).2; omega
theorem cvR_low {xs ys : List Int} {k : Nat} : ∀ i0 : Nat, (∀ i, i < i0 → ys.length ≤ k - i) → cvR xs ys i0 k = 0
  | 0, _ => rfl
  | i + 1, h => by
    rw [cvR, cvR_low i (fun j hj => h j (by omega)), nth_over (xs := ys) (h i (by omega)), Int.mul_zero]
    split <;> rfl
theorem cvR_high {xs ys : List Int} {k : Nat} : ∀ d : Nat, cvR xs ys (k + 1 + d) k = cvR xs ys (k + 1) k
  | 0 => rfl
  | d + 1 => by
    rw [show k + 1 + (d + 1) = (k + 1 + d) + 1 by omega, cvR, cvR_high d, if_neg (by omega), Int.add_zero]
theorem dot_cv {xs ys : List Int} {k i0 c : Nat} (h0 : cvR xs ys i0 k = 0) (hc : i0 + c ≤ k + 1) : dotS (lstI c fun j => nth xs (i0 + j)) (lstI c fun j => nth ys (k - (i0 + j))) c = cvR xs ys (i0 + c) k := by
  have key : ∀ c', c' ≤ c → dotS (lstI c fun j => nth xs (i0 + j)) (lstI c fun j => nth ys (k - (i0 + j))) c' = cvR xs ys (i0 + c') k := by
    intro c'
    induction c' with
    | zero => intro _; rw [Nat.add_zero, h0]; rfl
    | succ c' ih =>
      intro hc'
      rw [dotS, ih (by omega), nth_lstI (by omega), nth_lstI (by omega), show i0 + (c' + 1) = (i0 + c') + 1 by omega, cvR, if_pos (by omega)]
  exact key c (Nat.le_refl _)
theorem dot_all {xs ys : List Int} {k i0 c : Nat} (h0 : ∀ i, i < i0 → ys.length ≤ k - i) (hc : i0 + c ≤ k + 1) (hn : i0 + c ≤ xs.length) (he : i0 + c = k + 1 ∨ i0 + c = xs.length) : dotS (lstI c fun j => nth xs (i0 + j)) (lstI c fun j => nth ys (k - (i0 + j))) c = cvR xs ys xs.length k := by
  rw [dot_cv (cvR_low i0 h0) hc]
  rcases he with e | e
  · rw [e]
    have := cvR_high (xs := xs) (ys := ys) (k := k) (xs.length - (k + 1))
    rw [← this]; congr 1; omega
  · rw [e]
theorem allC_lst {xs : List Int} (h : allC xs = true) (c : Nat) (f : Nat → Nat) : allC (lstI c fun j => nth xs (f j)) = true := allC_good fun i hi => by
  rw [lstI_length] at hi
  rw [nth_lstI hi]
  have := nth_12 h (f i)
  simp only [inB, decide_eq_true_eq]; omega
theorem fzo_nz : ∀ {xs : List Int} {k : Nat}, nth xs k ≠ 0 → fzo xs ≤ k
  | [], k, h => absurd (nth_nil k) h
  | x :: xs, k, h => by
    by_cases hx : x = 0
    · cases k with
      | zero => rw [nth_zero] at h; exact absurd hx h
      | succ k =>
        rw [nth_succ] at h
        have := fzo_nz h
        simp only [fzo, if_pos hx]; omega
    · simp only [fzo, if_neg hx]; omega
theorem lzo_nz : ∀ {xs : List Int} {k : Nat}, nth xs k ≠ 0 → k < lzo xs
  | [], k, h => absurd (nth_nil k) h
  | x :: xs, k, h => by
    cases k with
    | zero =>
      rw [nth_zero] at h
      simp only [lzo, if_neg h]; split <;> omega
    | succ k =>
      rw [nth_succ] at h
      have := lzo_nz h
      simp only [lzo]; split <;> omega
theorem lzo_le : ∀ xs : List Int, lzo xs ≤ xs.length
  | [] => Nat.le_refl 0
  | x :: xs => by
    have := lzo_le xs
    simp only [lzo, List.length_cons]
    split
    · split <;> omega
    · omega
/-- a number beyond its limit stays one when noughts are taken away -/
theorem trim_bad {low : Int} {xs : List Int} {k : Nat} (h : inB (nth xs k) (-1000000000000) 1000000000000 = false) : okL (trimLow low xs) (trimLst xs) = false := by
  have hz : nth xs k ≠ 0 := fun e => by rw [e] at h; exact absurd h (by decide)
  have h1 := fzo_nz hz
  have h2 := lzo_nz hz
  have h3 := lzo_le xs
  have e : trimLst xs = (xs.drop (fzo xs)).take (lzo xs - fzo xs) := by
    unfold trimLst
    rw [if_neg (by omega)]
  have hl : k - fzo xs < (trimLst xs).length := by rw [e, List.length_take, List.length_drop]; omega
  refine okL_bad hl ?_
  rw [e, nth_take (by omega), nth_drop, show fzo xs + (k - fzo xs) = k by omega]
  exact h
theorem la_nil : laN 0 [] = 0 ∧ laL 0 [] = [] ∧ laC 0 [] = 0 := la_yes rfl
set_option maxRecDepth 20000 in
set_option maxHeartbeats 8000000 in
theorem spec_MultiplyLaurents (n : Int) (v1 : Value) (xs : List Int) (m : Int) (v2 : Value) (ys : List Int) (w : World) (h1 : reads w v1 xs) (h2 : reads w v2 ys) (hlen1 : xs.length ≤ 1000000000) (hlen2 : ys.length ≤ 1000000000) (hfit1 : Fits xs) (hfit2 : Fits ys) : Calls Try.prog 13 #[.agg #[.int .i64 n, v1], .agg #[.int .i64 m, v2]] w (RetB2 2 w (muN n xs m ys) (muL n xs m ys) (muC n xs m ys)) := by
  have hIA := fun w' (hb : Below w.heap.size w w') => spec_Is n v1 xs w' (h1.kept hb) hlen1 hfit1
  have hIB := fun w' (hb : Below w.heap.size w w') => spec_Is m v2 ys w' (h2.kept hb) hlen2 hfit2
  clear hfit1 hfit2
  have H1 := Lib.hid h1
  have H2 := Lib.hid h2
  obtain ⟨a1, c1, rfl⟩ := readsL_form h1
  obtain ⟨a2, c2, rfl⟩ := readsL_form h2
  cases okA : okL n xs with
  | false =>
    simp only [okA] at hIA
    cases okB : okL m ys with
    | false =>
      simp only [okB] at hIB
      obtain ⟨e1, e2, e3⟩ := mu_no (lp := n) (xs := xs) (lq := m) (ys := ys) (by simp [okA, okB])
      rw [e1, e2, e3]
      have HA := Lib.hid hIA
      have HB := Lib.hid hIB
      clear hIA hIB okA okB e1 e2 e3 h1 h2
      go_enter Try.func13, Try.ntmps13
      go_wp2_with (first | (go_at_call 28; with_reducible refine Calls.mono (HA.out _ ?_) ?_; (repeat (first | (with_reducible exact Below.refl _ _) | (with_reducible assumption) | (with_reducible refine below_plus' ?_ ?_; ((try simp only [plus_size, World.size_alloc, World.size_drew, World.size_setCell, size_setRow, World.heap_drewN, List.length_append]) <;> omega)) | (with_reducible refine below_alloc' ?_ ?_; ((try simp only [plus_size, World.size_alloc, World.size_drew, World.size_setCell, size_setRow, World.heap_drewN, List.length_append]) <;> omega)) | with_reducible refine Below.drew ?_ | (with_reducible refine below_drewN' ?_ _) | exact Below.refl _ _)); rintro e w' ⟨rfl, hB⟩; obtain ⟨jHA, dHA, rfl⟩ := plus_of_below hB; clear hB) | (go_at_call 28; with_reducible refine Calls.mono (HB.out _ ?_) ?_; (repeat (first | (with_reducible exact Below.refl _ _) | (with_reducible assumption) | (with_reducible refine below_plus' ?_ ?_; ((try simp only [plus_size, World.size_alloc, World.size_drew, World.size_setCell, size_setRow, World.heap_drewN, List.length_append]) <;> omega)) | (with_reducible refine below_alloc' ?_ ?_; ((try simp only [plus_size, World.size_alloc, World.size_drew, World.size_setCell, size_setRow, World.heap_drewN, List.length_append]) <;> omega)) | with_reducible refine Below.drew ?_ | (with_reducible refine below_drewN' ?_ _) | exact Below.refl _ _)); rintro e w' ⟨rfl, hB⟩; obtain ⟨jHB, dHB, rfl⟩ := plus_of_below hB; clear hB))
      refine bodyPost_ret (v := .tuple #[.agg #[.int .i64 0, .slice none 0 0], .int .i64 1]) (by simp [results, Try.results13, go_sem]) rfl ?_
      exact ⟨_, rfl, by (repeat (first | (with_reducible exact Below.refl _ _) | (with_reducible assumption) | (with_reducible refine below_plus' ?_ ?_; ((try simp only [plus_size, World.size_alloc, World.size_drew, World.size_setCell, size_setRow, World.heap_drewN, List.length_append]) <;> omega)) | (with_reducible refine below_alloc' ?_ ?_; ((try simp only [plus_size, World.size_alloc, World.size_drew, World.size_setCell, size_setRow, World.heap_drewN, List.length_append]) <;> omega)) | with_reducible refine Below.drew ?_ | (with_reducible refine below_drewN' ?_ _) | exact Below.refl _ _)), own_nil _ _ _⟩
    | true =>
      simp only [okB] at hIB
      obtain ⟨e1, e2, e3⟩ := mu_no (lp := n) (xs := xs) (lq := m) (ys := ys) (by simp [okA, okB])
      rw [e1, e2, e3]
      have HA := Lib.hid hIA
      have HB := Lib.hid hIB
      clear hIA hIB okA okB e1 e2 e3 h1 h2
      go_enter Try.func13, Try.ntmps13
      go_wp2_with (first | (go_at_call 28; with_reducible refine Calls.mono (HA.out _ ?_) ?_; (repeat (first | (with_reducible exact Below.refl _ _) | (with_reducible assumption) | (with_reducible refine below_plus' ?_ ?_; ((try simp only [plus_size, World.size_alloc, World.size_drew, World.size_setCell, size_setRow, World.heap_drewN, List.length_append]) <;> omega)) | (with_reducible refine below_alloc' ?_ ?_; ((try simp only [plus_size, World.size_alloc, World.size_drew, World.size_setCell, size_setRow, World.heap_drewN, List.length_append]) <;> omega)) | with_reducible refine Below.drew ?_ | (with_reducible refine below_drewN' ?_ _) | exact Below.refl _ _)); rintro e w' ⟨rfl, hB⟩; obtain ⟨jHA, dHA, rfl⟩ := plus_of_below hB; clear hB) | (go_at_call 28; with_reducible refine Calls.mono (HB.out _ ?_) ?_; (repeat (first | (with_reducible exact Below.refl _ _) | (with_reducible assumption) | (with_reducible refine below_plus' ?_ ?_; ((try simp only [plus_size, World.size_alloc, World.size_drew, World.size_setCell, size_setRow, World.heap_drewN, List.length_append]) <;> omega)) | (with_reducible refine below_alloc' ?_ ?_; ((try simp only [plus_size, World.size_alloc, World.size_drew, World.size_setCell, size_setRow, World.heap_drewN, List.length_append]) <;> omega)) | with_reducible refine Below.drew ?_ | (with_reducible refine below_drewN' ?_ _) | exact Below.refl _ _)); rintro e w' ⟨rfl, hB⟩; obtain ⟨jHB, dHB, rfl⟩ := plus_of_below hB; clear hB))
      refine bodyPost_ret (v := .tuple #[.agg #[.int .i64 0, .slice none 0 0], .int .i64 1]) (by simp [results, Try.results13, go_sem]) rfl ?_
      exact ⟨_, rfl, by (repeat (first | (with_reducible exact Below.refl _ _) | (with_reducible assumption) | (with_reducible refine below_plus' ?_ ?_; ((try simp only [plus_size, World.size_alloc, World.size_drew, World.size_setCell, size_setRow, World.heap_drewN, List.length_append]) <;> omega)) | (with_reducible refine below_alloc' ?_ ?_; ((try simp only [plus_size, World.size_alloc, World.size_drew, World.size_setCell, size_setRow, World.heap_drewN, List.length_append]) <;> omega)) | with_reducible refine Below.drew ?_ | (with_reducible refine below_drewN' ?_ _) | exact Below.refl _ _)), own_nil _ _ _⟩
  | true =>
    simp only [okA] at hIA
    cases okB : okL m ys with
    | false =>
      simp only [okB] at hIB
      obtain ⟨e1, e2, e3⟩ := mu_no (lp := n) (xs := xs) (lq := m) (ys := ys) (by simp [okA, okB])
      rw [e1, e2, e3]
      have HA := Lib.hid hIA
      have HB := Lib.hid hIB
      clear hIA hIB okA okB e1 e2 e3 h1 h2
      go_enter Try.func13, Try.ntmps13
      go_wp2_with (first | (go_at_call 28; with_reducible refine Calls.mono (HA.out _ ?_) ?_; (repeat (first | (with_reducible exact Below.refl _ _) | (with_reducible assumption) | (with_reducible refine below_plus' ?_ ?_; ((try simp only [plus_size, World.size_alloc, World.size_drew, World.size_setCell, size_setRow, World.heap_drewN, List.length_append]) <;> omega)) | (with_reducible refine below_alloc' ?_ ?_; ((try simp only [plus_size, World.size_alloc, World.size_drew, World.size_setCell, size_setRow, World.heap_drewN, List.length_append]) <;> omega)) | with_reducible refine Below.drew ?_ | (with_reducible refine below_drewN' ?_ _) | exact Below.refl _ _)); rintro e w' ⟨rfl, hB⟩; obtain ⟨jHA, dHA, rfl⟩ := plus_of_below hB; clear hB) | (go_at_call 28; with_reducible refine Calls.mono (HB.out _ ?_) ?_; (repeat (first | (with_reducible exact Below.refl _ _) | (with_reducible assumption) | (with_reducible refine below_plus' ?_ ?_; ((try simp only [plus_size, World.size_alloc, World.size_drew, World.size_setCell, size_setRow, World.heap_drewN, List.length_append]) <;> omega)) | (with_reducible refine below_alloc' ?_ ?_; ((try simp only [plus_size, World.size_alloc, World.size_drew, World.size_setCell, size_setRow, World.heap_drewN, List.length_append]) <;> omega)) | with_reducible refine Below.drew ?_ | (with_reducible refine below_drewN' ?_ _) | exact Below.refl _ _)); rintro e w' ⟨rfl, hB⟩; obtain ⟨jHB, dHB, rfl⟩ := plus_of_below hB; clear hB))
      refine bodyPost_ret (v := .tuple #[.agg #[.int .i64 0, .slice none 0 0], .int .i64 1]) (by simp [results, Try.results13, go_sem]) rfl ?_
      exact ⟨_, rfl, by (repeat (first | (with_reducible exact Below.refl _ _) | (with_reducible assumption) | (with_reducible refine below_plus' ?_ ?_; ((try simp only [plus_size, World.size_alloc, World.size_drew, World.size_setCell, size_setRow, World.heap_drewN, List.length_append]) <;> omega)) | (with_reducible refine below_alloc' ?_ ?_; ((try simp only [plus_size, World.size_alloc, World.size_drew, World.size_setCell, size_setRow, World.heap_drewN, List.length_append]) <;> omega)) | with_reducible refine Below.drew ?_ | (with_reducible refine below_drewN' ?_ _) | exact Below.refl _ _)), own_nil _ _ _⟩
    | true =>
      simp only [okB] at hIB
      obtain ⟨e1, e2, e3⟩ := mu_yes okA okB
      have HA := Lib.hid hIA
      have HB := Lib.hid hIB
      clear hIA hIB
      by_cases hx : xs.length = 0
      · have e4 : mulLow n xs m ys = 0 ∧ mulLst xs ys = [] := by simp [mulLow, mulLst, hx]
        rw [e4.1, e4.2] at e1 e2 e3
        have hxb : ((xs.length : Int) == 0) = true := by rw [hx]; rfl
        clear e4 hx
        rw [e1, e2, e3, la_nil.1, la_nil.2.1, la_nil.2.2]
        clear e1 e2 e3 h1 h2 okA okB
        go_enter Try.func13, Try.ntmps13
        go_wp2_with (first | (go_at_call 28; with_reducible refine Calls.mono (HA.out _ ?_) ?_; (repeat (first | (with_reducible exact Below.refl _ _) | (with_reducible assumption) | (with_reducible refine below_plus' ?_ ?_; ((try simp only [plus_size, World.size_alloc, World.size_drew, World.size_setCell, size_setRow, World.heap_drewN, List.length_append]) <;> omega)) | (with_reducible refine below_alloc' ?_ ?_; ((try simp only [plus_size, World.size_alloc, World.size_drew, World.size_setCell, size_setRow, World.heap_drewN, List.length_append]) <;> omega)) | with_reducible refine Below.drew ?_ | (with_reducible refine below_drewN' ?_ _) | exact Below.refl _ _)); rintro e w' ⟨rfl, hB⟩; obtain ⟨jHA, dHA, rfl⟩ := plus_of_below hB; clear hB) | (go_at_call 28; with_reducible refine Calls.mono (HB.out _ ?_) ?_; (repeat (first | (with_reducible exact Below.refl _ _) | (with_reducible assumption) | (with_reducible refine below_plus' ?_ ?_; ((try simp only [plus_size, World.size_alloc, World.size_drew, World.size_setCell, size_setRow, World.heap_drewN, List.length_append]) <;> omega)) | (with_reducible refine below_alloc' ?_ ?_; ((try simp only [plus_size, World.size_alloc, World.size_drew, World.size_setCell, size_setRow, World.heap_drewN, List.length_append]) <;> omega)) | with_reducible refine Below.drew ?_ | (with_reducible refine below_drewN' ?_ _) | exact Below.refl _ _)); rintro e w' ⟨rfl, hB⟩; obtain ⟨jHB, dHB, rfl⟩ := plus_of_below hB; clear hB))
        refine bodyPost_ret (v := .tuple #[.agg #[.int .i64 0, .slice none 0 0], .int .i64 0]) (by simp [results, Try.results13, go_sem]) rfl ?_
        exact ⟨_, rfl, by (repeat (first | (with_reducible exact Below.refl _ _) | (with_reducible assumption) | (with_reducible refine below_plus' ?_ ?_; ((try simp only [plus_size, World.size_alloc, World.size_drew, World.size_setCell, size_setRow, World.heap_drewN, List.length_append]) <;> omega)) | (with_reducible refine below_alloc' ?_ ?_; ((try simp only [plus_size, World.size_alloc, World.size_drew, World.size_setCell, size_setRow, World.heap_drewN, List.length_append]) <;> omega)) | with_reducible refine Below.drew ?_ | (with_reducible refine below_drewN' ?_ _) | exact Below.refl _ _)), own_nil _ _ _⟩
      · have hxb : ((xs.length : Int) == 0) = false := beq_eq_false_iff_ne.2 (by omega)
        by_cases hy : ys.length = 0
        · have e4 : mulLow n xs m ys = 0 ∧ mulLst xs ys = [] := by simp [mulLow, mulLst, hy]
          rw [e4.1, e4.2] at e1 e2 e3
          have hyb : ((ys.length : Int) == 0) = true := by rw [hy]; rfl
          clear e4 hy
          rw [e1, e2, e3, la_nil.1, la_nil.2.1, la_nil.2.2]
          clear e1 e2 e3 h1 h2 okA okB
          go_enter Try.func13, Try.ntmps13
          go_wp2_with (first | (go_at_call 28; with_reducible refine Calls.mono (HA.out _ ?_) ?_; (repeat (first | (with_reducible exact Below.refl _ _) | (with_reducible assumption) | (with_reducible refine below_plus' ?_ ?_; ((try simp only [plus_size, World.size_alloc, World.size_drew, World.size_setCell, size_setRow, World.heap_drewN, List.length_append]) <;> omega)) | (with_reducible refine below_alloc' ?_ ?_; ((try simp only [plus_size, World.size_alloc, World.size_drew, World.size_setCell, size_setRow, World.heap_drewN, List.length_append]) <;> omega)) | with_reducible refine Below.drew ?_ | (with_reducible refine below_drewN' ?_ _) | exact Below.refl _ _)); rintro e w' ⟨rfl, hB⟩; obtain ⟨jHA, dHA, rfl⟩ := plus_of_below hB; clear hB) | (go_at_call 28; with_reducible refine Calls.mono (HB.out _ ?_) ?_; (repeat (first | (with_reducible exact Below.refl _ _) | (with_reducible assumption) | (with_reducible refine below_plus' ?_ ?_; ((try simp only [plus_size, World.size_alloc, World.size_drew, World.size_setCell, size_setRow, World.heap_drewN, List.length_append]) <;> omega)) | (with_reducible refine below_alloc' ?_ ?_; ((try simp only [plus_size, World.size_alloc, World.size_drew, World.size_setCell, size_setRow, World.heap_drewN, List.length_append]) <;> omega)) | with_reducible refine Below.drew ?_ | (with_reducible refine below_drewN' ?_ _) | exact Below.refl _ _)); rintro e w' ⟨rfl, hB⟩; obtain ⟨jHB, dHB, rfl⟩ := plus_of_below hB; clear hB))
          refine bodyPost_ret (v := .tuple #[.agg #[.int .i64 0, .slice none 0 0], .int .i64 0]) (by simp [results, Try.results13, go_sem]) rfl ?_
          exact ⟨_, rfl, by (repeat (first | (with_reducible exact Below.refl _ _) | (with_reducible assumption) | (with_reducible refine below_plus' ?_ ?_; ((try simp only [plus_size, World.size_alloc, World.size_drew, World.size_setCell, size_setRow, World.heap_drewN, List.length_append]) <;> omega)) | (with_reducible refine below_alloc' ?_ ?_; ((try simp only [plus_size, World.size_alloc, World.size_drew, World.size_setCell, size_setRow, World.heap_drewN, List.length_append]) <;> omega)) | with_reducible refine Below.drew ?_ | (with_reducible refine below_drewN' ?_ _) | exact Below.refl _ _)), own_nil _ _ _⟩
        · have hyb : ((ys.length : Int) == 0) = false := beq_eq_false_iff_ne.2 (by omega)
          obtain ⟨i1, i2, i3, i4⟩ := okL_true okA
          obtain ⟨l1, l2, l3, l4⟩ := okL_true okB
          have HC1 := Lib.hid i4
          have HC2 := Lib.hid l4
          obtain ⟨N, hN⟩ : ∃ N, xs.length + ys.length - 1 = N := ⟨_, rfl⟩
          have hmlow : mulLow n xs m ys = trimLow (n + m) (lstI N (cvR xs ys xs.length)) := by simp [mulLow, hx, hy, hN]
          have hmlst : mulLst xs ys = trimLst (lstI N (cvR xs ys xs.length)) := by simp [mulLst, hx, hy, hN]
          have hNi : (xs.length : Int) + (ys.length : Int) - 1 = (N : Int) := by omega
          have HNx := Lib.hid hN
          have hNb : N ≤ 4001 := by omega
          rw [e1, e2, e3, hmlow, hmlst]
          clear e1 e2 e3 hmlow hmlst h1 h2 okA okB i4 l4 hN
          go_enter Try.func13, Try.ntmps13
          go_wp2_with (first | (go_at_call 28; with_reducible refine Calls.mono (HA.out _ ?_) ?_; (repeat (first | (with_reducible exact Below.refl _ _) | (with_reducible assumption) | (with_reducible refine below_plus' ?_ ?_; ((try simp only [plus_size, World.size_alloc, World.size_drew, World.size_setCell, size_setRow, World.heap_drewN, List.length_append]) <;> omega)) | (with_reducible refine below_alloc' ?_ ?_; ((try simp only [plus_size, World.size_alloc, World.size_drew, World.size_setCell, size_setRow, World.heap_drewN, List.length_append]) <;> omega)) | with_reducible refine Below.drew ?_ | (with_reducible refine below_drewN' ?_ _) | exact Below.refl _ _)); rintro e w' ⟨rfl, hB⟩; obtain ⟨jHA, dHA, rfl⟩ := plus_of_below hB; clear hB) | (go_at_call 28; with_reducible refine Calls.mono (HB.out _ ?_) ?_; (repeat (first | (with_reducible exact Below.refl _ _) | (with_reducible assumption) | (with_reducible refine below_plus' ?_ ?_; ((try simp only [plus_size, World.size_alloc, World.size_drew, World.size_setCell, size_setRow, World.heap_drewN, List.length_append]) <;> omega)) | (with_reducible refine below_alloc' ?_ ?_; ((try simp only [plus_size, World.size_alloc, World.size_drew, World.size_setCell, size_setRow, World.heap_drewN, List.length_append]) <;> omega)) | with_reducible refine Below.drew ?_ | (with_reducible refine below_drewN' ?_ _) | exact Below.refl _ _)); rintro e w' ⟨rfl, hB⟩; obtain ⟨jHB, dHB, rfl⟩ := plus_of_below hB; clear hB))
          go_loopw [7, 6] (fun sk vo wr => ∃ (v0 : Value) (k : Nat) (j : List Obj) (d : Nat), v0 = vo ∧ k ≤ N ∧ sk = .int .i64 k ∧ wr = plus (plus (plus (((w.alloc (.cells #[.int .i64 n, .slice a1 xs.length c1] 26)).alloc (.cells #[.int .i64 m, .slice a2 ys.length c2] 26)).alloc (.cells #[.int .i64 0, .slice none 0 0] 26)) jHA dHA) jHB dHB) j d ∧ Hid (own 2 (plus (plus (plus (((w.alloc (.cells #[.int .i64 n, .slice a1 xs.length c1] 26)).alloc (.cells #[.int .i64 m, .slice a2 ys.length c2] 26)).alloc (.cells #[.int .i64 0, .slice none 0 0] 26)) jHA dHA) jHB dHB) j d) (plus (plus (((w.alloc (.cells #[.int .i64 n, .slice a1 xs.length c1] 26)).alloc (.cells #[.int .i64 m, .slice a2 ys.length c2] 26)).alloc (.cells #[.int .i64 0, .slice none 0 0] 26)) jHA dHA) jHB dHB).heap.size v0 (lstI k (cvR xs ys xs.length))) ∧ Hid (∀ t, t < k → inB (cvR xs ys xs.length t) (-1000000000000) 1000000000000 = true)) (fun sk _ _ => N - (intOf sk).toNat)
          case atStart => exact ⟨_, 0, [.cells #[] 2], (plus (plus (((w.alloc (.cells #[.int .i64 n, .slice a1 xs.length c1] 26)).alloc (.cells #[.int .i64 m, .slice a2 ys.length c2] 26)).alloc (.cells #[.int .i64 0, .slice none 0 0] 26)) jHA dHA) jHB dHB).drawn, rfl, by omega, by go_num, rfl, Lib.hid (show own 2 ((plus (plus (((w.alloc (.cells #[.int .i64 n, .slice a1 xs.length c1] 26)).alloc (.cells #[.int .i64 m, .slice a2 ys.length c2] 26)).alloc (.cells #[.int .i64 0, .slice none 0 0] 26)) jHA dHA) jHB dHB).alloc (.cells #[] 2)) (plus (plus (((w.alloc (.cells #[.int .i64 n, .slice a1 xs.length c1] 26)).alloc (.cells #[.int .i64 m, .slice a2 ys.length c2] 26)).alloc (.cells #[.int .i64 0, .slice none 0 0] 26)) jHA dHA) jHB dHB).heap.size _ [] from own_madeE (by ((try simp only [plus_size, World.size_alloc, World.size_drew, World.size_setCell, size_setRow, World.heap_drewN, List.length_append]) <;> omega)) (Nat.le_refl _)), Lib.hid (fun t ht => by omega)⟩
          case round =>
            obtain ⟨v0, k, j, d, rfl, hk, rfl, rfl, HOWN, HI⟩ := hrel
            have hown := HOWN.out
            clear HOWN
            have ho := hown.reads
            obtain ⟨a0, c0, rfl⟩ : ∃ a0 c0, v0 = .slice a0 k c0 := by
              obtain ⟨a, c, h⟩ := readsL_form ho
              exact ⟨a, c, by rw [h, lstI_length]⟩
            by_cases hlt : k < N
            · have hki : (k : Int) < (N : Int) := by omega
              obtain ⟨i0, hi0, hi0a, hi0b⟩ : ∃ i0 : Nat, (if (0 : Int) < (k : Int) - (ys.length : Int) + 1 then (k : Int) - (ys.length : Int) + 1 else 0) = (i0 : Int) ∧ (∀ i, i < i0 → ys.length ≤ k - i) ∧ (i0 ≤ k ∧ i0 < xs.length ∧ k < i0 + ys.length) := by
                have := HNx.out
                by_cases h : (0 : Int) < (k : Int) - (ys.length : Int) + 1
                · exact ⟨k + 1 - ys.length, by rw [if_pos h]; omega, fun i hi => by omega, by omega⟩
                · exact ⟨0, by rw [if_neg h]; rfl, fun i hi => by omega, by omega⟩
              obtain ⟨hi0c, hi0d, hi0e⟩ := hi0b
              have HZ := Lib.hid hi0a
              clear hi0a
              have hlo := fun q (hq : (Value.slice a0 k c0).ownBlock = some q) => (hown.lt q hq).2
              (simp only [plus_size, World.size_alloc] at hlo)
              go_wp2
              go_loopw [10, 8, 9] (fun si va vb wr => ∃ (p1 p2 : Value) (i c : Nat) (j1 : List Obj) (d1 : Nat), p1 = va ∧ p2 = vb ∧ Hid (i = i0 + c) ∧ i ≤ k + 1 ∧ i ≤ xs.length ∧ si = .int .i64 i ∧ wr = plus (plus (plus (((w.alloc (.cells #[.int .i64 n, .slice a1 xs.length c1] 26)).alloc (.cells #[.int .i64 m, .slice a2 ys.length c2] 26)).alloc (.cells #[.int .i64 0, .slice none 0 0] 26)) jHA dHA) jHB dHB) j1 d1 ∧ Hid (Tri 2 (plus (plus (plus (((w.alloc (.cells #[.int .i64 n, .slice a1 xs.length c1] 26)).alloc (.cells #[.int .i64 m, .slice a2 ys.length c2] 26)).alloc (.cells #[.int .i64 0, .slice none 0 0] 26)) jHA dHA) jHB dHB) j1 d1) (plus (plus (((w.alloc (.cells #[.int .i64 n, .slice a1 xs.length c1] 26)).alloc (.cells #[.int .i64 m, .slice a2 ys.length c2] 26)).alloc (.cells #[.int .i64 0, .slice none 0 0] 26)) jHA dHA) jHB dHB).heap.size (.slice a0 k c0) p1 p2 (lstI k (cvR xs ys xs.length)) (lstI c fun j => nth xs (i0 + j)) (lstI c fun j => nth ys (k - (i0 + j))))) (fun si _ _ _ => xs.length - (intOf si).toNat)
              case atStart =>
                refine ⟨_, _, i0, 0, j ++ [.cells #[] 2] ++ [.cells #[] 2], d, rfl, rfl, Lib.hid rfl, by omega, by omega, by go_num, by rw [plus_alloc, plus_alloc], Lib.hid ?_⟩
                rw [← plus_alloc, ← plus_alloc]
                refine ⟨hown.kept (by (repeat (first | (with_reducible exact Below.refl _ _) | (with_reducible assumption) | (with_reducible refine below_plus' ?_ ?_; ((try simp only [plus_size, World.size_alloc, World.size_drew, World.size_setCell, size_setRow, World.heap_drewN, List.length_append]) <;> omega)) | (with_reducible refine below_alloc' ?_ ?_; ((try simp only [plus_size, World.size_alloc, World.size_drew, World.size_setCell, size_setRow, World.heap_drewN, List.length_append]) <;> omega)) | with_reducible refine Below.drew ?_ | (with_reducible refine below_drewN' ?_ _) | exact Below.refl _ _))), (show own 2 ((plus (plus (plus (((w.alloc (.cells #[.int .i64 n, .slice a1 xs.length c1] 26)).alloc (.cells #[.int .i64 m, .slice a2 ys.length c2] 26)).alloc (.cells #[.int .i64 0, .slice none 0 0] 26)) jHA dHA) jHB dHB) j d).alloc (.cells #[] 2)) (plus (plus (((w.alloc (.cells #[.int .i64 n, .slice a1 xs.length c1] 26)).alloc (.cells #[.int .i64 m, .slice a2 ys.length c2] 26)).alloc (.cells #[.int .i64 0, .slice none 0 0] 26)) jHA dHA) jHB dHB).heap.size _ [] from own_madeE (by ((try simp only [plus_size, World.size_alloc, World.size_drew, World.size_setCell, size_setRow, World.heap_drewN, List.length_append]) <;> omega)) (by ((try simp only [plus_size, World.size_alloc, World.size_drew, World.size_setCell, size_setRow, World.heap_drewN, List.length_append]) <;> omega))).kept (by (repeat (first | (with_reducible exact Below.refl _ _) | (with_reducible assumption) | (with_reducible refine below_plus' ?_ ?_; ((try simp only [plus_size, World.size_alloc, World.size_drew, World.size_setCell, size_setRow, World.heap_drewN, List.length_append]) <;> omega)) | (with_reducible refine below_alloc' ?_ ?_; ((try simp only [plus_size, World.size_alloc, World.size_drew, World.size_setCell, size_setRow, World.heap_drewN, List.length_append]) <;> omega)) | with_reducible refine Below.drew ?_ | (with_reducible refine below_drewN' ?_ _) | exact Below.refl _ _))), own_madeE (by ((try simp only [plus_size, World.size_alloc, World.size_drew, World.size_setCell, size_setRow, World.heap_drewN, List.length_append]) <;> omega)) (by ((try simp only [plus_size, World.size_alloc, World.size_drew, World.size_setCell, size_setRow, World.heap_drewN, List.length_append]) <;> omega)), fun q h1 h2 => ?_, fun q h1 h2 => ?_, fun q h1 h2 => ?_⟩
                · have := hlo q h1; simp only [Value.ownBlock, Option.some.injEq] at h2; omega
                · have := hlo q h1; simp only [Value.ownBlock, Option.some.injEq] at h2; omega
                · simp only [Value.ownBlock, Option.some.injEq] at h1 h2; omega
              case round =>
                clear ho hown hlo
                obtain ⟨p1, p2, i, c, j1, d1, rfl, rfl, HIC, hik, hix, rfl, rfl, HT⟩ := hrel
                by_cases hc1 : i ≤ k
                · have hc1i : (i : Int) ≤ (k : Int) := by omega
                  by_cases hc2 : i < xs.length
                  · have hc2i : (i : Int) < (xs.length : Int) := by omega
                    obtain ⟨b, q, rfl, hbk, mm⟩ := reads_cells H1.out (by omega)
                    have g1 := mm i hc2
                    obtain ⟨b', q', rfl, hbk', mm'⟩ := reads_cells H2.out (by omega)
                    obtain ⟨p, hp, hpk, hpl⟩ : ∃ p : Nat, (k : Int) - (i : Int) = p ∧ p = k - i ∧ p < ys.length := by
                      have := HIC.out
                      exact ⟨k - i, by omega, rfl, by omega⟩
                    have g2 := mm' p hpl
                    have hpi : (p : Int) < (ys.length : Int) := by omega
                    have hb1 : b < w.heap.size + 1 := by omega
                    have hb2 : b < w.heap.size + 1 + 1 := by omega
                    have hb3 : b < w.heap.size + 1 + 1 + 1 := by omega
                    have hb1' : b' < w.heap.size + 1 := by omega
                    have hb2' : b' < w.heap.size + 1 + 1 := by omega
                    have hb3' : b' < w.heap.size + 1 + 1 + 1 := by omega
                    have hb4 : b < w.heap.size + 1 + 1 + 1 + jHA.length := by omega
                    have hb5 : b < w.heap.size + 1 + 1 + 1 + jHA.length + jHB.length := by omega
                    have hb4' : b' < w.heap.size + 1 + 1 + 1 + jHA.length := by omega
                    have hb5' : b' < w.heap.size + 1 + 1 + 1 + jHA.length + jHB.length := by omega
                    have hcl : c ≤ xs.length := by have := HIC.out; omega
                    have HL1 := Lib.hid (show (lstI c fun j => nth xs (i0 + j)) ++ [nth xs i] = lstI (c + 1) fun j => nth xs (i0 + j) by
                      rw [HIC.out]; exact lstI_succ c fun j => nth xs (i0 + j))
                    have HL2 := Lib.hid (show (lstI c fun j => nth ys (k - (i0 + j))) ++ [nth ys p] = lstI (c + 1) fun j => nth ys (k - (i0 + j)) by
                      rw [hpk, HIC.out]; exact lstI_succ c fun j => nth ys (k - (i0 + j)))
                    have HPK := Lib.hid hpk
                    have hla := lstI_length c fun j => nth xs (i0 + j)
                    have hlb := lstI_length c fun j => nth ys (k - (i0 + j))
                    generalize (lstI c fun j => nth xs (i0 + j)) = lA at HT HL1 hla
                    generalize (lstI c fun j => nth ys (k - (i0 + j))) = lB at HT HL2 hlb
                    have HLA := Lib.hid (show lA.length ≤ 2001 by omega)
                    have HLB := Lib.hid (show lB.length ≤ 2001 by omega)
                    clear mm mm' hpk hla hlb
                    go_wp2_with (first | (at_builtin; go_loud (refine wpList_appendW rfl _ _ 22 rfl 2 Try.underlying22 infoI (plus (plus (((w.alloc (.cells #[.int .i64 n, .slice (some ⟨b, q, none⟩) xs.length c1] 26)).alloc (.cells #[.int .i64 m, .slice (some ⟨b', q', none⟩) ys.length c2] 26)).alloc (.cells #[.int .i64 0, .slice none 0 0] 26)) jHA dHA) jHB dHB).heap.size p1 _ lA [nth xs i] rfl rfl (HT.out.kept (by (repeat (first | (with_reducible exact Below.refl _ _) | (with_reducible assumption) | (with_reducible refine below_plus' ?_ ?_; ((try simp only [plus_size, World.size_alloc, World.size_drew, World.size_setCell, size_setRow, World.heap_drewN, List.length_append]) <;> omega)) | (with_reducible refine below_alloc' ?_ ?_; ((try simp only [plus_size, World.size_alloc, World.size_drew, World.size_setCell, size_setRow, World.heap_drewN, List.length_append]) <;> omega)) | with_reducible refine Below.drew ?_ | (with_reducible refine below_drewN' ?_ _) | exact Below.refl _ _)))).2.1 (reads_built (by ((try simp only [plus_size, World.size_alloc, World.size_drew, World.size_setCell, size_setRow, World.heap_drewN, List.length_append]) <;> omega)) rfl rfl) (by have := HLA.out; simp only [List.length_cons, List.length_nil]; omega) (by ((try simp only [plus_size, World.size_alloc, World.size_drew, World.size_setCell, size_setRow, World.heap_drewN, List.length_append]) <;> omega)) ?_; intro v' w' k1 k2 k3 k4; have HT2 := Lib.hid ((HT.out.kept (by (repeat (first | (with_reducible exact Below.refl _ _) | (with_reducible assumption) | (with_reducible refine below_plus' ?_ ?_; ((try simp only [plus_size, World.size_alloc, World.size_drew, World.size_setCell, size_setRow, World.heap_drewN, List.length_append]) <;> omega)) | (with_reducible refine below_alloc' ?_ ?_; ((try simp only [plus_size, World.size_alloc, World.size_drew, World.size_setCell, size_setRow, World.heap_drewN, List.length_append]) <;> omega)) | with_reducible refine Below.drew ?_ | (with_reducible refine below_drewN' ?_ _) | exact Below.refl _ _)))).push1 k1 k2 k4); replace k3 := Below.trans (show Below (plus (plus (((w.alloc (.cells #[.int .i64 n, .slice (some ⟨b, q, none⟩) xs.length c1] 26)).alloc (.cells #[.int .i64 m, .slice (some ⟨b', q', none⟩) ys.length c2] 26)).alloc (.cells #[.int .i64 0, .slice none 0 0] 26)) jHA dHA) jHB dHB).heap.size (plus (plus (((w.alloc (.cells #[.int .i64 n, .slice (some ⟨b, q, none⟩) xs.length c1] 26)).alloc (.cells #[.int .i64 m, .slice (some ⟨b', q', none⟩) ys.length c2] 26)).alloc (.cells #[.int .i64 0, .slice none 0 0] 26)) jHA dHA) jHB dHB) _ by (repeat (first | (with_reducible exact Below.refl _ _) | (with_reducible assumption) | (with_reducible refine below_plus' ?_ ?_; ((try simp only [plus_size, World.size_alloc, World.size_drew, World.size_setCell, size_setRow, World.heap_drewN, List.length_append]) <;> omega)) | (with_reducible refine below_alloc' ?_ ?_; ((try simp only [plus_size, World.size_alloc, World.size_drew, World.size_setCell, size_setRow, World.heap_drewN, List.length_append]) <;> omega)) | with_reducible refine Below.drew ?_ | (with_reducible refine below_drewN' ?_ _) | exact Below.refl _ _))) k3; obtain ⟨j3, d3, rfl⟩ := plus_of_below k3; clear k1 k2 k3 k4 HT))
                                        | (at_builtin; go_loud (refine wpList_appendW rfl _ _ 22 rfl 2 Try.underlying22 infoI (plus (plus (((w.alloc (.cells #[.int .i64 n, .slice (some ⟨b, q, none⟩) xs.length c1] 26)).alloc (.cells #[.int .i64 m, .slice (some ⟨b', q', none⟩) ys.length c2] 26)).alloc (.cells #[.int .i64 0, .slice none 0 0] 26)) jHA dHA) jHB dHB).heap.size p2 _ lB [nth ys p] rfl rfl (HT2.out.kept (by (repeat (first | (with_reducible exact Below.refl _ _) | (with_reducible assumption) | (with_reducible refine below_plus' ?_ ?_; ((try simp only [plus_size, World.size_alloc, World.size_drew, World.size_setCell, size_setRow, World.heap_drewN, List.length_append]) <;> omega)) | (with_reducible refine below_alloc' ?_ ?_; ((try simp only [plus_size, World.size_alloc, World.size_drew, World.size_setCell, size_setRow, World.heap_drewN, List.length_append]) <;> omega)) | with_reducible refine Below.drew ?_ | (with_reducible refine below_drewN' ?_ _) | exact Below.refl _ _)))).2.2.1 (reads_built (by ((try simp only [plus_size, World.size_alloc, World.size_drew, World.size_setCell, size_setRow, World.heap_drewN, List.length_append]) <;> omega)) rfl rfl) (by have := HLB.out; simp only [List.length_cons, List.length_nil]; omega) (by ((try simp only [plus_size, World.size_alloc, World.size_drew, World.size_setCell, size_setRow, World.heap_drewN, List.length_append]) <;> omega)) ?_; intro v' w' k1 k2 k3 k4; have HT3 := Lib.hid ((HT2.out.kept (by (repeat (first | (with_reducible exact Below.refl _ _) | (with_reducible assumption) | (with_reducible refine below_plus' ?_ ?_; ((try simp only [plus_size, World.size_alloc, World.size_drew, World.size_setCell, size_setRow, World.heap_drewN, List.length_append]) <;> omega)) | (with_reducible refine below_alloc' ?_ ?_; ((try simp only [plus_size, World.size_alloc, World.size_drew, World.size_setCell, size_setRow, World.heap_drewN, List.length_append]) <;> omega)) | with_reducible refine Below.drew ?_ | (with_reducible refine below_drewN' ?_ _) | exact Below.refl _ _)))).push2 k1 k2 k4); replace k3 := Below.trans (show Below (plus (plus (((w.alloc (.cells #[.int .i64 n, .slice (some ⟨b, q, none⟩) xs.length c1] 26)).alloc (.cells #[.int .i64 m, .slice (some ⟨b', q', none⟩) ys.length c2] 26)).alloc (.cells #[.int .i64 0, .slice none 0 0] 26)) jHA dHA) jHB dHB).heap.size (plus (plus (((w.alloc (.cells #[.int .i64 n, .slice (some ⟨b, q, none⟩) xs.length c1] 26)).alloc (.cells #[.int .i64 m, .slice (some ⟨b', q', none⟩) ys.length c2] 26)).alloc (.cells #[.int .i64 0, .slice none 0 0] 26)) jHA dHA) jHB dHB) _ by (repeat (first | (with_reducible exact Below.refl _ _) | (with_reducible assumption) | (with_reducible refine below_plus' ?_ ?_; ((try simp only [plus_size, World.size_alloc, World.size_drew, World.size_setCell, size_setRow, World.heap_drewN, List.length_append]) <;> omega)) | (with_reducible refine below_alloc' ?_ ?_; ((try simp only [plus_size, World.size_alloc, World.size_drew, World.size_setCell, size_setRow, World.heap_drewN, List.length_append]) <;> omega)) | with_reducible refine Below.drew ?_ | (with_reducible refine below_drewN' ?_ _) | exact Below.refl _ _))) k3; obtain ⟨j4, d4, rfl⟩ := plus_of_below k3; clear k1 k2 k3 k4 HT2)))
                    go_roundw
                    case rel => exact ⟨_, _, i + 1, c + 1, _, _, rfl, rfl, Lib.hid (by rw [HIC.out]; omega), by omega, by omega, by go_num, rfl, Lib.hid (by rw [← HL1.out, ← HL2.out]; exact HT3.out)⟩
                    case measure => simp [intOf]; omega
                  · have hcn : ¬ (i : Int) < (xs.length : Int) := by omega
                    have hdot := dot_all (xs := xs) (ys := ys) (k := k) (i0 := i0) (c := c) HZ.out (by have := HIC.out; omega) (by have := HIC.out; omega) (by have := HIC.out; omega)
                    have hcl : c ≤ 2001 := by have := HIC.out; omega
                    have hla := lstI_length c fun j => nth xs (i0 + j)
                    have hlb := lstI_length c fun j => nth ys (k - (i0 + j))
                    have hax := allC_lst HC1.out c fun j => i0 + j
                    have hay := allC_lst HC2.out c fun j => k - (i0 + j)
                    generalize (lstI c fun j => nth xs (i0 + j)) = lA at HT hdot hla hax
                    generalize (lstI c fun j => nth ys (k - (i0 + j))) = lB at HT hdot hlb hay
                    have HX := l05Exact_any p1 p2 lA lB (plus (plus (plus (((w.alloc (.cells #[.int .i64 n, .slice a1 xs.length c1] 26)).alloc (.cells #[.int .i64 m, .slice a2 ys.length c2] 26)).alloc (.cells #[.int .i64 0, .slice none 0 0] 26)) jHA dHA) jHB dHB) j1 d1) HT.out.2.1.reads HT.out.2.2.1.reads (by rw [hla, hlb]) (by rw [hla]; exact hcl) hax hay
                    rw [hla, hdot] at HX
                    replace HX := Lib.hid HX
                    clear hdot hla hlb hax hay
                    obtain ⟨s, hs⟩ : ∃ s, cvR xs ys xs.length k = s := ⟨_, rfl⟩
                    simp only [hs] at HX
                    cases hin : inB s (-1000000000000) 1000000000000 with
                    | false =>
                      have HO := Lib.hid (trim_bad (low := n + m) (xs := lstI N (cvR xs ys xs.length)) (k := k) (by rw [nth_lstI hlt, hs]; exact hin))
                      have HX2 := Lib.hid (HX.out.mono (fun e w' hh => (show (∃ r : Int, e = .returned (.tuple #[.int .i64 r, .bool false])) ∧ Below (plus (plus (plus (((w.alloc (.cells #[.int .i64 n, .slice a1 xs.length c1] 26)).alloc (.cells #[.int .i64 m, .slice a2 ys.length c2] 26)).alloc (.cells #[.int .i64 0, .slice none 0 0] 26)) jHA dHA) jHB dHB) j1 d1).heap.size (plus (plus (plus (((w.alloc (.cells #[.int .i64 n, .slice a1 xs.length c1] 26)).alloc (.cells #[.int .i64 m, .slice a2 ys.length c2] 26)).alloc (.cells #[.int .i64 0, .slice none 0 0] 26)) jHA dHA) jHB dHB) j1 d1) w' from by obtain ⟨⟨r, he, hr⟩, hB⟩ := hh; exact ⟨⟨r, by rw [he, hin]⟩, hB⟩)))
                      clear HX hs hin
                      go_wp2_with (first | (go_at_call 38; with_reducible refine Calls.mono HX2.out ?_; rintro e w' ⟨⟨r, rfl⟩, hB⟩; obtain ⟨j5, d5, rfl⟩ := plus_of_below hB; rw [plus_plus]; clear hB))
                      refine bodyPost_ret (v := .tuple #[.agg #[.int .i64 0, .slice none 0 0], .int .i64 3]) (by simp [results, Try.results13, go_sem]) rfl ?_
                      exact ⟨_, by rw [(la_no HO.out).1, (la_no HO.out).2.2], by (repeat (first | (with_reducible exact Below.refl _ _) | (with_reducible assumption) | (with_reducible refine below_plus' ?_ ?_; ((try simp only [plus_size, World.size_alloc, World.size_drew, World.size_setCell, size_setRow, World.heap_drewN, List.length_append]) <;> omega)) | (with_reducible refine below_alloc' ?_ ?_; ((try simp only [plus_size, World.size_alloc, World.size_drew, World.size_setCell, size_setRow, World.heap_drewN, List.length_append]) <;> omega)) | with_reducible refine Below.drew ?_ | (with_reducible refine below_drewN' ?_ _) | exact Below.refl _ _)), by rw [(la_no HO.out).2.1]; exact own_nil _ _ _⟩
                    | true =>
                      have HI2 := Lib.hid hin
                      have HS := Lib.hid hs
                      have HX2 := Lib.hid (HX.out.mono (fun e w' hh => (show e = .returned (.tuple #[.int .i64 s, .bool true]) ∧ Below (plus (plus (plus (((w.alloc (.cells #[.int .i64 n, .slice a1 xs.length c1] 26)).alloc (.cells #[.int .i64 m, .slice a2 ys.length c2] 26)).alloc (.cells #[.int .i64 0, .slice none 0 0] 26)) jHA dHA) jHB dHB) j1 d1).heap.size (plus (plus (plus (((w.alloc (.cells #[.int .i64 n, .slice a1 xs.length c1] 26)).alloc (.cells #[.int .i64 m, .slice a2 ys.length c2] 26)).alloc (.cells #[.int .i64 0, .slice none 0 0] 26)) jHA dHA) jHB dHB) j1 d1) w' from by obtain ⟨⟨r, he, hr⟩, hB⟩ := hh; exact ⟨by rw [he, hin, hr hin], hB⟩)))
                      have HOW := Lib.hid HT.out.1
                      have HLK := Lib.hid (show (lstI k (cvR xs ys xs.length)).length < 1000000000 by rw [lstI_length]; omega)
                      clear HX hs hin
                      go_wp2_with (first | (go_at_call 38; with_reducible refine Calls.mono HX2.out ?_; rintro e w' ⟨rfl, hB⟩; obtain ⟨j5, d5, rfl⟩ := plus_of_below hB; rw [plus_plus]; clear hB) | (at_builtin; go_loud (refine wpList_append1p (W := (plus (plus (((w.alloc (.cells #[.int .i64 n, .slice a1 xs.length c1] 26)).alloc (.cells #[.int .i64 m, .slice a2 ys.length c2] 26)).alloc (.cells #[.int .i64 0, .slice none 0 0] 26)) jHA dHA) jHB dHB)) rfl _ _ 22 rfl Try.underlying22 infoI _ rfl _ rfl ?_ (own_plus HOW.out) HLK.out ?_; ((try simp only [plus_size, World.size_alloc, World.size_drew, World.size_setCell, size_setRow, World.heap_drewN, List.length_append]) <;> omega); intro v' j' d' hown'; have HW2 := Lib.hid hown'; clear hown')))
                      go_roundw
                      case rel => exact ⟨_, k + 1, _, _, rfl, by omega, by go_num, rfl, Lib.hid (by rw [← lstI_succ, HS.out]; exact HW2.out), Lib.hid (fun t ht => by by_cases e : t = k; (· rw [e, HS.out]; exact HI2.out); (· exact HI.out t (by omega)))⟩
                      case measure => simp [intOf]; omega
                · have hcn : ¬ (i : Int) ≤ (k : Int) := by omega
                  have hdot := dot_all (xs := xs) (ys := ys) (k := k) (i0 := i0) (c := c) HZ.out (by have := HIC.out; omega) (by have := HIC.out; omega) (by have := HIC.out; omega)
                  have hcl : c ≤ 2001 := by have := HIC.out; omega
                  have hla := lstI_length c fun j => nth xs (i0 + j)
                  have hlb := lstI_length c fun j => nth ys (k - (i0 + j))
                  have hax := allC_lst HC1.out c fun j => i0 + j
                  have hay := allC_lst HC2.out c fun j => k - (i0 + j)
                  generalize (lstI c fun j => nth xs (i0 + j)) = lA at HT hdot hla hax
                  generalize (lstI c fun j => nth ys (k - (i0 + j))) = lB at HT hdot hlb hay
                  have HX := l05Exact_any p1 p2 lA lB (plus (plus (plus (((w.alloc (.cells #[.int .i64 n, .slice a1 xs.length c1] 26)).alloc (.cells #[.int .i64 m, .slice a2 ys.length c2] 26)).alloc (.cells #[.int .i64 0, .slice none 0 0] 26)) jHA dHA) jHB dHB) j1 d1) HT.out.2.1.reads HT.out.2.2.1.reads (by rw [hla, hlb]) (by rw [hla]; exact hcl) hax hay
                  rw [hla, hdot] at HX
                  replace HX := Lib.hid HX
                  clear hdot hla hlb hax hay
                  obtain ⟨s, hs⟩ : ∃ s, cvR xs ys xs.length k = s := ⟨_, rfl⟩
                  simp only [hs] at HX
                  cases hin : inB s (-1000000000000) 1000000000000 with
                  | false =>
                    have HO := Lib.hid (trim_bad (low := n + m) (xs := lstI N (cvR xs ys xs.length)) (k := k) (by rw [nth_lstI hlt, hs]; exact hin))
                    have HX2 := Lib.hid (HX.out.mono (fun e w' hh => (show (∃ r : Int, e = .returned (.tuple #[.int .i64 r, .bool false])) ∧ Below (plus (plus (plus (((w.alloc (.cells #[.int .i64 n, .slice a1 xs.length c1] 26)).alloc (.cells #[.int .i64 m, .slice a2 ys.length c2] 26)).alloc (.cells #[.int .i64 0, .slice none 0 0] 26)) jHA dHA) jHB dHB) j1 d1).heap.size (plus (plus (plus (((w.alloc (.cells #[.int .i64 n, .slice a1 xs.length c1] 26)).alloc (.cells #[.int .i64 m, .slice a2 ys.length c2] 26)).alloc (.cells #[.int .i64 0, .slice none 0 0] 26)) jHA dHA) jHB dHB) j1 d1) w' from by obtain ⟨⟨r, he, hr⟩, hB⟩ := hh; exact ⟨⟨r, by rw [he, hin]⟩, hB⟩)))
                    clear HX hs hin
                    go_wp2_with (first | (go_at_call 38; with_reducible refine Calls.mono HX2.out ?_; rintro e w' ⟨⟨r, rfl⟩, hB⟩; obtain ⟨j5, d5, rfl⟩ := plus_of_below hB; rw [plus_plus]; clear hB))
                    refine bodyPost_ret (v := .tuple #[.agg #[.int .i64 0, .slice none 0 0], .int .i64 3]) (by simp [results, Try.results13, go_sem]) rfl ?_
                    exact ⟨_, by rw [(la_no HO.out).1, (la_no HO.out).2.2], by (repeat (first | (with_reducible exact Below.refl _ _) | (with_reducible assumption) | (with_reducible refine below_plus' ?_ ?_; ((try simp only [plus_size, World.size_alloc, World.size_drew, World.size_setCell, size_setRow, World.heap_drewN, List.length_append]) <;> omega)) | (with_reducible refine below_alloc' ?_ ?_; ((try simp only [plus_size, World.size_alloc, World.size_drew, World.size_setCell, size_setRow, World.heap_drewN, List.length_append]) <;> omega)) | with_reducible refine Below.drew ?_ | (with_reducible refine below_drewN' ?_ _) | exact Below.refl _ _)), by rw [(la_no HO.out).2.1]; exact own_nil _ _ _⟩
                  | true =>
                    have HI2 := Lib.hid hin
                    have HS := Lib.hid hs
                    have HX2 := Lib.hid (HX.out.mono (fun e w' hh => (show e = .returned (.tuple #[.int .i64 s, .bool true]) ∧ Below (plus (plus (plus (((w.alloc (.cells #[.int .i64 n, .slice a1 xs.length c1] 26)).alloc (.cells #[.int .i64 m, .slice a2 ys.length c2] 26)).alloc (.cells #[.int .i64 0, .slice none 0 0] 26)) jHA dHA) jHB dHB) j1 d1).heap.size (plus (plus (plus (((w.alloc (.cells #[.int .i64 n, .slice a1 xs.length c1] 26)).alloc (.cells #[.int .i64 m, .slice a2 ys.length c2] 26)).alloc (.cells #[.int .i64 0, .slice none 0 0] 26)) jHA dHA) jHB dHB) j1 d1) w' from by obtain ⟨⟨r, he, hr⟩, hB⟩ := hh; exact ⟨by rw [he, hin, hr hin], hB⟩)))
                    have HOW := Lib.hid HT.out.1
                    have HLK := Lib.hid (show (lstI k (cvR xs ys xs.length)).length < 1000000000 by rw [lstI_length]; omega)
                    clear HX hs hin
                    go_wp2_with (first | (go_at_call 38; with_reducible refine Calls.mono HX2.out ?_; rintro e w' ⟨rfl, hB⟩; obtain ⟨j5, d5, rfl⟩ := plus_of_below hB; rw [plus_plus]; clear hB) | (at_builtin; go_loud (refine wpList_append1p (W := (plus (plus (((w.alloc (.cells #[.int .i64 n, .slice a1 xs.length c1] 26)).alloc (.cells #[.int .i64 m, .slice a2 ys.length c2] 26)).alloc (.cells #[.int .i64 0, .slice none 0 0] 26)) jHA dHA) jHB dHB)) rfl _ _ 22 rfl Try.underlying22 infoI _ rfl _ rfl ?_ (own_plus HOW.out) HLK.out ?_; ((try simp only [plus_size, World.size_alloc, World.size_drew, World.size_setCell, size_setRow, World.heap_drewN, List.length_append]) <;> omega); intro v' j' d' hown'; have HW2 := Lib.hid hown'; clear hown')))
                    go_roundw
                    case rel => exact ⟨_, k + 1, _, _, rfl, by omega, by go_num, rfl, Lib.hid (by rw [← lstI_succ, HS.out]; exact HW2.out), Lib.hid (fun t ht => by by_cases e : t = k; (· rw [e, HS.out]; exact HI2.out); (· exact HI.out t (by omega)))⟩
                    case measure => simp [intOf]; omega
            · obtain rfl : k = N := by omega
              have HF := Lib.hid (show Fits (trimLst (lstI k (cvR xs ys xs.length))) from fun x hx => by
                obtain ⟨i, hi, rfl⟩ := List.mem_iff_getElem.1 hx
                obtain ⟨t, ht, e⟩ := trimLst_nth hi
                rw [show nth (trimLst (lstI k (cvR xs ys xs.length))) i = (trimLst (lstI k (cvR xs ys xs.length)))[i] by simp [nth, hi]] at e
                rw [lstI_length] at ht
                rw [nth_lstI ht] at e
                have := inB_true (HI.out t ht)
                omega)
              have hle := trimLst_len (lstI k (cvR xs ys xs.length))
              rw [lstI_length] at hle
              have HTr := l05Trim_any (n + m) a0 c0 (lstI k (cvR xs ys xs.length)) (plus (plus (plus (((w.alloc (.cells #[.int .i64 n, .slice a1 xs.length c1] 26)).alloc (.cells #[.int .i64 m, .slice a2 ys.length c2] 26)).alloc (.cells #[.int .i64 0, .slice none 0 0] 26)) jHA dHA) jHB dHB) j d) (by rw [lstI_length]; exact ho) hown.cap (by rw [lstI_length]; omega) (by omega) (by omega)
              rw [lstI_length] at HTr
              replace HTr := Lib.hid HTr
              have hR := fun u w' (h : reads w' u (trimLst (lstI k (cvR xs ys xs.length)))) => spec_Is (trimLow (n + m) (lstI k (cvR xs ys xs.length))) u _ w' h (by omega) HF.out
              obtain ⟨r, hr⟩ : ∃ r, trimLow (n + m) (lstI k (cvR xs ys xs.length)) = r := ⟨_, rfl⟩
              obtain ⟨R, hRR⟩ : ∃ R, trimLst (lstI k (cvR xs ys xs.length)) = R := ⟨_, rfl⟩
              rw [hr, hRR] at hR HTr
              have HrR := Lib.hid (And.intro hr hRR)
              clear ho hown hr hRR hle
              cases hok : okL r R with
              | false =>
                simp only [hok] at hR
                have HR := Lib.hid hR
                have HO := Lib.hid hok
                clear hR hok
                go_wp2_with (first | (go_at_call 39; with_reducible refine Calls.mono HTr.out ?_; intro e w' hh; obtain ⟨vG, rfl, hB, hoG⟩ := retB_form hh; clear hh; have hrG := hoG.reads; obtain ⟨aG, cG, rfl⟩ := readsL_form hrG; obtain ⟨j, d, rfl⟩ := plus_of_below hB; clear hB) | (go_at_call 28; with_reducible refine Calls.mono (HR.out _ _ ?_) ?_; exact hrG.kept (by (repeat (first | (with_reducible exact Below.refl _ _) | (with_reducible assumption) | (with_reducible refine below_plus' ?_ ?_; ((try simp only [plus_size, World.size_alloc, World.size_drew, World.size_setCell, size_setRow, World.heap_drewN, List.length_append]) <;> omega)) | (with_reducible refine below_alloc' ?_ ?_; ((try simp only [plus_size, World.size_alloc, World.size_drew, World.size_setCell, size_setRow, World.heap_drewN, List.length_append]) <;> omega)) | with_reducible refine Below.drew ?_ | (with_reducible refine below_drewN' ?_ _) | exact Below.refl _ _))); rintro e w' ⟨rfl, hB⟩; obtain ⟨j, d, rfl⟩ := plus_of_below hB; clear hB))
                refine bodyPost_ret (v := .tuple #[.agg #[.int .i64 0, .slice none 0 0], .int .i64 3]) (by simp [results, Try.results13, go_sem]) rfl ?_
                exact ⟨_, by rw [HrR.out.1, HrR.out.2, (la_no HO.out).1, (la_no HO.out).2.2], by (repeat (first | (with_reducible exact Below.refl _ _) | (with_reducible assumption) | (with_reducible refine below_plus' ?_ ?_; ((try simp only [plus_size, World.size_alloc, World.size_drew, World.size_setCell, size_setRow, World.heap_drewN, List.length_append]) <;> omega)) | (with_reducible refine below_alloc' ?_ ?_; ((try simp only [plus_size, World.size_alloc, World.size_drew, World.size_setCell, size_setRow, World.heap_drewN, List.length_append]) <;> omega)) | with_reducible refine Below.drew ?_ | (with_reducible refine below_drewN' ?_ _) | exact Below.refl _ _)), by rw [HrR.out.1, HrR.out.2, (la_no HO.out).2.1]; exact own_nil _ _ _⟩
              | true =>
                simp only [hok] at hR
                have HR := Lib.hid hR
                have HO := Lib.hid hok
                clear hR hok
                go_wp2_with (first | (go_at_call 39; with_reducible refine Calls.mono HTr.out ?_; intro e w' hh; obtain ⟨vG, rfl, hB, hoG⟩ := retB_form hh; clear hh; have hrG := hoG.reads; obtain ⟨aG, cG, rfl⟩ := readsL_form hrG; obtain ⟨j, d, rfl⟩ := plus_of_below hB; clear hB) | (go_at_call 28; with_reducible refine Calls.mono (HR.out _ _ ?_) ?_; exact hrG.kept (by (repeat (first | (with_reducible exact Below.refl _ _) | (with_reducible assumption) | (with_reducible refine below_plus' ?_ ?_; ((try simp only [plus_size, World.size_alloc, World.size_drew, World.size_setCell, size_setRow, World.heap_drewN, List.length_append]) <;> omega)) | (with_reducible refine below_alloc' ?_ ?_; ((try simp only [plus_size, World.size_alloc, World.size_drew, World.size_setCell, size_setRow, World.heap_drewN, List.length_append]) <;> omega)) | with_reducible refine Below.drew ?_ | (with_reducible refine below_drewN' ?_ _) | exact Below.refl _ _))); rintro e w' ⟨rfl, hB⟩; obtain ⟨j, d, rfl⟩ := plus_of_below hB; clear hB))
                refine bodyPost_ret (v := .tuple #[.agg #[.int .i64 r, .slice aG R.length cG], .int .i64 0]) (by simp [results, Try.results13, go_sem]) rfl ?_
                exact ⟨_, by rw [HrR.out.1, HrR.out.2, (la_yes HO.out).1, (la_yes HO.out).2.2], by (repeat (first | (with_reducible exact Below.refl _ _) | (with_reducible assumption) | (with_reducible refine below_plus' ?_ ?_; ((try simp only [plus_size, World.size_alloc, World.size_drew, World.size_setCell, size_setRow, World.heap_drewN, List.length_append]) <;> omega)) | (with_reducible refine below_alloc' ?_ ?_; ((try simp only [plus_size, World.size_alloc, World.size_drew, World.size_setCell, size_setRow, World.heap_drewN, List.length_append]) <;> omega)) | with_reducible refine Below.drew ?_ | (with_reducible refine below_drewN' ?_ _) | exact Below.refl _ _)), by rw [HrR.out.1, HrR.out.2, (la_yes HO.out).2.1]; ((try simp only [plus_alloc, plus_plus] at hoG ⊢); exact own_farG hoG (by ((try simp only [plus_size, World.size_alloc, World.size_drew, World.size_setCell, size_setRow, World.heap_drewN, List.length_append, List.length_cons, List.length_nil]) <;> omega)) (by ((try simp only [plus_size, World.size_alloc, World.size_drew, World.size_setCell, size_setRow, World.heap_drewN, List.length_append, List.length_cons, List.length_nil]) <;> omega)) (by ((try simp only [plus_size, World.size_alloc, World.size_drew, World.size_setCell, size_setRow, World.heap_drewN, List.length_append, List.length_cons, List.length_nil]) <;> omega)) (by (repeat (first | (with_reducible exact List.prefix_rfl) | (with_reducible exact List.nil_prefix) | (refine List.IsPrefix.trans ?_ (List.prefix_append _ _))))))⟩
end Go.Proofs.Ytcipdgmimmngoaa
