/- Matrices of polynomials, read. Conditions: as each theorem says. -/
import Derived.Test.YtikakoclmmmjdaaMc
import Derived.Test.YtikakoclmmmjdaaYc
namespace Go.Proofs.Ytikakoclmmmjdaa
open Go.RowKit
set_option linter.unusedSimpArgs false
set_option linter.unusedVariables false
open Go.RowKit
/-- a square matrix of polynomials that is only read -/
def readsM (w : World) (v : Value) (m : Nat) (F : Nat → Nat → Pol) : Prop :=
  ∃ a c, v = .slice a m c ∧ (m = 0 ∨ ∃ b, a = some ⟨b, 0, none⟩ ∧ b < w.heap.size ∧ ∀ i, i < m → ∃ rb rc, w.cell? ⟨b, i, none⟩ = some (.slice (some ⟨rb, 0, none⟩) m rc) ∧ rb < w.heap.size ∧
    ∀ j, j < m → ∃ sa sc, w.cell? ⟨rb, j * 2, none⟩ = some (.int .i64 (F i j).1) ∧ w.cell? ⟨rb, j * 2 + 1, none⟩ = some (.slice sa (F i j).2.length sc) ∧ reads w (.slice sa (F i j).2.length sc) (F i j).2)
theorem readsM.kept {w w' : World} {v : Value} {m : Nat} {F : Nat → Nat → Pol} (h : readsM w v m F) (hb : Below w.heap.size w w') : readsM w' v m F := by
  obtain ⟨a, c, hv, h⟩ := h
  refine ⟨a, c, hv, ?_⟩
  rcases h with h | ⟨b, ha, hbl, h⟩
  · exact .inl h
  · refine .inr ⟨b, ha, Nat.lt_of_lt_of_le hbl hb.size, fun i hi => ?_⟩
    obtain ⟨rb, rc, h1, h2, h3⟩ := h i hi
    refine ⟨rb, rc, by rw [hb.cell (p := ⟨b, i, none⟩) hbl]; exact h1, Nat.lt_of_lt_of_le h2 hb.size, fun j hj => ?_⟩
    obtain ⟨sa, sc, h4, h5, h6⟩ := h3 j hj
    exact ⟨sa, sc, by rw [hb.cell (p := ⟨rb, j * 2, none⟩) h2]; exact h4, by rw [hb.cell (p := ⟨rb, j * 2 + 1, none⟩) h2]; exact h5, h6.kept hb⟩
/-- a matrix of the call's own can be read -/
theorem tabG.readsM {S T : TypeId} {w : World} {B : Nat} {v : Value} {m : Nat} {F : Nat → Nat → Pol} (hST : S ≠ T) (h : tabG S T (Co 2) w B v (plT m m F)) : readsM w v m F := by
  obtain ⟨a, c, hv⟩ := h.len
  rw [plT_length] at hv
  refine ⟨a, c, hv, ?_⟩
  rcases Nat.eq_zero_or_pos m with h0 | h0
  · exact .inl h0
  · obtain ⟨g, c2, rv, hv2, _, hg, _, _, _⟩ := h.wrote hST (i := 0) (by rw [plT_length]; exact h0)
    rw [hv, plT_length] at hv2
    cases hv2
    refine .inr ⟨g, rfl, hg, fun i hi => ?_⟩
    obtain ⟨g2, c3, rv, hv3, _, hg2, hc, hr, _⟩ := h.wrote hST (i := i) (by rw [plT_length]; exact hi)
    rw [hv, plT_length] at hv3
    cases hv3
    rw [prow_plT hi] at hr
    obtain ⟨rb, rc, sv, hrv, _, hrb, _, _, _⟩ := hr.at (i := 0) (by rw [plL_length]; exact h0)
    rw [plL_length] at hrv
    subst hrv
    refine ⟨rb, rc, hc, hrb, fun j hj => ?_⟩
    obtain ⟨rb2, rc2, sv, hrv, _, _, h4, h5, h6⟩ := hr.at (i := j) (by rw [plL_length]; exact hj)
    rw [plL_length] at hrv
    cases hrv
    rw [pAt_plL hj] at h4 h6
    have h7 : reads w sv (F i j).2 := own.reads h6
    obtain ⟨sa, sc, rfl⟩ := readsL_form h7
    exact ⟨sa, sc, h4, h5, h7⟩
/-- all entries are polynomials -/
def allM (m : Nat) (F : Nat → Nat → Pol) : Bool := decide (∀ i, i < m → ∀ j, j < m → okL (F i j).1 (F i j).2 = true)
theorem allM_bad {m : Nat} {F : Nat → Nat → Pol} {i j : Nat} (hi : i < m) (hj : j < m) (h : okL (F i j).1 (F i j).2 = false) : allM m F = false := by
  simp only [allM, decide_eq_false_iff_not]
  intro h2
  rw [h2 i hi j hj] at h
  cases h
theorem allM_good {m : Nat} {F : Nat → Nat → Pol} (h : ∀ i, i < m → ∀ j, j < m → okL (F i j).1 (F i j).2 = true) : allM m F = true := decide_eq_true h
/-- entries of moderate size -/
def fitM (m : Nat) (F : Nat → Nat → Pol) : Prop := ∀ i, i < m → ∀ j, j < m → (F i j).2.length ≤ 10000 ∧ Fits (F i j).2
set_option maxHeartbeats 2000000 in
theorem l05All_any (v : Value) (m : Nat) (F : Nat → Nat → Pol) (w : World) (h : readsM w v m F) (hm : m ≤ 8) (hf : fitM m F) : Calls Try.prog 46 #[v] w fun e w' => e = .returned (.bool (allM m F)) ∧ Below w.heap.size w w' := by
  obtain ⟨a, c, rfl, h⟩ := h
  have HM := Lib.hid h
  have HF := Lib.hid hf
  clear h hf
  go_enter Try.func46, Try.ntmps46
  go_wp2
  go_loopw [3, 4] (fun si sj wr => ∃ i : Nat, i ≤ m ∧ si = .int .i64 i ∧ Hid (∀ x, x < i → ∀ y, y < m → okL (F x y).1 (F x y).2 = true) ∧ Below w.heap.size w wr) (fun si _ _ => m - (intOf si).toNat)
  case atStart => exact ⟨0, by omega, rfl, Lib.hid (fun x hx => by omega), by (repeat (first | (with_reducible exact Below.refl _ _) | (with_reducible assumption) | (with_reducible refine below_plus' ?_ ?_; ((try simp only [plus_size, World.size_alloc, World.size_drew, World.size_setCell, size_setRow, World.heap_drewN, List.length_append]) <;> omega)) | (with_reducible refine below_alloc' ?_ ?_; ((try simp only [plus_size, World.size_alloc, World.size_drew, World.size_setCell, size_setRow, World.heap_drewN, List.length_append]) <;> omega)) | with_reducible refine Below.drew ?_ | (with_reducible refine below_drewN' ?_ _) | exact Below.refl _ _))⟩
  case round =>
    obtain ⟨i, hi, rfl, HA, hbel⟩ := hrel
    obtain ⟨j0, d0, rfl⟩ := plus_of_below hbel
    rcases Nat.lt_or_ge i m with hlt | hge
    · obtain ⟨b, rfl, hbl, hh⟩ := HM.out.resolve_left (by omega)
      obtain ⟨rb, rc, g1, hrb, g2⟩ := hh i hlt
      have HG := Lib.hid g2
      clear g2 hh
      have hlt1 : (i : Int) < (m : Int) := by omega
      go_wp2
      go_loopw [4] (fun sj wr => ∃ jj : Nat, jj ≤ m ∧ sj = .int .i64 jj ∧ Hid (∀ y, y < jj → okL (F i y).1 (F i y).2 = true) ∧ Below w.heap.size w wr) (fun sj _ => m - (intOf sj).toNat)
      case atStart => exact ⟨0, by omega, rfl, Lib.hid (fun y hy => by omega), hbel⟩
      case round =>
        clear hbel
        obtain ⟨jj, hj, rfl, HAj, hbel⟩ := hrel
        obtain ⟨j0, d0, rfl⟩ := plus_of_below hbel
        have hb2 : b < w.heap.size + j0.length := by omega
        have hrb2 : rb < w.heap.size + j0.length := by omega
        rcases Nat.lt_or_ge jj m with hjt | hge
        · obtain ⟨sa, sc, g3, g4, g5⟩ := HG.out jj hjt
          have hjt1 : (jj : Int) < (m : Int) := by omega
          obtain ⟨p1, p2⟩ := HF.out i hlt jj hjt
          have HI := Lib.hid (fun w' (hb : Below w.heap.size w w') => spec_IsP (F i jj).1 (.slice sa (F i jj).2.length sc) (F i jj).2 w' (g5.kept hb) (by omega) p2)
          have HX := Lib.hid (Eq.refl (F i jj))
          clear g5 p2
          obtain ⟨ok, hok⟩ : ∃ ok, okL (F i jj).1 (F i jj).2 = ok := ⟨_, rfl⟩
          rw [hok] at HI
          have HOK := Lib.hid hok
          clear hok
          generalize (F i jj).1 = lo at g3 HI
          generalize (F i jj).2.length = ln at g4 HI p1
          go_upto_region 7 with (fail)
          cases ok with
          | true =>
            go_wp2_with (first | (go_at_call 36; (with_reducible refine Calls.mono (HI.out _ ?_) ?_); (repeat (first | (with_reducible exact Below.refl _ _) | (with_reducible assumption) | (with_reducible refine below_plus' ?_ ?_; ((try simp only [plus_size, World.size_alloc, World.size_drew, World.size_setCell, size_setRow, World.heap_drewN, List.length_append]) <;> omega)) | (with_reducible refine below_alloc' ?_ ?_; ((try simp only [plus_size, World.size_alloc, World.size_drew, World.size_setCell, size_setRow, World.heap_drewN, List.length_append]) <;> omega)) | with_reducible refine Below.drew ?_ | (with_reducible refine below_drewN' ?_ _) | exact Below.refl _ _)); rintro e w' ⟨rfl, hB⟩; obtain ⟨j, d, rfl⟩ := plus_of_below hB; clear hB))
            go_roundw
            case rel => exact ⟨jj + 1, by omega, by go_num, Lib.hid (fun y hy => by
              rcases Nat.lt_or_ge y jj with h9 | h9
              · exact HAj.out y h9
              · obtain rfl : y = jj := by omega
                exact HOK.out), by (repeat (first | (with_reducible exact Below.refl _ _) | (with_reducible assumption) | (with_reducible refine below_plus' ?_ ?_; ((try simp only [plus_size, World.size_alloc, World.size_drew, World.size_setCell, size_setRow, World.heap_drewN, List.length_append]) <;> omega)) | (with_reducible refine below_alloc' ?_ ?_; ((try simp only [plus_size, World.size_alloc, World.size_drew, World.size_setCell, size_setRow, World.heap_drewN, List.length_append]) <;> omega)) | with_reducible refine Below.drew ?_ | (with_reducible refine below_drewN' ?_ _) | exact Below.refl _ _))⟩
            case measure => simp [intOf]; omega
          | false =>
            have HB := Lib.hid (allM_bad hlt hjt HOK.out)
            go_wp2_with (first | (go_at_call 36; (with_reducible refine Calls.mono (HI.out _ ?_) ?_); (repeat (first | (with_reducible exact Below.refl _ _) | (with_reducible assumption) | (with_reducible refine below_plus' ?_ ?_; ((try simp only [plus_size, World.size_alloc, World.size_drew, World.size_setCell, size_setRow, World.heap_drewN, List.length_append]) <;> omega)) | (with_reducible refine below_alloc' ?_ ?_; ((try simp only [plus_size, World.size_alloc, World.size_drew, World.size_setCell, size_setRow, World.heap_drewN, List.length_append]) <;> omega)) | with_reducible refine Below.drew ?_ | (with_reducible refine below_drewN' ?_ _) | exact Below.refl _ _)); rintro e w' ⟨rfl, hB⟩; obtain ⟨j, d, rfl⟩ := plus_of_below hB; clear hB))
            go_ret
            exact ⟨by rw [HB.out]; rfl, by (repeat (first | (with_reducible exact Below.refl _ _) | (with_reducible assumption) | (with_reducible refine below_plus' ?_ ?_; ((try simp only [plus_size, World.size_alloc, World.size_drew, World.size_setCell, size_setRow, World.heap_drewN, List.length_append]) <;> omega)) | (with_reducible refine below_alloc' ?_ ?_; ((try simp only [plus_size, World.size_alloc, World.size_drew, World.size_setCell, size_setRow, World.heap_drewN, List.length_append]) <;> omega)) | with_reducible refine Below.drew ?_ | (with_reducible refine below_drewN' ?_ _) | exact Below.refl _ _))⟩
        · obtain rfl : jj = m := by omega
          have hge1 : ¬ ((jj : Int) < (jj : Int)) := by omega
          go_wp2
          go_roundw
          case rel => exact ⟨i + 1, by omega, by go_num, Lib.hid (fun x hx y hy => by
            rcases Nat.lt_or_ge x i with h9 | h9
            · exact HA.out x h9 y hy
            · obtain rfl : x = i := by omega
              exact HAj.out y hy), hbel⟩
          case measure => simp [intOf]; omega
    · obtain rfl : i = m := by omega
      have hge1 : ¬ ((i : Int) < (i : Int)) := by omega
      have HB := Lib.hid (allM_good HA.out)
      go_wp2
      go_ret
      exact ⟨by rw [HB.out]; rfl, hbel⟩
end Go.Proofs.Ytikakoclmmmjdaa
