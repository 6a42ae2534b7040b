/- Texts of braids: what the words of one are. Conditions: as each theorem says. -/
import Derived.Test.YtblpbkfenmkhbaaGreatDoorHc
import Derived.Test.YtblpbkfenmkhbaaGreatDoorDb
namespace Go.Proofs.YtblpbkfenmkhbaaGreatDoor
open Go.RowKit
set_option linter.unusedSimpArgs false
set_option linter.unusedVariables false
open Go.RowKit
theorem okW_letters {n : Int} {xs : List Int} (h : okW n xs = true) : letS n xs ∧ (∀ k, k < xs.length → nth xs k ≠ 0) ∧ xs.length ≤ 200 := by
  have h1 := okW_small h
  have h2 := okW_len h
  refine ⟨h1, fun k hk => ?_, h2⟩
  obtain ⟨m, rfl, _, _, _, h3⟩ := okW_true h
  have := h3 k hk
  simp only [isL, decide_eq_true_eq] at this
  omega
/-- what the words of a braid's text are -/
theorem text_read {l : List UInt8} {n : Int} {xs : List Int} (h : okW n xs = true) (e : l = braidT n xs xs.length) : wordsS 32 l = (decL n ++ [58]) :: xs.map decL ∧ numS (decL n) = n ∧ xs.length ≤ 200 ∧ ∀ j, j < xs.length → 1 ≤ numS (bareS (decL (nth xs j))) ∧ signS (decL (nth xs j)) * numS (bareS (decL (nth xs j))) = nth xs j := by
  obtain ⟨h1, h2, h3⟩ := okW_letters h
  refine ⟨?_, ?_, h3, fun j hj => ?_⟩
  · rw [e, text_words h1 _ (Nat.le_refl _), List.take_length]
  · have hn := h1.1
    unfold decL
    rw [if_neg (by omega), numS_dig (by omega)]
    omega
  · have hx := h1.2 j hj
    have := of_letter (h2 j hj) hx.1 hx.2
    exact ⟨this.2, this.1⟩
theorem getD_map_decL {xs : List Int} {j : Nat} (h : j < xs.length) : (xs.map decL).getD j [] = decL (nth xs j) := by simp [nth, h]
/-- words that read as a braid's are a braid's text -/
theorem read_text {l f : List UInt8} {rest : List (List UInt8)} {n : Int} {ys : List Int} (hw : wordsS 32 l = (f ++ [58]) :: rest) (hn : numS f = n) (hlen : rest.length = ys.length) (hy : ∀ j, j < ys.length → 1 ≤ numS (bareS (rest.getD j [])) ∧ nth ys j = signS (rest.getD j []) * numS (bareS (rest.getD j []))) (hok : okW n ys = true) : l = braidT n ys ys.length := by
  obtain ⟨h1, h2, h3⟩ := okW_letters hok
  have hn8 := h1.1
  have hf : f = decL n := by
    have hd := numS_digit (l := f) (by omega) (by omega)
    rw [hn] at hd
    unfold decL
    rw [if_neg (by omega), show n.natAbs = n.toNat by omega]
    exact hd
  have hr : rest = ys.map decL := by
    refine List.ext_getElem (by simpa using hlen) fun j hj1 hj2 => ?_
    have hj : j < ys.length := by omega
    obtain ⟨y1, y2⟩ := hy j hj
    have hx := h1.2 j hj
    have e : rest.getD j [] = rest[j] := by simp [hj1]
    rw [e] at y1 y2
    have hle : numS (bareS rest[j]) ≤ 9 := by
      have hs : signS rest[j] = 1 ∨ signS rest[j] = -1 := by unfold signS; split <;> simp
      rcases hs with hs | hs <;> rw [hs] at y2 <;> omega
    have := letter_of y1 hle
    rw [← y2] at this
    rw [this]
    simp [nth, hj]
  rw [wordsS_join hw, hf, hr]
  unfold braidT
  rw [lettersT_flat ys _ (Nat.le_refl _), List.take_length]
  simp
theorem words_len (c : UInt8) (l : List UInt8) : (wordsS c l).length ≤ l.length + 1 := by
  have := foldS_pieces c l l.length (Nat.le_refl _)
  rw [List.take_length] at this
  unfold wordsS
  simp only [List.length_append, List.length_singleton]; omega
theorem words_each {c : UInt8} {l w : List UInt8} (h : w ∈ wordsS c l) : w.length ≤ l.length := by
  have hj := foldS_join c l
  unfold wordsS at h
  have hl := congrArg List.length hj
  rw [List.length_append] at hl
  rcases List.mem_append.1 h with h | h
  · obtain ⟨A, B, e⟩ := List.append_of_mem h
    rw [e] at hl
    simp only [List.flatMap_append, List.flatMap_cons, List.length_append, List.length_singleton] at hl
    omega
  · have : w = (foldS c l).2 := by simpa using h
    rw [this]; omega
theorem words_getD (c : UInt8) (l : List UInt8) (i : Nat) : ((wordsS c l).getD i []).length ≤ l.length := by
  by_cases h : i < (wordsS c l).length
  · refine words_each (c := c) ?_
    simp only [List.getD_eq_getElem?_getD, List.getElem?_eq_getElem h, Option.getD_some]
    exact List.getElem_mem h
  · simp [List.getElem?_eq_none (by omega : (wordsS c l).length ≤ i)]
/-- the braid with a text -/
def isText (l : List UInt8) (p : Int × List Int) : Prop := okW p.1 p.2 = true ∧ l = braidT p.1 p.2 p.2.length
theorem text_one {l : List UInt8} {p q : Int × List Int} (hp : isText l p) (hq : isText l q) : p = q := by
  obtain ⟨p1, p2⟩ := p
  obtain ⟨q1, q2⟩ := q
  obtain ⟨w1, n1, _, l1⟩ := text_read hp.1 hp.2
  obtain ⟨w2, n2, _, l2⟩ := text_read hq.1 hq.2
  rw [w1] at w2
  simp only [List.cons.injEq, List.append_cancel_right_eq] at w2
  obtain ⟨e1, e2⟩ := w2
  simp only at n1 n2 l1 l2
  have hl : p2.length = q2.length := by simpa using congrArg List.length e2
  have hx : p2 = q2 := by
    refine ext_nth hl fun j hj => ?_
    have a1 := (l1 j hj).2
    have a2 := (l2 j (by omega)).2
    have := congrArg (fun x => x.getD j []) e2
    simp only [getD_map_decL hj, getD_map_decL (show j < q2.length by omega)] at this
    rw [← a1, ← a2, this]
  rw [← n1, ← n2, e1, hx]
open Classical in
noncomputable def parO (l : List UInt8) : Option (Int × List Int) := if h : ∃ p, isText l p then some h.choose else none
theorem parO_some {l : List UInt8} {p : Int × List Int} (h : isText l p) : parO l = some p := by
  unfold parO
  have hx : ∃ p, isText l p := ⟨p, h⟩
  rw [dif_pos hx, text_one hx.choose_spec h]
theorem parO_none {l : List UInt8} (h : ∀ p, ¬ isText l p) : parO l = none := by
  unfold parO
  rw [dif_neg (by rintro ⟨p, hp⟩; exact h p hp)]
noncomputable def parN (l : List UInt8) : Int := match parO l with | some p => p.1 | none => 0
noncomputable def parL (l : List UInt8) : List Int := match parO l with | some p => p.2 | none => []
noncomputable def parC (l : List UInt8) : Int := match parO l with | some _ => 0 | none => 6
theorem par_yes {l : List UInt8} {n : Int} {xs : List Int} (h : isText l (n, xs)) : parN l = n ∧ parL l = xs ∧ parC l = 0 := by
  have := parO_some h
  simp [parN, parL, parC, this]
theorem par_no {l : List UInt8} (h : ∀ p, ¬ isText l p) : parN l = 0 ∧ parL l = [] ∧ parC l = 6 := by
  have := parO_none h
  simp [parN, parL, parC, this]
theorem parL_le (l : List UInt8) : (parL l).length ≤ 1000000000 := by
  unfold parL
  by_cases h : ∃ p, isText l p
  · obtain ⟨p, hp⟩ := h
    rw [parO_some hp]
    have := (okW_letters hp.1).2.2
    simp only
    omega
  · rw [parO_none fun p hp => h ⟨p, hp⟩]
    simp
/-- what the reference's reader answers -/
def RetR (e : TypeId) (l : List UInt8) (w : World) : Ending → World → Prop := fun en w' => ∃ n v xs b, en = .returned (.tuple #[.agg #[.int .i64 n, v], .bool b]) ∧ Below w.heap.size w w' ∧ own e w' w.heap.size v xs ∧ (b = true → isText l (n, xs)) ∧ (b = false → ∀ p, ¬ isText l p)
end Go.Proofs.YtblpbkfenmkhbaaGreatDoor
