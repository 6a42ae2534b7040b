/- ParseBraid: what the library answers. Conditions: as each theorem says. -/
import Derived.Test.YtblpbkfenmkhbaaGreatDoorHf
import Derived.Lib.SplitLaws
import Derived.Lib.AtoiErrMem
namespace Go.Proofs.YtblpbkfenmkhbaaGreatDoor
open Go.RowKit
set_option linter.unusedSimpArgs false
set_option linter.unusedVariables false
open Go.RowKit
theorem index_free {c : UInt8} : ∀ {w : List UInt8}, c ∉ w → Lib.index w [c] = -1
  | [], _ => by simp [Lib.index]
  | b :: w, h => by
    have hb : ¬ c = b := fun e => h (by simp [e])
    have ih := index_free (c := c) (w := w) (fun hm => h (List.mem_cons_of_mem _ hm))
    rw [Lib.index]
    simp [List.isPrefixOf, hb, ih]
theorem index_at {c : UInt8} (r : List UInt8) : ∀ {w : List UInt8}, c ∉ w → Lib.index (w ++ c :: r) [c] = (w.length : Int)
  | [], _ => by rw [List.nil_append, Lib.index]; simp [List.isPrefixOf]
  | b :: w, h => by
    have hb : ¬ c = b := fun e => h (by simp [e])
    have ih := index_at (c := c) r (w := w) (fun hm => h (List.mem_cons_of_mem _ hm))
    rw [List.cons_append, Lib.index]
    have hne : ¬ (w.length : Int) = -1 := by omega
    simp [List.isPrefixOf, hb, ih, hne]
theorem strB_list (l : List UInt8) : (strB l).data.toList = l := by simp [strB]
theorem strB_back (s : ByteArray) : strB s.data.toList = s := by
  apply ByteArray.ext
  simp [strB]
/-- a text of words, cut at the blanks by the library -/
theorem splitB_words : ∀ (ys : List (List UInt8)) (w : List UInt8), (32 : UInt8) ∉ w → (∀ y ∈ ys, (32 : UInt8) ∉ y) → Lib.splitB ⟨#[32]⟩ 0 (Lib.countB (strB (w ++ ys.flatMap (fun y => 32 :: y))) ⟨#[32]⟩) (strB (w ++ ys.flatMap (fun y => 32 :: y))) = strB w :: ys.map strB
  | [], w, hw, _ => by
    simp only [List.flatMap_nil, List.append_nil, List.map_nil]
    exact Lib.splitB_miss _ _ _ _ (by show Lib.index (strB w).data.toList [32] = -1; rw [strB_list]; exact index_free hw)
  | y :: ys, w, hw, hy => by
    have ih := splitB_words ys y (hy y (by simp)) (fun z hz => hy z (List.mem_cons_of_mem _ hz))
    simp only [List.flatMap_cons, List.map_cons]
    have e : w ++ (32 :: y ++ ys.flatMap (fun y => 32 :: y)) = w ++ 32 :: (y ++ ys.flatMap (fun y => 32 :: y)) := by simp
    rw [e]
    have hi : Lib.indexB (strB (w ++ 32 :: (y ++ ys.flatMap (fun y => 32 :: y)))) ⟨#[32]⟩ = ((w.length : Nat) : Int) := by
      show Lib.index (strB _).data.toList [32] = _
      rw [strB_list]
      exact index_at _ hw
    have hx : (strB (w ++ 32 :: (y ++ ys.flatMap (fun y => 32 :: y)))).extract (w.length + (⟨#[32]⟩ : ByteArray).size) (strB (w ++ 32 :: (y ++ ys.flatMap (fun y => 32 :: y)))).size = strB (y ++ ys.flatMap (fun y => 32 :: y)) := by
      rw [strB_size, strB_extract, List.take_length]
      show strB (List.drop (w.length + 1) _) = _
      congr 1
      rw [← List.append_cancel_left_eq w] at *
      simp [List.drop_append]
    have h0 : (strB (w ++ 32 :: (y ++ ys.flatMap (fun y => 32 :: y)))).extract 0 (w.length + 0) = strB w := by
      rw [strB_extract]
      simp
    have hc := Lib.countB_hit _ ⟨#[32]⟩ w.length (by decide) hi
    rw [hx] at hc
    rw [hc, Nat.add_comm 1, Lib.splitB_hit _ _ _ _ _ hi, hx, h0, ih]
theorem parse_decL {x : Int} (h1 : -9 ≤ x) (h2 : x ≤ 9) : Lib.parseIntB 64 (decL x) = .ok x := by
  have hd := digB_nat (m := x.natAbs) (by omega)
  have hu : Lib.parseUintB 64 [digB x.natAbs] = .ok x.natAbs := by
    unfold Lib.parseUintB
    rw [if_neg (by simp)]
    simp only [Lib.parseUintM, hd]
    rw [if_pos (by omega), if_neg (by omega), if_neg (by omega)]
    congr 1; omega
  have hp : (2 ^ (64 - 1) : Nat) = 9223372036854775808 := by decide
  unfold decL
  by_cases h : x < 0
  · rw [if_pos h]
    unfold Lib.parseIntB
    simp only [show (45 : UInt8).toNat = 45 from rfl, hp, or_true, if_true, hu, not_true, false_and, if_false, true_and]
    have hm : ¬ 9223372036854775808 < x.natAbs := by omega
    rw [if_neg hm]
    congr 1
    omega
  · rw [if_neg h]
    unfold Lib.parseIntB
    have h45 : ¬ (digB x.natAbs).toNat = 45 := by omega
    have h43 : ¬ (digB x.natAbs).toNat = 43 := by omega
    have hm : ¬ 9223372036854775808 ≤ x.natAbs := by omega
    simp only [h43, h45, or_self, if_false, hu, hp, not_false_eq_true, true_and, false_and]
    rw [if_neg hm]
    congr 1
    omega
/-- what the program meets at a braid's text -/
theorem text_cut {l : List UInt8} {n : Int} {xs : List Int} (h : isText l (n, xs)) : Lib.cut l [58] = (decL n, lettersT xs xs.length, true) ∧ Lib.parseIntB 64 (decL n) = .ok n ∧ (lettersT xs xs.length).length ≤ 800 ∧ Lib.splitB ⟨#[32]⟩ 0 (Lib.countB (strB (lettersT xs xs.length)) ⟨#[32]⟩) (strB (lettersT xs xs.length)) = strB [] :: xs.map (fun x => strB (decL x)) ∧ ∀ j, j < xs.length → Lib.parseIntB 64 (decL (nth xs j)) = .ok (nth xs j) := by
  obtain ⟨⟨hn, hx⟩, _, h3⟩ := okW_letters h.1
  simp only at hn hx h3
  refine ⟨?_, parse_decL (by omega) (by omega), ?_, ?_, fun j hj => parse_decL (hx j hj).1 (hx j hj).2⟩
  · have hf : (58 : UInt8) ∉ decL n := decL_free (by omega) (by omega) (.inr (by decide)) (by decide)
    have hi := index_at (lettersT xs xs.length) hf
    have hl := h.2
    simp only at hl
    rw [hl]
    unfold braidT Lib.cut
    rw [hi, if_pos (by omega)]
    simp
  · have := lettersT_length xs xs.length
    omega
  · have := splitB_words (xs.map decL) [] (by simp) (fun y hy => by
      obtain ⟨x, hx1, rfl⟩ := List.mem_map.1 hy
      obtain ⟨i, hi, rfl⟩ := mem_nth hx1
      exact decL_free (hx i hi).1 (hx i hi).2 (.inl (by decide)) (by decide))
    rw [List.nil_append, ← show lettersT xs xs.length = (xs.map decL).flatMap (fun y => 32 :: y) by rw [lettersT_flat xs _ (Nat.le_refl _), List.take_length]] at this
    rw [this]
    simp
theorem splitB_each (sep : ByteArray) : ∀ (k : Nat) (s : ByteArray), ∀ x ∈ Lib.splitB sep 0 k s, x.size ≤ s.size
  | 0, s, x, hx => by
    have : x = s := by simpa [Lib.splitB] using hx
    rw [this]; exact Nat.le_refl _
  | k + 1, s, x, hx => by
    unfold Lib.splitB at hx
    split at hx
    · have : x = s := by simpa using hx
      rw [this]; exact Nat.le_refl _
    · rcases List.mem_cons.1 hx with h | h
      · rw [h, ByteArray.size_extract]; omega
      · have := splitB_each sep k _ x h
        rw [ByteArray.size_extract] at this
        omega
theorem cut_le (l : List UInt8) (c : UInt8) : (Lib.cut l [c]).1.length ≤ l.length ∧ (Lib.cut l [c]).2.1.length ≤ l.length := by
  unfold Lib.cut
  split
  · simp only [List.length_take, List.length_drop]; omega
  · simp
/-- what the library's variables hold -/
def Door (w : World) : Prop := PowTab w ∧ (∃ m, w.cell? ⟨0, 0, none⟩ = some (.int .i64 m)) ∧ (∃ tp p, w.var? Tryz.prog Tryz.nameOfstrconv_ErrSyntax = some #[.iface tp p]) ∧ (∃ tp p, w.var? Tryz.prog Tryz.nameOfstrconv_ErrRange = some #[.iface tp p])
theorem Door.on {w w' : World} (h : Door w) (hb : Below w.heap.size w w') : Door w' := by
  obtain ⟨h1, ⟨m, hm⟩, ⟨tp, p, hp⟩, ⟨tq, q, hq⟩⟩ := h
  refine ⟨h1.on hb, ⟨m, ?_⟩, ⟨tp, p, ?_⟩, ⟨tq, q, ?_⟩⟩
  · rw [hb.cell (p := ⟨0, 0, none⟩) (World.block_lt_of_cell? w _ hm)]; exact hm
  · exact Joins.var_stays (show Tryz.prog.globalNamed Tryz.nameOfstrconv_ErrSyntax = some 1 by kernel_rfl) hp hb (Nat.le_refl _)
  · exact Joins.var_stays (show Tryz.prog.globalNamed Tryz.nameOfstrconv_ErrRange = some 2 by kernel_rfl) hq hb (Nat.le_refl _)
theorem parse_ok (s : ByteArray) (w : World) (hs : s.size ≤ 4000000000) {v : Int} (h : Lib.parseIntB 64 s.data.toList = .ok v) : Calls Tryz.prog 53 #[.string s, .int .i64 10, .int .i64 64] w fun e w' => e = .returned (.tuple #[.int .i64 v, .nilIface]) ∧ Below w.heap.size w w' :=
  (Tryz.strconv_ParseInt_10_at64_ok s (by omega) v h w).mono fun e w' ⟨h1, h2⟩ => ⟨h1, by
    rcases h2 with rfl | ⟨t, rfl⟩
    · exact Below.refl _ _
    · exact Lib.bytesWorld_below _ _ _⟩
theorem parse_bad (s : ByteArray) (w : World) (hs : s.size ≤ 4000000000) (hd : Door w) (h : ∀ v, Lib.parseIntB 64 s.data.toList ≠ .ok v) : Calls Tryz.prog 53 #[.string s, .int .i64 10, .int .i64 64] w fun e w' => (∃ x t N, e = .returned (.tuple #[.int .i64 x, .iface t (.pointer (some ⟨N, 0, none⟩))])) ∧ Below w.heap.size w w' := by
  obtain ⟨_, _, ⟨tp, p, hp⟩, ⟨tq, q, hq⟩⟩ := hd
  cases hc : Lib.parseIntB 64 s.data.toList with
  | ok v => exact absurd hc (h v)
  | «syntax» => exact (Tryz.strconv_ParseInt_10_at64_syntax_var s (by omega) hc tp p w hp).mono fun e w' ⟨N, h1, _, _, h2⟩ => ⟨⟨_, _, N, h1⟩, h2⟩
  | range => exact (Tryz.strconv_ParseInt_10_at64_range_var s (by omega) hc tq q w hq).mono fun e w' ⟨N, h1, _, _, h2⟩ => ⟨⟨_, _, N, h1⟩, h2⟩
theorem cut_any (l : List UInt8) (w : World) (hs : l.length ≤ 4000000000) (hd : Door w) : Calls Tryz.prog 52 #[.string (strB l), .string ⟨#[58]⟩] w fun e w' => e = .returned (.tuple #[.string (strB (Lib.cut l [58]).1), .string (strB (Lib.cut l [58]).2.1), .bool (Lib.cut l [58]).2.2]) ∧ Below w.heap.size w w' := by
  obtain ⟨_, ⟨m, hm⟩, _⟩ := hd
  have := Tryz.strings_Cut (strB l) ⟨#[58]⟩ m w (by rw [strB_size]; omega) hm
  rw [strB_list] at this
  exact this.mono fun e w' ⟨h1, n, h2⟩ => ⟨h1, by subst h2; exact ⟨rfl, rfl, rfl, Nat.le_refl _, fun _ _ => rfl⟩⟩
theorem split_any (s : ByteArray) (w : World) (hs : s.size ≤ 4000000000) (hd : Door w) : Calls Tryz.prog 54 #[.string s, .string ⟨#[32]⟩] w fun e w' => e = .returned (.slice (some ⟨w.heap.size, 0, none⟩) (Lib.splitB ⟨#[32]⟩ 0 (Lib.countB s ⟨#[32]⟩) s).length (Lib.splitB ⟨#[32]⟩ 0 (Lib.countB s ⟨#[32]⟩) s).length) ∧ w' = w.alloc (.cells ((Lib.splitB ⟨#[32]⟩ 0 (Lib.countB s ⟨#[32]⟩) s).map Value.string).toArray 9) := by
  obtain ⟨_, ⟨m, hm⟩, _⟩ := hd
  have := Tryz.strings_Split s ⟨#[32]⟩ m w (by omega) hm (by decide)
  rw [Lib.splitB_all ⟨#[32]⟩ (by decide) 0 _ s rfl]
  exact this
end Go.Proofs.YtblpbkfenmkhbaaGreatDoor
