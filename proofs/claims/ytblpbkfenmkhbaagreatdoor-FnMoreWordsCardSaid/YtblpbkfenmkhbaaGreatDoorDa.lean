/- Texts of braids: plain facts. Conditions: as each theorem says. -/
import Derived.Test.YtblpbkfenmkhbaaGreatDoorMa
import Derived.Test.YtblpbkfenmkhbaaGreatDoorSh
import Derived.Lib.SmallJoins
import Derived.Lib.ItoaNum
namespace Go.Proofs.YtblpbkfenmkhbaaGreatDoor
open Go.RowKit
set_option linter.unusedSimpArgs false
set_option linter.unusedVariables false
/-- a digit's byte -/
def digB (n : Nat) : UInt8 := UInt8.ofNat (48 + n)
/-- a number of one digit, in decimal -/
def decL (n : Int) : List UInt8 := if n < 0 then [45, digB n.natAbs] else [digB n.natAbs]
theorem itoa_decL {n : Int} (h1 : -9 ≤ n) (h2 : n ≤ 9) : Lib.itoa n = decL n := by
  have hd : ∀ m : Nat, m < 10 → Lib.decDigits m = [digB m] := fun m hm => by rw [Lib.decDigits, dif_pos hm]; rfl
  unfold Lib.itoa decL
  by_cases h : n < 0
  · rw [if_pos h, if_pos h, hd _ (by omega)]
  · rw [if_neg h, if_neg h, hd _ (by omega), show n.toNat = n.natAbs by omega]
/-- a text -/
def strB (l : List UInt8) : ByteArray := ⟨l.toArray⟩
theorem strB_size (l : List UInt8) : (strB l).size = l.length := by simp [strB, ByteArray.size]
theorem strB_append (a b : List UInt8) : strB a ++ strB b = strB (a ++ b) := by
  apply ByteArray.ext
  simp [strB, ByteArray.data_append]
theorem strB_inj {a b : List UInt8} (h : strB a = strB b) : a = b := by
  have := congrArg (fun x => x.data.toList) h
  simpa [strB] using this
/-- the letters, each behind a blank -/
def lettersT (xs : List Int) : Nat → List UInt8
  | 0 => []
  | k + 1 => lettersT xs k ++ (32 :: decL (nth xs k))
/-- the text of a braid -/
def braidT (n : Int) (xs : List Int) (k : Nat) : List UInt8 := decL n ++ 58 :: lettersT xs k
theorem decL_length (n : Int) : (decL n).length ≤ 2 := by unfold decL; split <;> simp
theorem lettersT_length (xs : List Int) : ∀ k, (lettersT xs k).length ≤ 3 * k
  | 0 => by simp [lettersT]
  | k + 1 => by
    have h1 := lettersT_length xs k
    have h2 := decL_length (nth xs k)
    simp only [lettersT, List.length_append, List.length_cons]
    omega
theorem braidT_length (n : Int) (xs : List Int) (k : Nat) : (braidT n xs k).length ≤ 3 * k + 3 := by
  have h1 := lettersT_length xs k
  have h2 := decL_length n
  simp only [braidT, List.length_append, List.length_cons]
  omega
theorem braidT_succ (n : Int) (xs : List Int) (k : Nat) : braidT n xs k ++ (32 :: decL (nth xs k)) = braidT n xs (k + 1) := by simp [braidT, lettersT]
/-- the text of a braid, or none -/
def textL (n : Int) (xs : List Int) : List UInt8 := if okW n xs = true then braidT n xs xs.length else []
/-- the table of the powers of ten, as the library's own text lays it -/
def PowTab (w : World) : Prop := Lib.TabIs Tryz.prog w Tryz.nameOfinternal_strconv_uint64pow10 .u64 Lib.pow10Tab
theorem PowTab.on {w w' : World} (h : PowTab w) (hb : Below w.heap.size w w') : PowTab w' := Joins.tab_stays (show Tryz.prog.globalNamed Tryz.nameOfinternal_strconv_uint64pow10 = some 5 by kernel_rfl) h hb (Nat.le_refl _)
theorem below_grow (w : World) (k : Nat) (os : Array Obj) : Below w.heap.size w (Sort.grow (w.drewN k) os) :=
  ⟨rfl, rfl, rfl, by simp [Sort.grow], fun i hi => by
    show (w.heap ++ os)[i]? = _
    rw [Array.getElem?_append_left hi]⟩
set_option maxHeartbeats 400000 in
theorem decimal_any (n : Int) (w : World) (h1 : -9 ≤ n) (h2 : n ≤ 9) (ht : PowTab w) : Calls Tryz.prog 72 #[.int .i64 n] w fun e w' => e = .returned (.string (strB (decL n))) ∧ Below w.heap.size w w' := by
  have H := Lib.hid (Tryz.strconv_FormatInt_10 n (by omega) (by omega) w ht)
  have E := Lib.hid (itoa_decL h1 h2)
  clear ht
  go_enter Tryz.func72, Tryz.ntmps72
  go_wp2_with (first | (go_at_call 86; refine H.out.mono ?_; rintro e w' ⟨rfl, k, os, rfl⟩; rw [E.out]; obtain ⟨w2, hw2⟩ : ∃ w2, Sort.grow (w.drewN k) os = w2 := ⟨_, rfl⟩; have hB := below_grow w k os; rw [hw2] at hB ⊢; clear hw2; obtain ⟨j, d, rfl⟩ := plus_of_below hB; clear hB))
  go_ret
  exact ⟨rfl, by (repeat (first | (with_reducible exact Below.refl _ _) | (with_reducible assumption) | (with_reducible refine below_plus' ?_ ?_; ((try simp only [plus_size, World.size_alloc, World.size_drew, World.size_setCell, size_setRow, World.heap_drewN, List.length_append]) <;> omega)) | (with_reducible refine below_alloc' ?_ ?_; ((try simp only [plus_size, World.size_alloc, World.size_drew, World.size_setCell, size_setRow, World.heap_drewN, List.length_append]) <;> omega)) | with_reducible refine Below.drew ?_ | (with_reducible refine below_drewN' ?_ _) | exact Below.refl _ _))⟩
end Go.Proofs.YtblpbkfenmkhbaaGreatDoor
