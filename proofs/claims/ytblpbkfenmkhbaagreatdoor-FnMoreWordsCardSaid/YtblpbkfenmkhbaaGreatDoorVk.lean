/- Where strands end, beside a code, by the reference. Conditions: as each theorem says. -/
import Derived.Test.YtblpbkfenmkhbaaGreatDoorVj
import Derived.Stop.BytesEq
namespace Go.Proofs.YtblpbkfenmkhbaaGreatDoor
open Go.RowKit
set_option linter.unusedSimpArgs false
set_option linter.unusedVariables false
theorem eql65 (s t : Nat → Nat) (hs : ∀ i, i < 8 → s i < 256) (ht : ∀ i, i < 8 → t i < 256) (w : World) : (binOp .eql 73 (.agg (arrF .u8 8 (up s))) (.agg (arrF .u8 8 (up t)))).run Tryz.prog w = .ok (.bool ((List.range 8).all fun i => s i == t i)) w := by
  have key : ∀ (f : Nat → Nat), (∀ i, i < 8 → f i < 256) → arrF .u8 8 (up f) = (((List.range 8).map fun i => UInt8.ofNat (f i)).map Extern.Stop.cell).toArray := by
    intro f hf
    simp only [arrF, List.map_map]
    congr 1
    apply List.map_congr_left
    intro i hi
    have := hf i (List.mem_range.1 hi)
    simp only [Function.comp_def, Extern.Stop.cell, up_apply, UInt8.toNat_ofNat']
    congr 1
    show (f i : Int) = ((f i % 2 ^ 8 : Nat) : Int)
    omega
  rw [key s hs, key t ht, run_eql_bytes w 73 5 8 Tryz.underlying73 Tryz.underlying5 (fun w => by simp [Tryz.sizeOf5]) _ _ (by simp) (by simp)]
  congr 2
  rw [Bool.eq_iff_iff]
  simp only [beq_iff_eq, List.all_eq_true, List.mem_range]
  constructor
  · intro h i hi
    have h2 := congrArg (fun l => l[i]?) h
    simp only [List.getElem?_map, List.getElem?_range hi, Option.map_some, Option.some.injEq] at h2
    have h3 := congrArg UInt8.toNat h2
    simp only [UInt8.toNat_ofNat'] at h3
    have := hs i hi
    have := ht i hi
    omega
  · intro h
    apply List.map_congr_left
    intro i hi
    rw [h i (List.mem_range.1 hi)]
theorem backK_lt256 (s : Nat → Nat) {m : Nat} (hm : m ≤ 8) : ∀ i, i < 8 → backK s m i < 256 := fun i hi => by rcases backK_lt s m i with h | h <;> omega
theorem backK_out {s : Nat → Nat} {m i : Nat} (hs : ∀ j, j < m → s j < m) (hi : m ≤ i) : ∀ k, k ≤ m → backK s k i = 0
  | 0, _ => rfl
  | k + 1, hk => by
    have := hs k (by omega)
    rw [← backK_succ]
    have hne : ¬ i = s k := by omega
    simp only [updN, if_neg hne]
    exact backK_out hs hi k (by omega)
theorem backK_id {m : Nat} : ∀ k, k ≤ m → ∀ i, backK (idK m) k i = if i < k then i else 0
  | 0, _, i => by simp [backK, zeroN]
  | k + 1, hk, i => by
    rw [← backK_succ]
    have e : idK m k = k := by simp [idK]; omega
    simp only [updN, e]
    by_cases h : i = k
    · subst h; simp
    · rw [if_neg h, backK_id k (by omega) i]
      by_cases h1 : i < k
      · have : i < k + 1 := by omega
        simp [h1, this]
      · have : ¬ i < k + 1 := by omega
        simp [h1, this]
theorem pure_iff {m : Nat} {s : Nat → Nat} (hs : ∀ j, j < m → s j < m) (hm : m ≤ 8) : ((List.range 8).all fun i => backK s m i == backK (idK m) m i) = decide (∀ i, i < m → backK s m i = i) := by
  rw [Bool.eq_iff_iff]
  simp only [decide_eq_true_eq, List.all_eq_true, List.mem_range, beq_iff_eq]
  constructor
  · intro h i hi
    rw [h i (by omega), backK_id m (Nat.le_refl _), if_pos hi]
  · intro h i hi
    rw [backK_id m (Nat.le_refl _)]
    by_cases h1 : i < m
    · rw [if_pos h1, h i h1]
    · rw [if_neg h1, backK_out hs (by omega) m (Nat.le_refl _)]
set_option maxHeartbeats 1000000 in
theorem spec_IsPure (n : Int) (v : Value) (xs : List Int) (w : World) (h : reads w v xs) (hlen : xs.length ≤ 1000000000) (hfit : Fits xs) : Calls Tryz.prog 28 #[.agg #[.int .i64 n, v]] w fun e w' => e = .returned (rPure n xs) ∧ Below w.heap.size w w' := by
  have hI := fun w' (hb : Below w.heap.size w w') => spec_Is n v xs w' (h.kept hb) hlen hfit
  cases hok : okW n xs with
  | false =>
    simp only [hok] at hI
    have HI := Lib.hid hI
    rw [rPure_no hok]
    clear hI h hfit hok
    go_enter Tryz.func28, Tryz.ntmps28
    go_wp2_with (first | (go_at_call 38; refine Calls.mono (HI.out _ ?_) ?_; (repeat (first | (with_reducible exact Below.refl _ _) | (with_reducible assumption) | (with_reducible refine below_plus' ?_ ?_; ((try simp only [plus_size, World.size_alloc, World.size_drew, World.size_setCell, size_setRow, World.heap_drewN, List.length_append]) <;> omega)) | (with_reducible refine below_alloc' ?_ ?_; ((try simp only [plus_size, World.size_alloc, World.size_drew, World.size_setCell, size_setRow, World.heap_drewN, List.length_append]) <;> omega)) | with_reducible refine Below.drew ?_ | (with_reducible refine below_drewN' ?_ _) | exact Below.refl _ _)); rintro e w' ⟨rfl, hB⟩; obtain ⟨j, d, rfl⟩ := plus_of_below hB; clear hB))
    go_ret2
    exact ⟨rfl, by (repeat (first | (with_reducible exact Below.refl _ _) | (with_reducible assumption) | (with_reducible refine below_plus' ?_ ?_; ((try simp only [plus_size, World.size_alloc, World.size_drew, World.size_setCell, size_setRow, World.heap_drewN, List.length_append]) <;> omega)) | (with_reducible refine below_alloc' ?_ ?_; ((try simp only [plus_size, World.size_alloc, World.size_drew, World.size_setCell, size_setRow, World.heap_drewN, List.length_append]) <;> omega)) | with_reducible refine Below.drew ?_ | (with_reducible refine below_drewN' ?_ _) | exact Below.refl _ _))⟩
  | true =>
    simp only [hok] at hI
    have HI := Lib.hid hI
    have h200 := okW_len hok
    have hlet := okW_let hok
    have hn1 := (okW_n hok).1
    have hn8 := (okW_n hok).2
    clear hI hfit
    obtain ⟨m, rfl⟩ : ∃ m : Nat, n = m := ⟨n.toNat, by omega⟩
    have h1 : 1 ≤ m := by omega
    have h2 : m ≤ 8 := by omega
    simp only [Int.toNat_natCast] at hlet ⊢
    have HP := Lib.hid (fun w' (hb : Below w.heap.size w w') => l01Perm_any m v xs w' (h.kept hb) h1 h2 h200 hlet)
    rw [rPure_yes hok]
    have HQ := Lib.hid (fun w' => l01Perm_any m (.slice none 0 0) [] w' ⟨none, 0, rfl, .inl rfl⟩ h1 h2 (by decide) (fun i hi => by cases hi))
    simp only [List.length_nil] at HQ
    have hq := eql65 (backK (seqK m (absL xs) xs.length) m) (backK (seqK m (absL []) 0) m) (backK_lt256 _ h2) (backK_lt256 _ h2)
    rw [show seqK m (absL []) 0 = idK m from rfl, pure_iff (fun j hj => (seq_perm _ hlet).lt j hj) h2] at hq
    have HQ2 := HQ
    rw [show seqK m (absL []) 0 = idK m from rfl] at HQ2
    clear HQ
    have HQ := HQ2
    clear HQ2
    generalize decide (∀ i, i < m → backK (seqK m (absL xs) xs.length) m i = i) = R at hq ⊢
    clear hok h hlet
    go_enter Tryz.func28, Tryz.ntmps28
    go_wp2_with (first | (go_at_call 38; refine Calls.mono (HI.out _ ?_) ?_; (repeat (first | (with_reducible exact Below.refl _ _) | (with_reducible assumption) | (with_reducible refine below_plus' ?_ ?_; ((try simp only [plus_size, World.size_alloc, World.size_drew, World.size_setCell, size_setRow, World.heap_drewN, List.length_append]) <;> omega)) | (with_reducible refine below_alloc' ?_ ?_; ((try simp only [plus_size, World.size_alloc, World.size_drew, World.size_setCell, size_setRow, World.heap_drewN, List.length_append]) <;> omega)) | with_reducible refine Below.drew ?_ | (with_reducible refine below_drewN' ?_ _) | exact Below.refl _ _)); rintro e w' ⟨rfl, hB⟩; obtain ⟨j, d, rfl⟩ := plus_of_below hB; clear hB))
    refine region_plus (by kernel_rfl) (by kernel_rfl) ?_
    repeat (go_big_quiet_step (first | (go_at_call 60; with_reducible exact calls_plus (HP.out _ (by rw [plusq_eq]; (repeat (first | (with_reducible exact Below.refl _ _) | (with_reducible assumption) | (with_reducible refine below_plus' ?_ ?_; ((try simp only [plus_size, World.size_alloc, World.size_drew, World.size_setCell, size_setRow, World.heap_drewN, List.length_append]) <;> omega)) | (with_reducible refine below_alloc' ?_ ?_; ((try simp only [plus_size, World.size_alloc, World.size_drew, World.size_setCell, size_setRow, World.heap_drewN, List.length_append]) <;> omega)) | with_reducible refine Below.drew ?_ | (with_reducible refine below_drewN' ?_ _) | exact Below.refl _ _))))) | (go_at_call 60; with_reducible exact calls_plus (HQ.out _))))
    refine wpQuiet_nil ?_
    intro _ hw'
    obtain ⟨q, hw''⟩ := hw'
    subst hw''
    rw [plusq_eq]
    generalize q.j = j
    generalize q.d = d
    clear q
    
    go_wp2
    go_ret2
    exact ⟨rfl, by (repeat (first | (with_reducible exact Below.refl _ _) | (with_reducible assumption) | (with_reducible refine below_plus' ?_ ?_; ((try simp only [plus_size, World.size_alloc, World.size_drew, World.size_setCell, size_setRow, World.heap_drewN, List.length_append]) <;> omega)) | (with_reducible refine below_alloc' ?_ ?_; ((try simp only [plus_size, World.size_alloc, World.size_drew, World.size_setCell, size_setRow, World.heap_drewN, List.length_append]) <;> omega)) | with_reducible refine Below.drew ?_ | (with_reducible refine below_drewN' ?_ _) | exact Below.refl _ _))⟩
end Go.Proofs.YtblpbkfenmkhbaaGreatDoor
