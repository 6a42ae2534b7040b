/- Where strands end, beside a code, by the reference. Conditions: as each theorem says. -/
import Derived.Test.YtdbdfaljfidcaaaVj
import Derived.Stop.BytesEq
namespace Go.Proofs.Ytdbdfaljfidcaaa
open Go.RowKit
set_option linter.unusedSimpArgs false
set_option linter.unusedVariables false
theorem eql65 (s t : Nat → Nat) (hs : ∀ i, i < 8 → s i < 256) (ht : ∀ i, i < 8 → t i < 256) (w : World) : (binOp .eql 41 (.agg (arrF .u8 8 (up s))) (.agg (arrF .u8 8 (up t)))).run Try.prog w = .ok (.bool ((List.range 8).all fun i => s i == t i)) w := by
  have key : ∀ (f : Nat → Nat), (∀ i, i < 8 → f i < 256) → arrF .u8 8 (up f) = (((List.range 8).map fun i => UInt8.ofNat (f i)).map Extern.Stop.cell).toArray := by
    intro f hf
    simp only [arrF, List.map_map]
    congr 1
    apply List.map_congr_left
    intro i hi
    have := hf i (List.mem_range.1 hi)
    simp only [Function.comp_def, Extern.Stop.cell, up_apply, UInt8.toNat_ofNat']
    congr 1
    show (f i : Int) = ((f i % 2 ^ 8 : Nat) : Int)
    omega
  rw [key s hs, key t ht, run_eql_bytes w 41 5 8 Try.underlying41 Try.underlying5 (fun w => by simp [Try.sizeOf5]) _ _ (by simp) (by simp)]
  congr 2
  rw [Bool.eq_iff_iff]
  simp only [beq_iff_eq, List.all_eq_true, List.mem_range]
  constructor
  · intro h i hi
    have h2 := congrArg (fun l => l[i]?) h
    simp only [List.getElem?_map, List.getElem?_range hi, Option.map_some, Option.some.injEq] at h2
    have h3 := congrArg UInt8.toNat h2
    simp only [UInt8.toNat_ofNat'] at h3
    have := hs i hi
    have := ht i hi
    omega
  · intro h
    apply List.map_congr_left
    intro i hi
    rw [h i (List.mem_range.1 hi)]
theorem backK_lt256 (s : Nat → Nat) {m : Nat} (hm : m ≤ 8) : ∀ i, i < 8 → backK s m i < 256 := fun i hi => by rcases backK_lt s m i with h | h <;> omega
theorem backK_out {s : Nat → Nat} {m i : Nat} (hs : ∀ j, j < m → s j < m) (hi : m ≤ i) : ∀ k, k ≤ m → backK s k i = 0
  | 0, _ => rfl
  | k + 1, hk => by
    have := hs k (by omega)
    rw [← backK_succ]
    have hne : ¬ i = s k := by omega
    simp only [updN, if_neg hne]
    exact backK_out hs hi k (by omega)
theorem backK_id {m : Nat} : ∀ k, k ≤ m → ∀ i, backK (idK m) k i = if i < k then i else 0
  | 0, _, i => by simp [backK, zeroN]
  | k + 1, hk, i => by
    rw [← backK_succ]
    have e : idK m k = k := by simp [idK]; omega
    simp only [updN, e]
    by_cases h : i = k
    · subst h; simp
    · rw [if_neg h, backK_id k (by omega) i]
      by_cases h1 : i < k
      · have : i < k + 1 := by omega
        simp [h1, this]
      · have : ¬ i < k + 1 := by omega
        simp [h1, this]
theorem pure_iff {m : Nat} {s : Nat → Nat} (hs : ∀ j, j < m → s j < m) (hm : m ≤ 8) : ((List.range 8).all fun i => backK s m i == backK (idK m) m i) = decide (∀ i, i < m → backK s m i = i) := by
  rw [Bool.eq_iff_iff]
  simp only [decide_eq_true_eq, List.all_eq_true, List.mem_range, beq_iff_eq]
  constructor
  · intro h i hi
    rw [h i (by omega), backK_id m (Nat.le_refl _), if_pos hi]
  · intro h i hi
    rw [backK_id m (Nat.le_refl _)]
    by_cases h1 : i < m
    · rw [if_pos h1, h i h1]
    · rw [if_neg h1, backK_out hs (by omega) m (Nat.le_refl _)]
set_option maxHeartbeats 1000000 in
theorem spec_EndsOf (n : Int) (v : Value) (xs : List Int) (w : World) (h : reads w v xs) (hlen : xs.length ≤ 1000000000) (hfit : Fits xs) : Calls Try.prog 7 #[.agg #[.int .i64 n, v]] w (RetInts2 2 w (if okW n xs = true then lstOf n.toNat (backK (seqK n.toNat (absL xs) xs.length) n.toNat) else []) (if okW n xs = true then 0 else 1)) := by
  have hI := fun w' (hb : Below w.heap.size w w') => spec_Is n v xs w' (h.kept hb) hlen hfit
  cases hok : okW n xs with
  | false =>
    simp only [hok] at hI
    have HI := Lib.hid hI
    clear hI h hfit hok
    go_enter Try.func7, Try.ntmps7
    go_wp2_with (first | (go_at_call 21; refine Calls.mono (HI.out _ ?_) ?_; (repeat (first | (with_reducible exact Below.refl _ _) | (with_reducible assumption) | (with_reducible refine below_plus' ?_ ?_; ((try simp only [plus_size, World.size_alloc, World.size_drew, World.size_setCell, size_setRow, World.heap_drewN, List.length_append]) <;> omega)) | (with_reducible refine below_alloc' ?_ ?_; ((try simp only [plus_size, World.size_alloc, World.size_drew, World.size_setCell, size_setRow, World.heap_drewN, List.length_append]) <;> omega)) | with_reducible refine Below.drew ?_ | (with_reducible refine below_drewN' ?_ _) | exact Below.refl _ _)); rintro e w' ⟨rfl, hB⟩; obtain ⟨j, d, rfl⟩ := plus_of_below hB; clear hB))
    go_ret2
    exact ⟨_, rfl, by (repeat (first | (with_reducible exact Below.refl _ _) | (with_reducible assumption) | (with_reducible refine below_plus' ?_ ?_; ((try simp only [plus_size, World.size_alloc, World.size_drew, World.size_setCell, size_setRow, World.heap_drewN, List.length_append]) <;> omega)) | (with_reducible refine below_alloc' ?_ ?_; ((try simp only [plus_size, World.size_alloc, World.size_drew, World.size_setCell, size_setRow, World.heap_drewN, List.length_append]) <;> omega)) | with_reducible refine Below.drew ?_ | (with_reducible refine below_drewN' ?_ _) | exact Below.refl _ _)), own_nil _ _ _⟩
  | true =>
    simp only [hok] at hI
    have HI := Lib.hid hI
    have h200 := okW_len hok
    have hlet := okW_let hok
    have hn1 := (okW_n hok).1
    have hn8 := (okW_n hok).2
    clear hI hfit
    obtain ⟨m, rfl⟩ : ∃ m : Nat, n = m := ⟨n.toNat, by omega⟩
    have h1 : 1 ≤ m := by omega
    have h2 : m ≤ 8 := by omega
    simp only [Int.toNat_natCast] at hlet ⊢
    have HP := Lib.hid (fun w' (hb : Below w.heap.size w w') => l01Perm_any m v xs w' (h.kept hb) h1 h2 h200 hlet)
    simp only [hok, if_true]
    have hs8 : ∀ i, i < m → backK (seqK m (absL xs) xs.length) m i < 8 := backK_lt8 h2 _
    obtain ⟨s, hsE⟩ : ∃ s, backK (seqK m (absL xs) xs.length) m = s := ⟨_, rfl⟩
    simp only [hsE] at HP hs8 ⊢
    clear h hlet hok hsE
    go_enter Try.func7, Try.ntmps7
    go_wp2_with (first | (go_at_call 21; refine Calls.mono (HI.out _ ?_) ?_; (repeat (first | (with_reducible exact Below.refl _ _) | (with_reducible assumption) | (with_reducible refine below_plus' ?_ ?_; ((try simp only [plus_size, World.size_alloc, World.size_drew, World.size_setCell, size_setRow, World.heap_drewN, List.length_append]) <;> omega)) | (with_reducible refine below_alloc' ?_ ?_; ((try simp only [plus_size, World.size_alloc, World.size_drew, World.size_setCell, size_setRow, World.heap_drewN, List.length_append]) <;> omega)) | with_reducible refine Below.drew ?_ | (with_reducible refine below_drewN' ?_ _) | exact Below.refl _ _)); rintro e w' ⟨rfl, hB⟩; obtain ⟨j0, d0, rfl⟩ := plus_of_below hB; clear hB)
                                        | (go_at_call 22; refine Calls.mono (HP.out _ ?_) ?_; (repeat (first | (with_reducible exact Below.refl _ _) | (with_reducible assumption) | (with_reducible refine below_plus' ?_ ?_; ((try simp only [plus_size, World.size_alloc, World.size_drew, World.size_setCell, size_setRow, World.heap_drewN, List.length_append]) <;> omega)) | (with_reducible refine below_alloc' ?_ ?_; ((try simp only [plus_size, World.size_alloc, World.size_drew, World.size_setCell, size_setRow, World.heap_drewN, List.length_append]) <;> omega)) | with_reducible refine Below.drew ?_ | (with_reducible refine below_drewN' ?_ _) | exact Below.refl _ _)); rintro e w' ⟨rfl, hB⟩; obtain ⟨j1, d1, rfl⟩ := plus_of_below hB; clear hB)
                                        | ((with_reducible apply wpList_store_arr rfl rfl 41 _ _ rfl _ rfl _ rfl 8 info41); (repeat (first | (refine heap_at _ _ _ ?_; ((try simp only [plus_size, World.size_alloc, World.size_drew, World.size_setCell, size_setRow, World.heap_drewN, List.length_append]) <;> omega)) | (refine heap_past' ?_ ?_; ((try simp only [plus_size, World.size_alloc, World.size_drew, World.size_setCell, size_setRow, World.heap_drewN, List.length_append]) <;> omega)) | (refine heap_plus' ?_ ?_; ((try simp only [plus_size, World.size_alloc, World.size_drew, World.size_setCell, size_setRow, World.heap_drewN, List.length_append]) <;> omega)) | assumption)); (simp only [arrF_size, arrO_size]); (simp only [arrF_size, arrO_size]); (first | exact arrF_one _ _ _ | exact arrO_one _ _); (repeat (first | (refine setRow_at' ?_; ((try simp only [plus_size, World.size_alloc, World.size_drew, World.size_setCell, size_setRow, World.heap_drewN, List.length_append]) <;> omega)) | (apply setRow_past'; ((try simp only [plus_size, World.size_alloc, World.size_drew, World.size_setCell, size_setRow, World.heap_drewN, List.length_append]) <;> omega)) | (apply setRow_plus'; ((try simp only [plus_size, World.size_alloc, World.size_drew, World.size_setCell, size_setRow, World.heap_drewN, List.length_append]) <;> omega)) | exact rfl))))
    go_loopw [5, 6] (fun vo sl wr => ∃ (v0 : Value) (k : Nat), v0 = vo ∧ k ≤ m ∧ sl = .int .i64 k ∧ own 2 wr w.heap.size v0 (lstOf k s) ∧ wr.heap[w.heap.size + 1 + j0.length + j1.length + 1]? = some (.cells (arrF .u8 8 (up s)) 41) ∧ boxed wr w.heap.size 28 m v ∧ Below w.heap.size w wr) (fun _ sl _ => m - (intOf sl).toNat)
    case atStart => exact ⟨_, 0, rfl, by omega, rfl, own_made_under (by ((try simp only [plus_size, World.size_alloc, World.size_drew, World.size_setCell, size_setRow, World.heap_drewN, List.length_append]) <;> omega)) (by ((try simp only [plus_size, World.size_alloc, World.size_drew, World.size_setCell, size_setRow, World.heap_drewN, List.length_append]) <;> omega)) (by decide) rfl, heap_at _ _ _ (by ((try simp only [plus_size, World.size_alloc, World.size_drew, World.size_setCell, size_setRow, World.heap_drewN, List.length_append]) <;> omega)), by unfold boxed; (repeat (first | (refine heap_at _ _ _ ?_; ((try simp only [plus_size, World.size_alloc, World.size_drew, World.size_setCell, size_setRow, World.heap_drewN, List.length_append]) <;> omega)) | (refine heap_past' ?_ ?_; ((try simp only [plus_size, World.size_alloc, World.size_drew, World.size_setCell, size_setRow, World.heap_drewN, List.length_append]) <;> omega)) | (refine heap_plus' ?_ ?_; ((try simp only [plus_size, World.size_alloc, World.size_drew, World.size_setCell, size_setRow, World.heap_drewN, List.length_append]) <;> omega)) | assumption)), by (repeat (first | (with_reducible exact Below.refl _ _) | (with_reducible assumption) | (with_reducible refine below_plus' ?_ ?_; ((try simp only [plus_size, World.size_alloc, World.size_drew, World.size_setCell, size_setRow, World.heap_drewN, List.length_append]) <;> omega)) | (with_reducible refine below_alloc' ?_ ?_; ((try simp only [plus_size, World.size_alloc, World.size_drew, World.size_setCell, size_setRow, World.heap_drewN, List.length_append]) <;> omega)) | with_reducible refine Below.drew ?_ | (with_reducible refine below_drewN' ?_ _) | exact Below.refl _ _))⟩
    case round =>
      obtain ⟨v, k, rfl, hk, rfl, ho, hb4, hbx, hbel⟩ := hrel
      by_cases hlt : k < m
      · have c4 := arr_cell hb4 (i := k) (by omega)
        have l4 := heap_lt hb4
        have c0 := hbx.c0
        have l0 := hbx.lt
        have hk8 : k < 8 := by omega
        have hsk := hs8 k hlt
        have hws : wrap64 (s k : Int) = s k := by unfold wrap64; omega
        have HO := Lib.hid ho
        have hn4 := own_ne ho hb4 (by decide)
        have hnx := own_ne ho hbx (by decide)
        go_wp2_with (first | (at_builtin; go_loud (refine wpList_appendL rfl _ _ 22 rfl 2 Try.underlying22 infoI w.heap.size _ _ (lstOf k s) [(s k : Int)] rfl rfl ?_ ?_ (by rw [lstOf_length]; simp; omega) (by (simp only [World.size_alloc]); have := hbel.size; omega) ?_; exact own.kept ho ((Below.refl _ _).alloc (Nat.le_refl _) _); exact reads_one rfl; intro v' w' hown' hgr hB)))
        have hb4' := kept_grown hb4 hgr hn4
        have hbx' : boxed _ _ _ _ _ := kept_grown hbx hgr hnx
        have hB' := hbel.trans (Below.trans (show Below w.heap.size wr _ by (repeat (first | (with_reducible exact Below.refl _ _) | (with_reducible assumption) | (with_reducible refine below_plus' ?_ ?_; ((try simp only [plus_size, World.size_alloc, World.size_drew, World.size_setCell, size_setRow, World.heap_drewN, List.length_append]) <;> omega)) | (with_reducible refine below_alloc' ?_ ?_; ((try simp only [plus_size, World.size_alloc, World.size_drew, World.size_setCell, size_setRow, World.heap_drewN, List.length_append]) <;> omega)) | with_reducible refine Below.drew ?_ | (with_reducible refine below_drewN' ?_ _) | exact Below.refl _ _))) hB)
        go_roundw
        case rel => exact ⟨_, k + 1, rfl, by omega, by go_num, by rw [← lstOf_succ]; exact hown', hb4', hbx', hB'⟩
        case measure => simp [intOf]; omega
      · obtain rfl : m = k := by omega
        have c0 := hbx.c0
        have l0 := hbx.lt
        go_wp2
        go_ret2
        exact ⟨_, rfl, hbel, ho⟩
end Go.Proofs.Ytdbdfaljfidcaaa
