/- Normal forms: the question whether one is well made. Conditions: as each theorem says. -/
import Derived.Test.YtcfofdjdbojadaaN4
import Derived.Stop.BytesEq
import Derived.BigQuiet
namespace Go.Proofs.Ytcfofdjdbojadaa
open Go.RowKit
set_option linter.unusedSimpArgs false
set_option linter.unusedVariables false
/-- equal in all eight places -/
def eqS (f g : Nat → Nat) : Bool := (List.range 8).all fun i => f i == g i
/-- the factor at i is well made -/
def nfAt (n : Nat) (s : Nat → Nat → Nat) (i : Nat) : Bool := okB n (s i) && !(eqS (s i) (idK n)) && !(eqS (s i) (halfN n n)) && (i == 0 || weiB (s (i - 1)) (s i) n)
/-- a normal form -/
def okN (n z : Int) (m : Nat) (s : Nat → Nat → Nat) : Bool := inB n 1 8 && inB z (-200) 200 && decide (m ≤ 200) && !(decide (n < 2) && decide (z ≠ 0)) && decide (∀ i, i < m → nfAt n.toNat s i = true)
section
variable {n z : Int} {m : Nat} {s : Nat → Nat → Nat}
theorem okN_n (h : inB n 1 8 = false) : okN n z m s = false := by simp [okN, h]
theorem okN_z (h : inB z (-200) 200 = false) : okN n z m s = false := by simp [okN, h]
theorem okN_m (h : ¬ m ≤ 200) : okN n z m s = false := by simp [okN, h]
theorem okN_2 (h : n < 2) (h0 : z ≠ 0) : okN n z m s = false := by simp [okN, h, h0]
theorem okN_bad {n : Nat} {k : Nat} (hk : k < m) (h : nfAt n s k = false) : okN n z m s = false := by
  simp only [okN, Bool.and_eq_false_iff, decide_eq_false_iff_not]
  right
  intro H
  have := H k hk
  rw [Int.toNat_natCast] at this
  rw [this] at h; cases h
theorem okN_good {n : Nat} (h1 : inB n 1 8 = true) (h2 : inB z (-200) 200 = true) (h3 : m ≤ 200) (h4 : ¬ ((n : Int) < 2 ∧ z ≠ 0)) (h : ∀ i, i < m → nfAt n s i = true) : okN n z m s = true := by
  simp only [okN, h1, h2, Bool.true_and, Bool.and_eq_true, decide_eq_true_eq, Int.toNat_natCast]
  refine ⟨⟨h3, ?_⟩, h⟩
  simp only [Bool.not_eq_true', Bool.and_eq_false_iff, decide_eq_false_iff_not]
  by_cases h5 : (n : Int) < 2
  · exact .inr fun h6 => h4 ⟨h5, h6⟩
  · exact .inl h5
theorem okN_true (h : okN n z m s = true) : ∃ k : Nat, n = k ∧ 1 ≤ k ∧ k ≤ 8 ∧ inB z (-200) 200 = true ∧ m ≤ 200 ∧ (k < 2 → z = 0) ∧ ∀ i, i < m → nfAt k s i = true := by
  simp only [okN, Bool.and_eq_true, decide_eq_true_eq, Bool.not_eq_true', Bool.and_eq_false_iff, decide_eq_false_iff_not] at h
  obtain ⟨⟨⟨⟨h1, h2⟩, h3⟩, h4⟩, h5⟩ := h
  have := inB_true h1
  refine ⟨n.toNat, by omega, by omega, by omega, h2, h3, fun h6 => ?_, h5⟩
  rcases h4 with h4 | h4
  · omega
  · exact Decidable.not_not.1 h4
end
theorem nf_ok {n : Nat} {s : Nat → Nat → Nat} {i : Nat} (h : okB n (s i) = false) : nfAt n s i = false := by simp [nfAt, h]
theorem nf_id {n : Nat} {s : Nat → Nat → Nat} {i : Nat} (h : eqS (s i) (idK n) = true) : nfAt n s i = false := by simp [nfAt, h]
theorem nf_half {n : Nat} {s : Nat → Nat → Nat} {i : Nat} (h : eqS (s i) (halfN n n) = true) : nfAt n s i = false := by simp [nfAt, h]
theorem nf_wei {n : Nat} {s : Nat → Nat → Nat} {i : Nat} (h : weiB (s i) (s (i + 1)) n = false) : nfAt n s (i + 1) = false := by simp [nfAt, h]
theorem nf_good0 {n : Nat} {s : Nat → Nat → Nat} (h1 : okB n (s 0) = true) (h2 : eqS (s 0) (idK n) = false) (h3 : eqS (s 0) (halfN n n) = false) : nfAt n s 0 = true := by simp [nfAt, h1, h2, h3]
theorem nf_good {n : Nat} {s : Nat → Nat → Nat} {i : Nat} (h1 : okB n (s (i + 1)) = true) (h2 : eqS (s (i + 1)) (idK n) = false) (h3 : eqS (s (i + 1)) (halfN n n) = false) (h : weiB (s i) (s (i + 1)) n = true) : nfAt n s (i + 1) = true := by simp [nfAt, h1, h2, h3, h]
theorem nf_perm {n : Nat} {s : Nat → Nat → Nat} {i : Nat} (h : nfAt n s i = true) : Perm n (s i) := by
  simp only [nfAt, Bool.and_eq_true] at h
  obtain ⟨k, e, _, h8, hg⟩ := okB_true h.1.1.1
  obtain rfl : n = k := by omega
  exact perm_good h8 hg
theorem idK_256 {n : Nat} (h : n ≤ 8) : ∀ i, i < 8 → idK n i < 256 := fun i hi => by unfold idK; split <;> omega
theorem half_256 {n : Nat} (h : n ≤ 8) : ∀ i, i < 8 → halfN n n i < 256 := fun i hi => by unfold halfN; split <;> omega
theorem eql46 (s t : Nat → Nat) (hs : ∀ i, i < 8 → s i < 256) (ht : ∀ i, i < 8 → t i < 256) (w : World) : (binOp .eql 44 (.agg (arrF .u8 8 (up s))) (.agg (arrF .u8 8 (up t)))).run Try.prog w = .ok (.bool ((List.range 8).all fun i => s i == t i)) w := by
  have key : ∀ (f : Nat → Nat), (∀ i, i < 8 → f i < 256) → arrF .u8 8 (up f) = (((List.range 8).map fun i => UInt8.ofNat (f i)).map Extern.Stop.cell).toArray := by
    intro f hf
    simp only [arrF, List.map_map]
    congr 1
    apply List.map_congr_left
    intro i hi
    have := hf i (List.mem_range.1 hi)
    simp only [Function.comp_def, Extern.Stop.cell, up_apply, UInt8.toNat_ofNat']
    congr 1
    show (f i : Int) = ((f i % 2 ^ 8 : Nat) : Int)
    omega
  rw [key s hs, key t ht, run_eql_bytes w 44 5 8 Try.underlying44 Try.underlying5 (fun w => by simp [Try.sizeOf5]) _ _ (by simp) (by simp)]
  congr 2
  rw [Bool.eq_iff_iff]
  simp only [beq_iff_eq, List.all_eq_true, List.mem_range]
  constructor
  · intro h i hi
    have h2 := congrArg (fun l => l[i]?) h
    simp only [List.getElem?_map, List.getElem?_range hi, Option.map_some, Option.some.injEq] at h2
    have h3 := congrArg UInt8.toNat h2
    simp only [UInt8.toNat_ofNat'] at h3
    have := hs i hi
    have := ht i hi
    omega
  · intro h
    apply List.map_congr_left
    intro i hi
    rw [h i (List.mem_range.1 hi)]
set_option maxHeartbeats 4000000 in
theorem impl_IsNormal (n z : Int) (v : Value) (m : Nat) (s : Nat → Nat → Nat) (w : World) (h : readsA w v m s) (hb : ∀ i, i < m → ∀ k, k < 8 → s i k < 256) (hlen : m ≤ 1000000000) : Calls Try.prog 17 #[.agg #[.int .i64 n, .int .i64 z, v]] w fun e w' => e = .returned (.bool (okN n z m s)) ∧ Below w.heap.size w w' := by
  obtain ⟨a1, c1, rfl, h⟩ := h
  have Hr := Lib.hid (show 0 < m → ∃ b o, a1 = some ⟨b, o, none⟩ ∧ b < w.heap.size ∧ ∀ i, i < m → ∀ k, k < 8 → w.cell? ⟨b, o + i * 8 + k, none⟩ = some (.int .u8 (s i k : Int)) from fun hp => by
    rcases h with h | ⟨b, o, rfl, mm⟩
    · omega
    · exact ⟨b, o, rfl, World.block_lt_of_cell? w _ (mm 0 hp 0 (by omega)), mm⟩)
  have Hu := Lib.hid hb
  clear h hb
  cases hn : inB n 1 8 with
  | false =>
    have HO := Lib.hid (show okN n z m s = false from okN_n hn)
    go_enter Try.func17, Try.ntmps17
    go_wp2_with (first | (go_at_call 33; refine (isCount_any _ _).mono ?_; rintro e w' ⟨rfl, rfl⟩) | (go_at_call 34; refine (within_any _ _ _ _).mono ?_; rintro e w' ⟨rfl, rfl⟩))
    go_ret
    exact ⟨by rw [HO.out]; rfl, by (repeat (first | (with_reducible exact Below.refl _ _) | (with_reducible assumption) | (with_reducible refine below_plus' ?_ ?_; ((try simp only [plus_size, World.size_alloc, World.size_drew, World.size_setCell, size_setRow, World.heap_drewN, List.length_append]) <;> omega)) | (with_reducible refine below_alloc' ?_ ?_; ((try simp only [plus_size, World.size_alloc, World.size_drew, World.size_setCell, size_setRow, World.heap_drewN, List.length_append]) <;> omega)) | with_reducible refine Below.drew ?_ | (with_reducible refine below_drewN' ?_ _) | exact Below.refl _ _))⟩
  | true =>
  obtain ⟨q, rfl⟩ : ∃ q : Nat, n = q := ⟨n.toNat, by have := inB_true hn; omega⟩
  have h1 : 1 ≤ q := by have := inB_true hn; omega
  have h2 : q ≤ 8 := by have := inB_true hn; omega
  cases hz : inB z (-200) 200 with
  | false =>
    have HO := Lib.hid (show okN q z m s = false from okN_z hz)
    go_enter Try.func17, Try.ntmps17
    go_wp2_with (first | (go_at_call 33; refine (isCount_any _ _).mono ?_; rintro e w' ⟨rfl, rfl⟩) | (go_at_call 34; refine (within_any _ _ _ _).mono ?_; rintro e w' ⟨rfl, rfl⟩))
    go_ret
    exact ⟨by rw [HO.out]; rfl, by (repeat (first | (with_reducible exact Below.refl _ _) | (with_reducible assumption) | (with_reducible refine below_plus' ?_ ?_; ((try simp only [plus_size, World.size_alloc, World.size_drew, World.size_setCell, size_setRow, World.heap_drewN, List.length_append]) <;> omega)) | (with_reducible refine below_alloc' ?_ ?_; ((try simp only [plus_size, World.size_alloc, World.size_drew, World.size_setCell, size_setRow, World.heap_drewN, List.length_append]) <;> omega)) | with_reducible refine Below.drew ?_ | (with_reducible refine below_drewN' ?_ _) | exact Below.refl _ _))⟩
  | true =>
  by_cases hm200 : m ≤ 200
  · by_cases hq2 : q < 2
    · have hq2' : (q : Int) < 2 := by omega
      by_cases hz0 : z = 0
      · subst hz0
        have Hn := Lib.hid hn
        have Hz := Lib.hid hz
        go_enter Try.func17, Try.ntmps17
        go_wp2_with (first | (go_at_call 33; refine (isCount_any _ _).mono ?_; rintro e w' ⟨rfl, rfl⟩) | (go_at_call 34; refine (within_any _ _ _ _).mono ?_; rintro e w' ⟨rfl, rfl⟩))
        clear hn hz hq2
        go_loopw [35] (fun sl wr => ∃ (k : Nat) (j : List Obj) (d : Nat), k ≤ m ∧ sl = .int .i64 k ∧ wr = plus (w.alloc (.cells #[.int .i64 (q : Int), .int .i64 0, .slice a1 m c1] 31)) j d ∧ Hid (∀ i, i < k → nfAt q s i = true)) (fun sl _ => m - (intOf sl).toNat)
        case atStart => exact ⟨0, _, _, by omega, rfl, (plus_nil _).symm, Lib.hid (fun i hi => by omega)⟩
        case round =>
          obtain ⟨k, j, d, hk, rfl, rfl, Hl⟩ := hrel
          by_cases hlt : k < m
          · obtain ⟨b1, o1, rfl, hb1, mm⟩ := Hr.out (by omega)
            have hm := mm k hlt
            have hu := Hu.out k hlt
            have k1 : b1 < w.heap.size + 1 := by omega
            have k2 : ∀ x, b1 < w.heap.size + 1 + x := fun x => by omega
            have g0 := hm 0 (by omega)
            have g1 := hm 1 (by omega)
            have g2 := hm 2 (by omega)
            have g3 := hm 3 (by omega)
            have g4 := hm 4 (by omega)
            have g5 := hm 5 (by omega)
            have g6 := hm 6 (by omega)
            have g7 := hm 7 (by omega)
            rw [Nat.add_zero] at g0
            clear hm
            cases hok : okB q (s k) with
            | false =>
              clear mm
              have HO := Lib.hid (okN_bad (z := 0) hlt (nf_ok hok))
              go_wp2
              refine region_plus (by kernel_rfl) (by kernel_rfl) ?_
              repeat (go_big_quiet_step (first | (go_at_call 35; exact calls_plus (impl_IsSimple _ _ _ hu)) | (go_at_call 36; exact calls_plus (impl_nothing _ _ h1 h2)) | (go_at_call 19; exact calls_plus (impl_halfTurn _ _ h1 h2)) | (go_at_call 37; exact calls_plus (impl_endsAll _ _ _ _ h1 h2 hpm))))
              refine wpQuiet_nil ?_
              intro _ hw'
              obtain ⟨q, hw''⟩ := hw'
              subst hw''
              rw [plusq_eq]
              generalize q.j = j
              generalize q.d = d
              clear q
              go_wp2
              go_ret
              exact ⟨by rw [HO.out]; rfl, by (repeat (first | (with_reducible exact Below.refl _ _) | (with_reducible assumption) | (with_reducible refine below_plus' ?_ ?_; ((try simp only [plus_size, World.size_alloc, World.size_drew, World.size_setCell, size_setRow, World.heap_drewN, List.length_append]) <;> omega)) | (with_reducible refine below_alloc' ?_ ?_; ((try simp only [plus_size, World.size_alloc, World.size_drew, World.size_setCell, size_setRow, World.heap_drewN, List.length_append]) <;> omega)) | with_reducible refine Below.drew ?_ | (with_reducible refine below_drewN' ?_ _) | exact Below.refl _ _))⟩
            | true =>
              have hq1 := eql46 (s k) (idK q) hu (idK_256 h2)
              cases he1 : eqS (s k) (idK q) with
              | true =>
                rw [show ((List.range 8).all fun i => s k i == idK q i) = true from he1] at hq1
                clear mm
                have HO := Lib.hid (okN_bad (z := 0) hlt (nf_id he1))
                go_wp2
                refine region_plus (by kernel_rfl) (by kernel_rfl) ?_
                repeat (go_big_quiet_step (first | (go_at_call 35; exact calls_plus (impl_IsSimple _ _ _ hu)) | (go_at_call 36; exact calls_plus (impl_nothing _ _ h1 h2)) | (go_at_call 19; exact calls_plus (impl_halfTurn _ _ h1 h2)) | (go_at_call 37; exact calls_plus (impl_endsAll _ _ _ _ h1 h2 hpm))))
                refine wpQuiet_nil ?_
                intro _ hw'
                obtain ⟨q, hw''⟩ := hw'
                subst hw''
                rw [plusq_eq]
                generalize q.j = j
                generalize q.d = d
                clear q
                go_wp2
                go_ret
                exact ⟨by rw [HO.out]; rfl, by (repeat (first | (with_reducible exact Below.refl _ _) | (with_reducible assumption) | (with_reducible refine below_plus' ?_ ?_; ((try simp only [plus_size, World.size_alloc, World.size_drew, World.size_setCell, size_setRow, World.heap_drewN, List.length_append]) <;> omega)) | (with_reducible refine below_alloc' ?_ ?_; ((try simp only [plus_size, World.size_alloc, World.size_drew, World.size_setCell, size_setRow, World.heap_drewN, List.length_append]) <;> omega)) | with_reducible refine Below.drew ?_ | (with_reducible refine below_drewN' ?_ _) | exact Below.refl _ _))⟩
              | false =>
                rw [show ((List.range 8).all fun i => s k i == idK q i) = false from he1] at hq1
                have hq2 := eql46 (s k) (halfN q q) hu (half_256 h2)
                cases he2 : eqS (s k) (halfN q q) with
                | true =>
                  rw [show ((List.range 8).all fun i => s k i == halfN q q i) = true from he2] at hq2
                  clear mm
                  have HO := Lib.hid (okN_bad (z := 0) hlt (nf_half he2))
                  go_wp2
                  refine region_plus (by kernel_rfl) (by kernel_rfl) ?_
                  repeat (go_big_quiet_step (first | (go_at_call 35; exact calls_plus (impl_IsSimple _ _ _ hu)) | (go_at_call 36; exact calls_plus (impl_nothing _ _ h1 h2)) | (go_at_call 19; exact calls_plus (impl_halfTurn _ _ h1 h2)) | (go_at_call 37; exact calls_plus (impl_endsAll _ _ _ _ h1 h2 hpm))))
                  refine wpQuiet_nil ?_
                  intro _ hw'
                  obtain ⟨q, hw''⟩ := hw'
                  subst hw''
                  rw [plusq_eq]
                  generalize q.j = j
                  generalize q.d = d
                  clear q
                  go_wp2
                  go_ret
                  exact ⟨by rw [HO.out]; rfl, by (repeat (first | (with_reducible exact Below.refl _ _) | (with_reducible assumption) | (with_reducible refine below_plus' ?_ ?_; ((try simp only [plus_size, World.size_alloc, World.size_drew, World.size_setCell, size_setRow, World.heap_drewN, List.length_append]) <;> omega)) | (with_reducible refine below_alloc' ?_ ?_; ((try simp only [plus_size, World.size_alloc, World.size_drew, World.size_setCell, size_setRow, World.heap_drewN, List.length_append]) <;> omega)) | with_reducible refine Below.drew ?_ | (with_reducible refine below_drewN' ?_ _) | exact Below.refl _ _))⟩
                | false =>
                  rw [show ((List.range 8).all fun i => s k i == halfN q q i) = false from he2] at hq2
                  by_cases hk0 : k = 0
                  · subst hk0
                    clear mm
                    simp only [Nat.zero_mul, Nat.add_zero] at g0 g1 g2 g3 g4 g5 g6 g7
                    have HI := Lib.hid (nf_good0 hok he1 he2)
                    go_wp2
                    refine region_plus (by kernel_rfl) (by kernel_rfl) ?_
                    repeat (go_big_quiet_step (first | (go_at_call 35; exact calls_plus (impl_IsSimple _ _ _ hu)) | (go_at_call 36; exact calls_plus (impl_nothing _ _ h1 h2)) | (go_at_call 19; exact calls_plus (impl_halfTurn _ _ h1 h2)) | (go_at_call 37; exact calls_plus (impl_endsAll _ _ _ _ h1 h2 hpm))))
                    refine wpQuiet_nil ?_
                    intro _ hw'
                    obtain ⟨q, hw''⟩ := hw'
                    subst hw''
                    rw [plusq_eq]
                    generalize q.j = j
                    generalize q.d = d
                    clear q
                    go_wp2
                    go_roundw
                    case rel => exact ⟨1, _, _, by omega, by go_num, (congrArg (fun X => plus X _ _) (plus_alloc _ _ _ _)).trans (plus_plus _ _ _ _ _), Lib.hid (fun i hi => by by_cases e : i = 0; (· rw [e]; exact HI.out); (· exact Hl.out i (by omega)))⟩
                    case measure => simp [intOf]; omega
                  · obtain ⟨p, rfl⟩ : ∃ p, k = p + 1 := ⟨k - 1, by omega⟩
                    have hm := mm p (by omega)
                    clear mm
                    have f0 := hm 0 (by omega)
                    have f1 := hm 1 (by omega)
                    have f2 := hm 2 (by omega)
                    have f3 := hm 3 (by omega)
                    have f4 := hm 4 (by omega)
                    have f5 := hm 5 (by omega)
                    have f6 := hm 6 (by omega)
                    have f7 := hm 7 (by omega)
                    rw [Nat.add_zero] at f0
                    clear hm hk0
                    have hpm := nf_perm (Hl.out p (by omega))
                    cases hw : weiB (s p) (s (p + 1)) q with
                    | false =>
                      have HO := Lib.hid (okN_bad (z := 0) hlt (nf_wei hw))
                      go_wp2
                      refine region_plus (by kernel_rfl) (by kernel_rfl) ?_
                      repeat (go_big_quiet_step (first | (go_at_call 35; exact calls_plus (impl_IsSimple _ _ _ hu)) | (go_at_call 36; exact calls_plus (impl_nothing _ _ h1 h2)) | (go_at_call 19; exact calls_plus (impl_halfTurn _ _ h1 h2)) | (go_at_call 37; exact calls_plus (impl_endsAll _ _ _ _ h1 h2 hpm))))
                      refine wpQuiet_nil ?_
                      intro _ hw'
                      obtain ⟨q, hw''⟩ := hw'
                      subst hw''
                      rw [plusq_eq]
                      generalize q.j = j
                      generalize q.d = d
                      clear q
                      go_wp2
                      go_ret
                      exact ⟨by rw [HO.out]; rfl, by (repeat (first | (with_reducible exact Below.refl _ _) | (with_reducible assumption) | (with_reducible refine below_plus' ?_ ?_; ((try simp only [plus_size, World.size_alloc, World.size_drew, World.size_setCell, size_setRow, World.heap_drewN, List.length_append]) <;> omega)) | (with_reducible refine below_alloc' ?_ ?_; ((try simp only [plus_size, World.size_alloc, World.size_drew, World.size_setCell, size_setRow, World.heap_drewN, List.length_append]) <;> omega)) | with_reducible refine Below.drew ?_ | (with_reducible refine below_drewN' ?_ _) | exact Below.refl _ _))⟩
                    | true =>
                      have HI := Lib.hid (nf_good hok he1 he2 hw)
                      go_wp2
                      refine region_plus (by kernel_rfl) (by kernel_rfl) ?_
                      repeat (go_big_quiet_step (first | (go_at_call 35; exact calls_plus (impl_IsSimple _ _ _ hu)) | (go_at_call 36; exact calls_plus (impl_nothing _ _ h1 h2)) | (go_at_call 19; exact calls_plus (impl_halfTurn _ _ h1 h2)) | (go_at_call 37; exact calls_plus (impl_endsAll _ _ _ _ h1 h2 hpm))))
                      refine wpQuiet_nil ?_
                      intro _ hw'
                      obtain ⟨q, hw''⟩ := hw'
                      subst hw''
                      rw [plusq_eq]
                      generalize q.j = j
                      generalize q.d = d
                      clear q
                      go_wp2
                      go_roundw
                      case rel => exact ⟨p + 1 + 1, _, _, by omega, by go_num, (congrArg (fun X => plus X _ _) (plus_alloc _ _ _ _)).trans (plus_plus _ _ _ _ _), Lib.hid (fun i hi => by by_cases e : i = p + 1; (· rw [e]; exact HI.out); (· exact Hl.out i (by omega)))⟩
                      case measure => simp [intOf]; omega
          · obtain rfl : k = m := by omega
            have HO := Lib.hid (okN_good Hn.out Hz.out hm200 (fun h => h.2 rfl) Hl.out)
            go_wp2
            go_ret
            exact ⟨by rw [HO.out]; rfl, by (repeat (first | (with_reducible exact Below.refl _ _) | (with_reducible assumption) | (with_reducible refine below_plus' ?_ ?_; ((try simp only [plus_size, World.size_alloc, World.size_drew, World.size_setCell, size_setRow, World.heap_drewN, List.length_append]) <;> omega)) | (with_reducible refine below_alloc' ?_ ?_; ((try simp only [plus_size, World.size_alloc, World.size_drew, World.size_setCell, size_setRow, World.heap_drewN, List.length_append]) <;> omega)) | with_reducible refine Below.drew ?_ | (with_reducible refine below_drewN' ?_ _) | exact Below.refl _ _))⟩
      · have hzb : (z != 0) = true := by simp [hz0]
        have HO := Lib.hid (show okN q z m s = false from okN_2 (by omega) hz0)
        go_enter Try.func17, Try.ntmps17
        go_wp2_with (first | (go_at_call 33; refine (isCount_any _ _).mono ?_; rintro e w' ⟨rfl, rfl⟩) | (go_at_call 34; refine (within_any _ _ _ _).mono ?_; rintro e w' ⟨rfl, rfl⟩))
        go_ret
        exact ⟨by rw [HO.out]; rfl, by (repeat (first | (with_reducible exact Below.refl _ _) | (with_reducible assumption) | (with_reducible refine below_plus' ?_ ?_; ((try simp only [plus_size, World.size_alloc, World.size_drew, World.size_setCell, size_setRow, World.heap_drewN, List.length_append]) <;> omega)) | (with_reducible refine below_alloc' ?_ ?_; ((try simp only [plus_size, World.size_alloc, World.size_drew, World.size_setCell, size_setRow, World.heap_drewN, List.length_append]) <;> omega)) | with_reducible refine Below.drew ?_ | (with_reducible refine below_drewN' ?_ _) | exact Below.refl _ _))⟩
    · have h22 : 2 ≤ q := by omega
      clear hq2
      have Hn := Lib.hid hn
      have Hz := Lib.hid hz
      go_enter Try.func17, Try.ntmps17
      go_wp2_with (first | (go_at_call 33; refine (isCount_any _ _).mono ?_; rintro e w' ⟨rfl, rfl⟩) | (go_at_call 34; refine (within_any _ _ _ _).mono ?_; rintro e w' ⟨rfl, rfl⟩))
      clear hn hz
      go_loopw [35] (fun sl wr => ∃ (k : Nat) (j : List Obj) (d : Nat), k ≤ m ∧ sl = .int .i64 k ∧ wr = plus (w.alloc (.cells #[.int .i64 (q : Int), .int .i64 z, .slice a1 m c1] 31)) j d ∧ Hid (∀ i, i < k → nfAt q s i = true)) (fun sl _ => m - (intOf sl).toNat)
      case atStart => exact ⟨0, _, _, by omega, rfl, (plus_nil _).symm, Lib.hid (fun i hi => by omega)⟩
      case round =>
        obtain ⟨k, j, d, hk, rfl, rfl, Hl⟩ := hrel
        by_cases hlt : k < m
        · obtain ⟨b1, o1, rfl, hb1, mm⟩ := Hr.out (by omega)
          have hm := mm k hlt
          have hu := Hu.out k hlt
          have k1 : b1 < w.heap.size + 1 := by omega
          have k2 : ∀ x, b1 < w.heap.size + 1 + x := fun x => by omega
          have g0 := hm 0 (by omega)
          have g1 := hm 1 (by omega)
          have g2 := hm 2 (by omega)
          have g3 := hm 3 (by omega)
          have g4 := hm 4 (by omega)
          have g5 := hm 5 (by omega)
          have g6 := hm 6 (by omega)
          have g7 := hm 7 (by omega)
          rw [Nat.add_zero] at g0
          clear hm
          cases hok : okB q (s k) with
          | false =>
            clear mm
            have HO := Lib.hid (okN_bad (z := z) hlt (nf_ok hok))
            go_wp2
            refine region_plus (by kernel_rfl) (by kernel_rfl) ?_
            repeat (go_big_quiet_step (first | (go_at_call 35; exact calls_plus (impl_IsSimple _ _ _ hu)) | (go_at_call 36; exact calls_plus (impl_nothing _ _ h1 h2)) | (go_at_call 19; exact calls_plus (impl_halfTurn _ _ h1 h2)) | (go_at_call 37; exact calls_plus (impl_endsAll _ _ _ _ h1 h2 hpm))))
            refine wpQuiet_nil ?_
            intro _ hw'
            obtain ⟨q, hw''⟩ := hw'
            subst hw''
            rw [plusq_eq]
            generalize q.j = j
            generalize q.d = d
            clear q
            go_wp2
            go_ret
            exact ⟨by rw [HO.out]; rfl, by (repeat (first | (with_reducible exact Below.refl _ _) | (with_reducible assumption) | (with_reducible refine below_plus' ?_ ?_; ((try simp only [plus_size, World.size_alloc, World.size_drew, World.size_setCell, size_setRow, World.heap_drewN, List.length_append]) <;> omega)) | (with_reducible refine below_alloc' ?_ ?_; ((try simp only [plus_size, World.size_alloc, World.size_drew, World.size_setCell, size_setRow, World.heap_drewN, List.length_append]) <;> omega)) | with_reducible refine Below.drew ?_ | (with_reducible refine below_drewN' ?_ _) | exact Below.refl _ _))⟩
          | true =>
            have hq1 := eql46 (s k) (idK q) hu (idK_256 h2)
            cases he1 : eqS (s k) (idK q) with
            | true =>
              rw [show ((List.range 8).all fun i => s k i == idK q i) = true from he1] at hq1
              clear mm
              have HO := Lib.hid (okN_bad (z := z) hlt (nf_id he1))
              go_wp2
              refine region_plus (by kernel_rfl) (by kernel_rfl) ?_
              repeat (go_big_quiet_step (first | (go_at_call 35; exact calls_plus (impl_IsSimple _ _ _ hu)) | (go_at_call 36; exact calls_plus (impl_nothing _ _ h1 h2)) | (go_at_call 19; exact calls_plus (impl_halfTurn _ _ h1 h2)) | (go_at_call 37; exact calls_plus (impl_endsAll _ _ _ _ h1 h2 hpm))))
              refine wpQuiet_nil ?_
              intro _ hw'
              obtain ⟨q, hw''⟩ := hw'
              subst hw''
              rw [plusq_eq]
              generalize q.j = j
              generalize q.d = d
              clear q
              go_wp2
              go_ret
              exact ⟨by rw [HO.out]; rfl, by (repeat (first | (with_reducible exact Below.refl _ _) | (with_reducible assumption) | (with_reducible refine below_plus' ?_ ?_; ((try simp only [plus_size, World.size_alloc, World.size_drew, World.size_setCell, size_setRow, World.heap_drewN, List.length_append]) <;> omega)) | (with_reducible refine below_alloc' ?_ ?_; ((try simp only [plus_size, World.size_alloc, World.size_drew, World.size_setCell, size_setRow, World.heap_drewN, List.length_append]) <;> omega)) | with_reducible refine Below.drew ?_ | (with_reducible refine below_drewN' ?_ _) | exact Below.refl _ _))⟩
            | false =>
              rw [show ((List.range 8).all fun i => s k i == idK q i) = false from he1] at hq1
              have hq2 := eql46 (s k) (halfN q q) hu (half_256 h2)
              cases he2 : eqS (s k) (halfN q q) with
              | true =>
                rw [show ((List.range 8).all fun i => s k i == halfN q q i) = true from he2] at hq2
                clear mm
                have HO := Lib.hid (okN_bad (z := z) hlt (nf_half he2))
                go_wp2
                refine region_plus (by kernel_rfl) (by kernel_rfl) ?_
                repeat (go_big_quiet_step (first | (go_at_call 35; exact calls_plus (impl_IsSimple _ _ _ hu)) | (go_at_call 36; exact calls_plus (impl_nothing _ _ h1 h2)) | (go_at_call 19; exact calls_plus (impl_halfTurn _ _ h1 h2)) | (go_at_call 37; exact calls_plus (impl_endsAll _ _ _ _ h1 h2 hpm))))
                refine wpQuiet_nil ?_
                intro _ hw'
                obtain ⟨q, hw''⟩ := hw'
                subst hw''
                rw [plusq_eq]
                generalize q.j = j
                generalize q.d = d
                clear q
                go_wp2
                go_ret
                exact ⟨by rw [HO.out]; rfl, by (repeat (first | (with_reducible exact Below.refl _ _) | (with_reducible assumption) | (with_reducible refine below_plus' ?_ ?_; ((try simp only [plus_size, World.size_alloc, World.size_drew, World.size_setCell, size_setRow, World.heap_drewN, List.length_append]) <;> omega)) | (with_reducible refine below_alloc' ?_ ?_; ((try simp only [plus_size, World.size_alloc, World.size_drew, World.size_setCell, size_setRow, World.heap_drewN, List.length_append]) <;> omega)) | with_reducible refine Below.drew ?_ | (with_reducible refine below_drewN' ?_ _) | exact Below.refl _ _))⟩
              | false =>
                rw [show ((List.range 8).all fun i => s k i == halfN q q i) = false from he2] at hq2
                by_cases hk0 : k = 0
                · subst hk0
                  clear mm
                  simp only [Nat.zero_mul, Nat.add_zero] at g0 g1 g2 g3 g4 g5 g6 g7
                  have HI := Lib.hid (nf_good0 hok he1 he2)
                  go_wp2
                  refine region_plus (by kernel_rfl) (by kernel_rfl) ?_
                  repeat (go_big_quiet_step (first | (go_at_call 35; exact calls_plus (impl_IsSimple _ _ _ hu)) | (go_at_call 36; exact calls_plus (impl_nothing _ _ h1 h2)) | (go_at_call 19; exact calls_plus (impl_halfTurn _ _ h1 h2)) | (go_at_call 37; exact calls_plus (impl_endsAll _ _ _ _ h1 h2 hpm))))
                  refine wpQuiet_nil ?_
                  intro _ hw'
                  obtain ⟨q, hw''⟩ := hw'
                  subst hw''
                  rw [plusq_eq]
                  generalize q.j = j
                  generalize q.d = d
                  clear q
                  go_wp2
                  go_roundw
                  case rel => exact ⟨1, _, _, by omega, by go_num, (congrArg (fun X => plus X _ _) (plus_alloc _ _ _ _)).trans (plus_plus _ _ _ _ _), Lib.hid (fun i hi => by by_cases e : i = 0; (· rw [e]; exact HI.out); (· exact Hl.out i (by omega)))⟩
                  case measure => simp [intOf]; omega
                · obtain ⟨p, rfl⟩ : ∃ p, k = p + 1 := ⟨k - 1, by omega⟩
                  have hm := mm p (by omega)
                  clear mm
                  have f0 := hm 0 (by omega)
                  have f1 := hm 1 (by omega)
                  have f2 := hm 2 (by omega)
                  have f3 := hm 3 (by omega)
                  have f4 := hm 4 (by omega)
                  have f5 := hm 5 (by omega)
                  have f6 := hm 6 (by omega)
                  have f7 := hm 7 (by omega)
                  rw [Nat.add_zero] at f0
                  clear hm hk0
                  have hpm := nf_perm (Hl.out p (by omega))
                  cases hw : weiB (s p) (s (p + 1)) q with
                  | false =>
                    have HO := Lib.hid (okN_bad (z := z) hlt (nf_wei hw))
                    go_wp2
                    refine region_plus (by kernel_rfl) (by kernel_rfl) ?_
                    repeat (go_big_quiet_step (first | (go_at_call 35; exact calls_plus (impl_IsSimple _ _ _ hu)) | (go_at_call 36; exact calls_plus (impl_nothing _ _ h1 h2)) | (go_at_call 19; exact calls_plus (impl_halfTurn _ _ h1 h2)) | (go_at_call 37; exact calls_plus (impl_endsAll _ _ _ _ h1 h2 hpm))))
                    refine wpQuiet_nil ?_
                    intro _ hw'
                    obtain ⟨q, hw''⟩ := hw'
                    subst hw''
                    rw [plusq_eq]
                    generalize q.j = j
                    generalize q.d = d
                    clear q
                    go_wp2
                    go_ret
                    exact ⟨by rw [HO.out]; rfl, by (repeat (first | (with_reducible exact Below.refl _ _) | (with_reducible assumption) | (with_reducible refine below_plus' ?_ ?_; ((try simp only [plus_size, World.size_alloc, World.size_drew, World.size_setCell, size_setRow, World.heap_drewN, List.length_append]) <;> omega)) | (with_reducible refine below_alloc' ?_ ?_; ((try simp only [plus_size, World.size_alloc, World.size_drew, World.size_setCell, size_setRow, World.heap_drewN, List.length_append]) <;> omega)) | with_reducible refine Below.drew ?_ | (with_reducible refine below_drewN' ?_ _) | exact Below.refl _ _))⟩
                  | true =>
                    have HI := Lib.hid (nf_good hok he1 he2 hw)
                    go_wp2
                    refine region_plus (by kernel_rfl) (by kernel_rfl) ?_
                    repeat (go_big_quiet_step (first | (go_at_call 35; exact calls_plus (impl_IsSimple _ _ _ hu)) | (go_at_call 36; exact calls_plus (impl_nothing _ _ h1 h2)) | (go_at_call 19; exact calls_plus (impl_halfTurn _ _ h1 h2)) | (go_at_call 37; exact calls_plus (impl_endsAll _ _ _ _ h1 h2 hpm))))
                    refine wpQuiet_nil ?_
                    intro _ hw'
                    obtain ⟨q, hw''⟩ := hw'
                    subst hw''
                    rw [plusq_eq]
                    generalize q.j = j
                    generalize q.d = d
                    clear q
                    go_wp2
                    go_roundw
                    case rel => exact ⟨p + 1 + 1, _, _, by omega, by go_num, (congrArg (fun X => plus X _ _) (plus_alloc _ _ _ _)).trans (plus_plus _ _ _ _ _), Lib.hid (fun i hi => by by_cases e : i = p + 1; (· rw [e]; exact HI.out); (· exact Hl.out i (by omega)))⟩
                    case measure => simp [intOf]; omega
        · obtain rfl : k = m := by omega
          have HO := Lib.hid (okN_good Hn.out Hz.out hm200 (by omega) Hl.out)
          go_wp2
          go_ret
          exact ⟨by rw [HO.out]; rfl, by (repeat (first | (with_reducible exact Below.refl _ _) | (with_reducible assumption) | (with_reducible refine below_plus' ?_ ?_; ((try simp only [plus_size, World.size_alloc, World.size_drew, World.size_setCell, size_setRow, World.heap_drewN, List.length_append]) <;> omega)) | (with_reducible refine below_alloc' ?_ ?_; ((try simp only [plus_size, World.size_alloc, World.size_drew, World.size_setCell, size_setRow, World.heap_drewN, List.length_append]) <;> omega)) | with_reducible refine Below.drew ?_ | (with_reducible refine below_drewN' ?_ _) | exact Below.refl _ _))⟩
  · have HO := Lib.hid (show okN q z m s = false from okN_m hm200)
    go_enter Try.func17, Try.ntmps17
    go_wp2_with (first | (go_at_call 33; refine (isCount_any _ _).mono ?_; rintro e w' ⟨rfl, rfl⟩) | (go_at_call 34; refine (within_any _ _ _ _).mono ?_; rintro e w' ⟨rfl, rfl⟩))
    go_ret
    exact ⟨by rw [HO.out]; rfl, by (repeat (first | (with_reducible exact Below.refl _ _) | (with_reducible assumption) | (with_reducible refine below_plus' ?_ ?_; ((try simp only [plus_size, World.size_alloc, World.size_drew, World.size_setCell, size_setRow, World.heap_drewN, List.length_append]) <;> omega)) | (with_reducible refine below_alloc' ?_ ?_; ((try simp only [plus_size, World.size_alloc, World.size_drew, World.size_setCell, size_setRow, World.heap_drewN, List.length_append]) <;> omega)) | with_reducible refine Below.drew ?_ | (with_reducible refine below_drewN' ?_ _) | exact Below.refl _ _))⟩
set_option maxHeartbeats 4000000 in
theorem spec_Is3 (n z : Int) (v : Value) (m : Nat) (s : Nat → Nat → Nat) (w : World) (h : readsA w v m s) (hb : ∀ i, i < m → ∀ k, k < 8 → s i k < 256) (hlen : m ≤ 1000000000) : Calls Try.prog 14 #[.agg #[.int .i64 n, .int .i64 z, v]] w fun e w' => e = .returned (.bool (okN n z m s)) ∧ Below w.heap.size w w' := by
  obtain ⟨a1, c1, rfl, h⟩ := h
  have Hr := Lib.hid (show 0 < m → ∃ b o, a1 = some ⟨b, o, none⟩ ∧ b < w.heap.size ∧ ∀ i, i < m → ∀ k, k < 8 → w.cell? ⟨b, o + i * 8 + k, none⟩ = some (.int .u8 (s i k : Int)) from fun hp => by
    rcases h with h | ⟨b, o, rfl, mm⟩
    · omega
    · exact ⟨b, o, rfl, World.block_lt_of_cell? w _ (mm 0 hp 0 (by omega)), mm⟩)
  have Hu := Lib.hid hb
  clear h hb
  cases hn : inB n 1 8 with
  | false =>
    have HO := Lib.hid (show okN n z m s = false from okN_n hn)
    go_enter Try.func14, Try.ntmps14
    go_wp2_with (first | (go_at_call 26; refine (l01In_any _ _ _ _).mono ?_; rintro e w' ⟨rfl, rfl⟩))
    go_ret
    exact ⟨by rw [HO.out]; rfl, by (repeat (first | (with_reducible exact Below.refl _ _) | (with_reducible assumption) | (with_reducible refine below_plus' ?_ ?_; ((try simp only [plus_size, World.size_alloc, World.size_drew, World.size_setCell, size_setRow, World.heap_drewN, List.length_append]) <;> omega)) | (with_reducible refine below_alloc' ?_ ?_; ((try simp only [plus_size, World.size_alloc, World.size_drew, World.size_setCell, size_setRow, World.heap_drewN, List.length_append]) <;> omega)) | with_reducible refine Below.drew ?_ | (with_reducible refine below_drewN' ?_ _) | exact Below.refl _ _))⟩
  | true =>
  obtain ⟨q, rfl⟩ : ∃ q : Nat, n = q := ⟨n.toNat, by have := inB_true hn; omega⟩
  have h1 : 1 ≤ q := by have := inB_true hn; omega
  have h2 : q ≤ 8 := by have := inB_true hn; omega
  cases hz : inB z (-200) 200 with
  | false =>
    have HO := Lib.hid (show okN q z m s = false from okN_z hz)
    go_enter Try.func14, Try.ntmps14
    go_wp2_with (first | (go_at_call 26; refine (l01In_any _ _ _ _).mono ?_; rintro e w' ⟨rfl, rfl⟩))
    go_ret
    exact ⟨by rw [HO.out]; rfl, by (repeat (first | (with_reducible exact Below.refl _ _) | (with_reducible assumption) | (with_reducible refine below_plus' ?_ ?_; ((try simp only [plus_size, World.size_alloc, World.size_drew, World.size_setCell, size_setRow, World.heap_drewN, List.length_append]) <;> omega)) | (with_reducible refine below_alloc' ?_ ?_; ((try simp only [plus_size, World.size_alloc, World.size_drew, World.size_setCell, size_setRow, World.heap_drewN, List.length_append]) <;> omega)) | with_reducible refine Below.drew ?_ | (with_reducible refine below_drewN' ?_ _) | exact Below.refl _ _))⟩
  | true =>
  by_cases hm200 : m ≤ 200
  · by_cases hq2 : q < 2
    · have hq2' : (q : Int) < 2 := by omega
      by_cases hz0 : z = 0
      · subst hz0
        have Hn := Lib.hid hn
        have Hz := Lib.hid hz
        go_enter Try.func14, Try.ntmps14
        go_wp2_with (first | (go_at_call 26; refine (l01In_any _ _ _ _).mono ?_; rintro e w' ⟨rfl, rfl⟩))
        clear hn hz hq2
        go_loopw [4] (fun sl wr => ∃ (k : Nat) (j : List Obj) (d : Nat), k ≤ m ∧ sl = .int .i64 k ∧ wr = plus (w.alloc (.cells #[.int .i64 (q : Int), .int .i64 0, .slice a1 m c1] 31)) j d ∧ Hid (∀ i, i < k → nfAt q s i = true)) (fun sl _ => m - (intOf sl).toNat)
        case atStart => exact ⟨0, _, _, by omega, rfl, (plus_nil _).symm, Lib.hid (fun i hi => by omega)⟩
        case round =>
          obtain ⟨k, j, d, hk, rfl, rfl, Hl⟩ := hrel
          by_cases hlt : k < m
          · obtain ⟨b1, o1, rfl, hb1, mm⟩ := Hr.out (by omega)
            have hm := mm k hlt
            have hu := Hu.out k hlt
            have k1 : b1 < w.heap.size + 1 := by omega
            have k2 : ∀ x, b1 < w.heap.size + 1 + x := fun x => by omega
            have g0 := hm 0 (by omega)
            have g1 := hm 1 (by omega)
            have g2 := hm 2 (by omega)
            have g3 := hm 3 (by omega)
            have g4 := hm 4 (by omega)
            have g5 := hm 5 (by omega)
            have g6 := hm 6 (by omega)
            have g7 := hm 7 (by omega)
            rw [Nat.add_zero] at g0
            clear hm
            cases hok : okB q (s k) with
            | false =>
              clear mm
              have HO := Lib.hid (okN_bad (z := 0) hlt (nf_ok hok))
              go_wp2
              refine region_plus (by kernel_rfl) (by kernel_rfl) ?_
              repeat (go_big_quiet_step (first | (go_at_call 27; exact calls_plus (spec_Is _ _ _ hu)) | (go_at_call 28; exact calls_plus (spec_same _ _ h1 h2)) | (go_at_call 29; exact calls_plus (spec_half _ _ h1 h2)) | (go_at_call 30; exact calls_plus (spec_weighted _ _ _ _ h1 h2 hpm))))
              refine wpQuiet_nil ?_
              intro _ hw'
              obtain ⟨q, hw''⟩ := hw'
              subst hw''
              rw [plusq_eq]
              generalize q.j = j
              generalize q.d = d
              clear q
              go_wp2
              go_ret
              exact ⟨by rw [HO.out]; rfl, by (repeat (first | (with_reducible exact Below.refl _ _) | (with_reducible assumption) | (with_reducible refine below_plus' ?_ ?_; ((try simp only [plus_size, World.size_alloc, World.size_drew, World.size_setCell, size_setRow, World.heap_drewN, List.length_append]) <;> omega)) | (with_reducible refine below_alloc' ?_ ?_; ((try simp only [plus_size, World.size_alloc, World.size_drew, World.size_setCell, size_setRow, World.heap_drewN, List.length_append]) <;> omega)) | with_reducible refine Below.drew ?_ | (with_reducible refine below_drewN' ?_ _) | exact Below.refl _ _))⟩
            | true =>
              have hq1 := eql46 (s k) (idK q) hu (idK_256 h2)
              cases he1 : eqS (s k) (idK q) with
              | true =>
                rw [show ((List.range 8).all fun i => s k i == idK q i) = true from he1] at hq1
                clear mm
                have HO := Lib.hid (okN_bad (z := 0) hlt (nf_id he1))
                go_wp2
                refine region_plus (by kernel_rfl) (by kernel_rfl) ?_
                repeat (go_big_quiet_step (first | (go_at_call 27; exact calls_plus (spec_Is _ _ _ hu)) | (go_at_call 28; exact calls_plus (spec_same _ _ h1 h2)) | (go_at_call 29; exact calls_plus (spec_half _ _ h1 h2)) | (go_at_call 30; exact calls_plus (spec_weighted _ _ _ _ h1 h2 hpm))))
                refine wpQuiet_nil ?_
                intro _ hw'
                obtain ⟨q, hw''⟩ := hw'
                subst hw''
                rw [plusq_eq]
                generalize q.j = j
                generalize q.d = d
                clear q
                go_wp2
                go_ret
                exact ⟨by rw [HO.out]; rfl, by (repeat (first | (with_reducible exact Below.refl _ _) | (with_reducible assumption) | (with_reducible refine below_plus' ?_ ?_; ((try simp only [plus_size, World.size_alloc, World.size_drew, World.size_setCell, size_setRow, World.heap_drewN, List.length_append]) <;> omega)) | (with_reducible refine below_alloc' ?_ ?_; ((try simp only [plus_size, World.size_alloc, World.size_drew, World.size_setCell, size_setRow, World.heap_drewN, List.length_append]) <;> omega)) | with_reducible refine Below.drew ?_ | (with_reducible refine below_drewN' ?_ _) | exact Below.refl _ _))⟩
              | false =>
                rw [show ((List.range 8).all fun i => s k i == idK q i) = false from he1] at hq1
                have hq2 := eql46 (s k) (halfN q q) hu (half_256 h2)
                cases he2 : eqS (s k) (halfN q q) with
                | true =>
                  rw [show ((List.range 8).all fun i => s k i == halfN q q i) = true from he2] at hq2
                  clear mm
                  have HO := Lib.hid (okN_bad (z := 0) hlt (nf_half he2))
                  go_wp2
                  refine region_plus (by kernel_rfl) (by kernel_rfl) ?_
                  repeat (go_big_quiet_step (first | (go_at_call 27; exact calls_plus (spec_Is _ _ _ hu)) | (go_at_call 28; exact calls_plus (spec_same _ _ h1 h2)) | (go_at_call 29; exact calls_plus (spec_half _ _ h1 h2)) | (go_at_call 30; exact calls_plus (spec_weighted _ _ _ _ h1 h2 hpm))))
                  refine wpQuiet_nil ?_
                  intro _ hw'
                  obtain ⟨q, hw''⟩ := hw'
                  subst hw''
                  rw [plusq_eq]
                  generalize q.j = j
                  generalize q.d = d
                  clear q
                  go_wp2
                  go_ret
                  exact ⟨by rw [HO.out]; rfl, by (repeat (first | (with_reducible exact Below.refl _ _) | (with_reducible assumption) | (with_reducible refine below_plus' ?_ ?_; ((try simp only [plus_size, World.size_alloc, World.size_drew, World.size_setCell, size_setRow, World.heap_drewN, List.length_append]) <;> omega)) | (with_reducible refine below_alloc' ?_ ?_; ((try simp only [plus_size, World.size_alloc, World.size_drew, World.size_setCell, size_setRow, World.heap_drewN, List.length_append]) <;> omega)) | with_reducible refine Below.drew ?_ | (with_reducible refine below_drewN' ?_ _) | exact Below.refl _ _))⟩
                | false =>
                  rw [show ((List.range 8).all fun i => s k i == halfN q q i) = false from he2] at hq2
                  by_cases hk0 : k = 0
                  · subst hk0
                    clear mm
                    simp only [Nat.zero_mul, Nat.add_zero] at g0 g1 g2 g3 g4 g5 g6 g7
                    have HI := Lib.hid (nf_good0 hok he1 he2)
                    go_wp2
                    refine region_plus (by kernel_rfl) (by kernel_rfl) ?_
                    repeat (go_big_quiet_step (first | (go_at_call 27; exact calls_plus (spec_Is _ _ _ hu)) | (go_at_call 28; exact calls_plus (spec_same _ _ h1 h2)) | (go_at_call 29; exact calls_plus (spec_half _ _ h1 h2)) | (go_at_call 30; exact calls_plus (spec_weighted _ _ _ _ h1 h2 hpm))))
                    refine wpQuiet_nil ?_
                    intro _ hw'
                    obtain ⟨q, hw''⟩ := hw'
                    subst hw''
                    rw [plusq_eq]
                    generalize q.j = j
                    generalize q.d = d
                    clear q
                    go_wp2
                    go_roundw
                    case rel => exact ⟨1, _, _, by omega, by go_num, (congrArg (fun X => plus X _ _) (plus_alloc _ _ _ _)).trans (plus_plus _ _ _ _ _), Lib.hid (fun i hi => by by_cases e : i = 0; (· rw [e]; exact HI.out); (· exact Hl.out i (by omega)))⟩
                    case measure => simp [intOf]; omega
                  · obtain ⟨p, rfl⟩ : ∃ p, k = p + 1 := ⟨k - 1, by omega⟩
                    have hm := mm p (by omega)
                    clear mm
                    have f0 := hm 0 (by omega)
                    have f1 := hm 1 (by omega)
                    have f2 := hm 2 (by omega)
                    have f3 := hm 3 (by omega)
                    have f4 := hm 4 (by omega)
                    have f5 := hm 5 (by omega)
                    have f6 := hm 6 (by omega)
                    have f7 := hm 7 (by omega)
                    rw [Nat.add_zero] at f0
                    clear hm hk0
                    have hpm := nf_perm (Hl.out p (by omega))
                    cases hw : weiB (s p) (s (p + 1)) q with
                    | false =>
                      have HO := Lib.hid (okN_bad (z := 0) hlt (nf_wei hw))
                      go_wp2
                      refine region_plus (by kernel_rfl) (by kernel_rfl) ?_
                      repeat (go_big_quiet_step (first | (go_at_call 27; exact calls_plus (spec_Is _ _ _ hu)) | (go_at_call 28; exact calls_plus (spec_same _ _ h1 h2)) | (go_at_call 29; exact calls_plus (spec_half _ _ h1 h2)) | (go_at_call 30; exact calls_plus (spec_weighted _ _ _ _ h1 h2 hpm))))
                      refine wpQuiet_nil ?_
                      intro _ hw'
                      obtain ⟨q, hw''⟩ := hw'
                      subst hw''
                      rw [plusq_eq]
                      generalize q.j = j
                      generalize q.d = d
                      clear q
                      go_wp2
                      go_ret
                      exact ⟨by rw [HO.out]; rfl, by (repeat (first | (with_reducible exact Below.refl _ _) | (with_reducible assumption) | (with_reducible refine below_plus' ?_ ?_; ((try simp only [plus_size, World.size_alloc, World.size_drew, World.size_setCell, size_setRow, World.heap_drewN, List.length_append]) <;> omega)) | (with_reducible refine below_alloc' ?_ ?_; ((try simp only [plus_size, World.size_alloc, World.size_drew, World.size_setCell, size_setRow, World.heap_drewN, List.length_append]) <;> omega)) | with_reducible refine Below.drew ?_ | (with_reducible refine below_drewN' ?_ _) | exact Below.refl _ _))⟩
                    | true =>
                      have HI := Lib.hid (nf_good hok he1 he2 hw)
                      go_wp2
                      refine region_plus (by kernel_rfl) (by kernel_rfl) ?_
                      repeat (go_big_quiet_step (first | (go_at_call 27; exact calls_plus (spec_Is _ _ _ hu)) | (go_at_call 28; exact calls_plus (spec_same _ _ h1 h2)) | (go_at_call 29; exact calls_plus (spec_half _ _ h1 h2)) | (go_at_call 30; exact calls_plus (spec_weighted _ _ _ _ h1 h2 hpm))))
                      refine wpQuiet_nil ?_
                      intro _ hw'
                      obtain ⟨q, hw''⟩ := hw'
                      subst hw''
                      rw [plusq_eq]
                      generalize q.j = j
                      generalize q.d = d
                      clear q
                      go_wp2
                      go_roundw
                      case rel => exact ⟨p + 1 + 1, _, _, by omega, by go_num, (congrArg (fun X => plus X _ _) (plus_alloc _ _ _ _)).trans (plus_plus _ _ _ _ _), Lib.hid (fun i hi => by by_cases e : i = p + 1; (· rw [e]; exact HI.out); (· exact Hl.out i (by omega)))⟩
                      case measure => simp [intOf]; omega
          · obtain rfl : k = m := by omega
            have HO := Lib.hid (okN_good Hn.out Hz.out hm200 (fun h => h.2 rfl) Hl.out)
            go_wp2
            go_ret
            exact ⟨by rw [HO.out]; rfl, by (repeat (first | (with_reducible exact Below.refl _ _) | (with_reducible assumption) | (with_reducible refine below_plus' ?_ ?_; ((try simp only [plus_size, World.size_alloc, World.size_drew, World.size_setCell, size_setRow, World.heap_drewN, List.length_append]) <;> omega)) | (with_reducible refine below_alloc' ?_ ?_; ((try simp only [plus_size, World.size_alloc, World.size_drew, World.size_setCell, size_setRow, World.heap_drewN, List.length_append]) <;> omega)) | with_reducible refine Below.drew ?_ | (with_reducible refine below_drewN' ?_ _) | exact Below.refl _ _))⟩
      · have hzb : (z != 0) = true := by simp [hz0]
        have HO := Lib.hid (show okN q z m s = false from okN_2 (by omega) hz0)
        go_enter Try.func14, Try.ntmps14
        go_wp2_with (first | (go_at_call 26; refine (l01In_any _ _ _ _).mono ?_; rintro e w' ⟨rfl, rfl⟩))
        go_ret
        exact ⟨by rw [HO.out]; rfl, by (repeat (first | (with_reducible exact Below.refl _ _) | (with_reducible assumption) | (with_reducible refine below_plus' ?_ ?_; ((try simp only [plus_size, World.size_alloc, World.size_drew, World.size_setCell, size_setRow, World.heap_drewN, List.length_append]) <;> omega)) | (with_reducible refine below_alloc' ?_ ?_; ((try simp only [plus_size, World.size_alloc, World.size_drew, World.size_setCell, size_setRow, World.heap_drewN, List.length_append]) <;> omega)) | with_reducible refine Below.drew ?_ | (with_reducible refine below_drewN' ?_ _) | exact Below.refl _ _))⟩
    · have h22 : 2 ≤ q := by omega
      clear hq2
      have Hn := Lib.hid hn
      have Hz := Lib.hid hz
      go_enter Try.func14, Try.ntmps14
      go_wp2_with (first | (go_at_call 26; refine (l01In_any _ _ _ _).mono ?_; rintro e w' ⟨rfl, rfl⟩))
      clear hn hz
      go_loopw [4] (fun sl wr => ∃ (k : Nat) (j : List Obj) (d : Nat), k ≤ m ∧ sl = .int .i64 k ∧ wr = plus (w.alloc (.cells #[.int .i64 (q : Int), .int .i64 z, .slice a1 m c1] 31)) j d ∧ Hid (∀ i, i < k → nfAt q s i = true)) (fun sl _ => m - (intOf sl).toNat)
      case atStart => exact ⟨0, _, _, by omega, rfl, (plus_nil _).symm, Lib.hid (fun i hi => by omega)⟩
      case round =>
        obtain ⟨k, j, d, hk, rfl, rfl, Hl⟩ := hrel
        by_cases hlt : k < m
        · obtain ⟨b1, o1, rfl, hb1, mm⟩ := Hr.out (by omega)
          have hm := mm k hlt
          have hu := Hu.out k hlt
          have k1 : b1 < w.heap.size + 1 := by omega
          have k2 : ∀ x, b1 < w.heap.size + 1 + x := fun x => by omega
          have g0 := hm 0 (by omega)
          have g1 := hm 1 (by omega)
          have g2 := hm 2 (by omega)
          have g3 := hm 3 (by omega)
          have g4 := hm 4 (by omega)
          have g5 := hm 5 (by omega)
          have g6 := hm 6 (by omega)
          have g7 := hm 7 (by omega)
          rw [Nat.add_zero] at g0
          clear hm
          cases hok : okB q (s k) with
          | false =>
            clear mm
            have HO := Lib.hid (okN_bad (z := z) hlt (nf_ok hok))
            go_wp2
            refine region_plus (by kernel_rfl) (by kernel_rfl) ?_
            repeat (go_big_quiet_step (first | (go_at_call 27; exact calls_plus (spec_Is _ _ _ hu)) | (go_at_call 28; exact calls_plus (spec_same _ _ h1 h2)) | (go_at_call 29; exact calls_plus (spec_half _ _ h1 h2)) | (go_at_call 30; exact calls_plus (spec_weighted _ _ _ _ h1 h2 hpm))))
            refine wpQuiet_nil ?_
            intro _ hw'
            obtain ⟨q, hw''⟩ := hw'
            subst hw''
            rw [plusq_eq]
            generalize q.j = j
            generalize q.d = d
            clear q
            go_wp2
            go_ret
            exact ⟨by rw [HO.out]; rfl, by (repeat (first | (with_reducible exact Below.refl _ _) | (with_reducible assumption) | (with_reducible refine below_plus' ?_ ?_; ((try simp only [plus_size, World.size_alloc, World.size_drew, World.size_setCell, size_setRow, World.heap_drewN, List.length_append]) <;> omega)) | (with_reducible refine below_alloc' ?_ ?_; ((try simp only [plus_size, World.size_alloc, World.size_drew, World.size_setCell, size_setRow, World.heap_drewN, List.length_append]) <;> omega)) | with_reducible refine Below.drew ?_ | (with_reducible refine below_drewN' ?_ _) | exact Below.refl _ _))⟩
          | true =>
            have hq1 := eql46 (s k) (idK q) hu (idK_256 h2)
            cases he1 : eqS (s k) (idK q) with
            | true =>
              rw [show ((List.range 8).all fun i => s k i == idK q i) = true from he1] at hq1
              clear mm
              have HO := Lib.hid (okN_bad (z := z) hlt (nf_id he1))
              go_wp2
              refine region_plus (by kernel_rfl) (by kernel_rfl) ?_
              repeat (go_big_quiet_step (first | (go_at_call 27; exact calls_plus (spec_Is _ _ _ hu)) | (go_at_call 28; exact calls_plus (spec_same _ _ h1 h2)) | (go_at_call 29; exact calls_plus (spec_half _ _ h1 h2)) | (go_at_call 30; exact calls_plus (spec_weighted _ _ _ _ h1 h2 hpm))))
              refine wpQuiet_nil ?_
              intro _ hw'
              obtain ⟨q, hw''⟩ := hw'
              subst hw''
              rw [plusq_eq]
              generalize q.j = j
              generalize q.d = d
              clear q
              go_wp2
              go_ret
              exact ⟨by rw [HO.out]; rfl, by (repeat (first | (with_reducible exact Below.refl _ _) | (with_reducible assumption) | (with_reducible refine below_plus' ?_ ?_; ((try simp only [plus_size, World.size_alloc, World.size_drew, World.size_setCell, size_setRow, World.heap_drewN, List.length_append]) <;> omega)) | (with_reducible refine below_alloc' ?_ ?_; ((try simp only [plus_size, World.size_alloc, World.size_drew, World.size_setCell, size_setRow, World.heap_drewN, List.length_append]) <;> omega)) | with_reducible refine Below.drew ?_ | (with_reducible refine below_drewN' ?_ _) | exact Below.refl _ _))⟩
            | false =>
              rw [show ((List.range 8).all fun i => s k i == idK q i) = false from he1] at hq1
              have hq2 := eql46 (s k) (halfN q q) hu (half_256 h2)
              cases he2 : eqS (s k) (halfN q q) with
              | true =>
                rw [show ((List.range 8).all fun i => s k i == halfN q q i) = true from he2] at hq2
                clear mm
                have HO := Lib.hid (okN_bad (z := z) hlt (nf_half he2))
                go_wp2
                refine region_plus (by kernel_rfl) (by kernel_rfl) ?_
                repeat (go_big_quiet_step (first | (go_at_call 27; exact calls_plus (spec_Is _ _ _ hu)) | (go_at_call 28; exact calls_plus (spec_same _ _ h1 h2)) | (go_at_call 29; exact calls_plus (spec_half _ _ h1 h2)) | (go_at_call 30; exact calls_plus (spec_weighted _ _ _ _ h1 h2 hpm))))
                refine wpQuiet_nil ?_
                intro _ hw'
                obtain ⟨q, hw''⟩ := hw'
                subst hw''
                rw [plusq_eq]
                generalize q.j = j
                generalize q.d = d
                clear q
                go_wp2
                go_ret
                exact ⟨by rw [HO.out]; rfl, by (repeat (first | (with_reducible exact Below.refl _ _) | (with_reducible assumption) | (with_reducible refine below_plus' ?_ ?_; ((try simp only [plus_size, World.size_alloc, World.size_drew, World.size_setCell, size_setRow, World.heap_drewN, List.length_append]) <;> omega)) | (with_reducible refine below_alloc' ?_ ?_; ((try simp only [plus_size, World.size_alloc, World.size_drew, World.size_setCell, size_setRow, World.heap_drewN, List.length_append]) <;> omega)) | with_reducible refine Below.drew ?_ | (with_reducible refine below_drewN' ?_ _) | exact Below.refl _ _))⟩
              | false =>
                rw [show ((List.range 8).all fun i => s k i == halfN q q i) = false from he2] at hq2
                by_cases hk0 : k = 0
                · subst hk0
                  clear mm
                  simp only [Nat.zero_mul, Nat.add_zero] at g0 g1 g2 g3 g4 g5 g6 g7
                  have HI := Lib.hid (nf_good0 hok he1 he2)
                  go_wp2
                  refine region_plus (by kernel_rfl) (by kernel_rfl) ?_
                  repeat (go_big_quiet_step (first | (go_at_call 27; exact calls_plus (spec_Is _ _ _ hu)) | (go_at_call 28; exact calls_plus (spec_same _ _ h1 h2)) | (go_at_call 29; exact calls_plus (spec_half _ _ h1 h2)) | (go_at_call 30; exact calls_plus (spec_weighted _ _ _ _ h1 h2 hpm))))
                  refine wpQuiet_nil ?_
                  intro _ hw'
                  obtain ⟨q, hw''⟩ := hw'
                  subst hw''
                  rw [plusq_eq]
                  generalize q.j = j
                  generalize q.d = d
                  clear q
                  go_wp2
                  go_roundw
                  case rel => exact ⟨1, _, _, by omega, by go_num, (congrArg (fun X => plus X _ _) (plus_alloc _ _ _ _)).trans (plus_plus _ _ _ _ _), Lib.hid (fun i hi => by by_cases e : i = 0; (· rw [e]; exact HI.out); (· exact Hl.out i (by omega)))⟩
                  case measure => simp [intOf]; omega
                · obtain ⟨p, rfl⟩ : ∃ p, k = p + 1 := ⟨k - 1, by omega⟩
                  have hm := mm p (by omega)
                  clear mm
                  have f0 := hm 0 (by omega)
                  have f1 := hm 1 (by omega)
                  have f2 := hm 2 (by omega)
                  have f3 := hm 3 (by omega)
                  have f4 := hm 4 (by omega)
                  have f5 := hm 5 (by omega)
                  have f6 := hm 6 (by omega)
                  have f7 := hm 7 (by omega)
                  rw [Nat.add_zero] at f0
                  clear hm hk0
                  have hpm := nf_perm (Hl.out p (by omega))
                  cases hw : weiB (s p) (s (p + 1)) q with
                  | false =>
                    have HO := Lib.hid (okN_bad (z := z) hlt (nf_wei hw))
                    go_wp2
                    refine region_plus (by kernel_rfl) (by kernel_rfl) ?_
                    repeat (go_big_quiet_step (first | (go_at_call 27; exact calls_plus (spec_Is _ _ _ hu)) | (go_at_call 28; exact calls_plus (spec_same _ _ h1 h2)) | (go_at_call 29; exact calls_plus (spec_half _ _ h1 h2)) | (go_at_call 30; exact calls_plus (spec_weighted _ _ _ _ h1 h2 hpm))))
                    refine wpQuiet_nil ?_
                    intro _ hw'
                    obtain ⟨q, hw''⟩ := hw'
                    subst hw''
                    rw [plusq_eq]
                    generalize q.j = j
                    generalize q.d = d
                    clear q
                    go_wp2
                    go_ret
                    exact ⟨by rw [HO.out]; rfl, by (repeat (first | (with_reducible exact Below.refl _ _) | (with_reducible assumption) | (with_reducible refine below_plus' ?_ ?_; ((try simp only [plus_size, World.size_alloc, World.size_drew, World.size_setCell, size_setRow, World.heap_drewN, List.length_append]) <;> omega)) | (with_reducible refine below_alloc' ?_ ?_; ((try simp only [plus_size, World.size_alloc, World.size_drew, World.size_setCell, size_setRow, World.heap_drewN, List.length_append]) <;> omega)) | with_reducible refine Below.drew ?_ | (with_reducible refine below_drewN' ?_ _) | exact Below.refl _ _))⟩
                  | true =>
                    have HI := Lib.hid (nf_good hok he1 he2 hw)
                    go_wp2
                    refine region_plus (by kernel_rfl) (by kernel_rfl) ?_
                    repeat (go_big_quiet_step (first | (go_at_call 27; exact calls_plus (spec_Is _ _ _ hu)) | (go_at_call 28; exact calls_plus (spec_same _ _ h1 h2)) | (go_at_call 29; exact calls_plus (spec_half _ _ h1 h2)) | (go_at_call 30; exact calls_plus (spec_weighted _ _ _ _ h1 h2 hpm))))
                    refine wpQuiet_nil ?_
                    intro _ hw'
                    obtain ⟨q, hw''⟩ := hw'
                    subst hw''
                    rw [plusq_eq]
                    generalize q.j = j
                    generalize q.d = d
                    clear q
                    go_wp2
                    go_roundw
                    case rel => exact ⟨p + 1 + 1, _, _, by omega, by go_num, (congrArg (fun X => plus X _ _) (plus_alloc _ _ _ _)).trans (plus_plus _ _ _ _ _), Lib.hid (fun i hi => by by_cases e : i = p + 1; (· rw [e]; exact HI.out); (· exact Hl.out i (by omega)))⟩
                    case measure => simp [intOf]; omega
        · obtain rfl : k = m := by omega
          have HO := Lib.hid (okN_good Hn.out Hz.out hm200 (by omega) Hl.out)
          go_wp2
          go_ret
          exact ⟨by rw [HO.out]; rfl, by (repeat (first | (with_reducible exact Below.refl _ _) | (with_reducible assumption) | (with_reducible refine below_plus' ?_ ?_; ((try simp only [plus_size, World.size_alloc, World.size_drew, World.size_setCell, size_setRow, World.heap_drewN, List.length_append]) <;> omega)) | (with_reducible refine below_alloc' ?_ ?_; ((try simp only [plus_size, World.size_alloc, World.size_drew, World.size_setCell, size_setRow, World.heap_drewN, List.length_append]) <;> omega)) | with_reducible refine Below.drew ?_ | (with_reducible refine below_drewN' ?_ _) | exact Below.refl _ _))⟩
  · have HO := Lib.hid (show okN q z m s = false from okN_m hm200)
    go_enter Try.func14, Try.ntmps14
    go_wp2_with (first | (go_at_call 26; refine (l01In_any _ _ _ _).mono ?_; rintro e w' ⟨rfl, rfl⟩))
    go_ret
    exact ⟨by rw [HO.out]; rfl, by (repeat (first | (with_reducible exact Below.refl _ _) | (with_reducible assumption) | (with_reducible refine below_plus' ?_ ?_; ((try simp only [plus_size, World.size_alloc, World.size_drew, World.size_setCell, size_setRow, World.heap_drewN, List.length_append]) <;> omega)) | (with_reducible refine below_alloc' ?_ ?_; ((try simp only [plus_size, World.size_alloc, World.size_drew, World.size_setCell, size_setRow, World.heap_drewN, List.length_append]) <;> omega)) | with_reducible refine Below.drew ?_ | (with_reducible refine below_drewN' ?_ _) | exact Below.refl _ _))⟩
end Go.Proofs.Ytcfofdjdbojadaa
