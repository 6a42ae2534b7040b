/- Two polynomials multiplied. Conditions: as each theorem says. -/
import Derived.Test.YtcipdgmimmngoaaZl
import Derived.Test.YtcipdgmimmngoaaZk
import Derived.BigRegion
import Derived.Deep.Cut
import Derived.Deep.CutRange
import Derived.Deep.RegionWith
namespace Go.Proofs.Ytcipdgmimmngoaa
open Go.RowKit
set_option linter.unusedSimpArgs false
set_option linter.unusedVariables false
open Go.RowKit
theorem ownW_at {e : TypeId} {w : World} {B g N : Nat} {C : Array Value} (hh : w.heap[g]? = some (.cells C e)) (hC : C.toList = wcells (List.replicate N 0)) (hB : B ≤ g) (hN : N ≤ maxLen) : ownW e w B (.slice (some ⟨g, 0, none⟩) N N) (lstI N fun _ => 0) := by
  rw [← lstI_zero]
  have hl : (wcells (List.replicate N 0)).length = N * 4 := by rw [wcells_length, List.length_replicate]; omega
  have hs : C.size = N * 4 := by rw [← Array.length_toList, hC, hl]
  refine ⟨by rw [hl, List.length_replicate], .inr ⟨g, N, C, by rw [List.length_replicate], hB, hh, by rw [List.length_replicate]; exact Nat.le_refl _, hN, hs, ?_⟩⟩
  rw [List.length_replicate, hC, ← hl, List.take_length]
theorem ownW.cell {e : TypeId} {w : World} {B g n c : Nat} {xs : List Int} (h : ownW e w B (.slice (some ⟨g, 0, none⟩) n c) xs) {i j : Nat} (hi : i < xs.length) (hj : j < 4) : w.cell? ⟨g, i * 4 + j, none⟩ = some (.int .u64 (wrd (nth xs i) j)) := by
  obtain ⟨a, cap, hv, hr⟩ := h.reads
  obtain ⟨b, o, ha, mm⟩ := hr.resolve_left (fun e => by rw [e] at hi; cases hi)
  simp only [Value.slice.injEq] at hv
  rw [← hv.1] at ha
  simp only [Option.some.injEq, Addr.mk.injEq] at ha
  have := mm i hi j hj
  rw [← ha.1, ← ha.2.1, Nat.zero_add, Nat.mul_comm] at this
  exact this
theorem made_own (n : Nat) : (madeCells (arrF .u64 4 zeroF) (n * 4)).toList = wcells (List.replicate n (0 : Int)) := made_wides n
theorem make_wides_run (n : Nat) (hn : n ≤ 1000000000) (w : World) : (Instr.makeSlice 46 (.int .i64 (n : Int)) (.int .i64 (n : Int))).run Try.prog w = .ok (.slice (some ⟨w.heap.size, 0, none⟩) n n) (w.alloc (.cells (madeCells (arrF .u64 4 zeroF) (n * 4)) 68)) := by
  obtain ⟨i, g1, g2, g3, g4⟩ := info_parts infoW
  have hr := run_make (P := Try.prog) w 46 68 i _ Try.underlying46 g1 g2 .i64 .i64 n n (by omega) (Int.le_refl _) (by rw [g4]; omega) (by omega)
  rw [g3] at hr
  exact hr
set_option maxHeartbeats 4000000 in
theorem multiply_any (lp : Int) (v1 : Value) (xs : List Int) (lq : Int) (v2 : Value) (ys : List Int) (w : World) (h1 : readsW w v1 xs) (h2 : readsW w v2 ys) (hl1 : xs.length ≤ 5000) (hl2 : ys.length ≤ 5000) (hp1 : -5000 ≤ lp) (hp2 : lp ≤ 5000) (hq1 : -5000 ≤ lq) (hq2 : lq ≤ 5000) (hf1 : Fw xs) (hf : Fw (lstI (xs.length + ys.length - 1) (cvR xs ys xs.length))) : Calls Try.prog 40 #[.agg #[.int .i64 lp, v1], .agg #[.int .i64 lq, v2]] w fun e w' => (∃ v', e = .returned (.agg #[.int .i64 (mulLow lp xs lq ys), v']) ∧ readsW w' v' (mulLst xs ys)) ∧ Below w.heap.size w w' := by
  have hE := eql_arrF (P := Try.prog) (t := 68) (e := 66) (n := 4) (k := .u64) (ht := Try.underlying68) (he := Try.underlying66) (hsz := fun w => by simp [Try.sizeOf66]) (G := zeroF)
  have HE := Lib.hid (fun w i (hi : i < xs.length) => (hE w (wrd (nth xs i))).trans (by rw [zero_eq (hf1 i hi).1 (hf1 i hi).2]))
  clear hE hf1
  have H1 := Lib.hid h1
  have H2 := Lib.hid h2
  obtain ⟨a1, c1, rfl, hr1⟩ := h1
  obtain ⟨a2, c2, rfl, hr2⟩ := h2
  clear hr1 hr2
  by_cases hx : xs.length = 0
  · have HA := Lib.hid (show mulLow lp xs lq ys = 0 ∧ mulLst xs ys = [] by simp [mulLow, mulLst, hx])
    clear hf
    go_enter Try.func40, Try.ntmps40
    go_wp2
    refine bodyPost_ret (v := .agg #[.int .i64 0, .slice none 0 0]) (by simp [results, Try.results40, go_sem]) rfl ?_
    refine ⟨⟨_, by rw [HA.out.1], ?_⟩, by (repeat (first | (with_reducible exact Below.refl _ _) | (with_reducible assumption) | (with_reducible refine below_plus' ?_ ?_; ((try simp only [plus_size, World.size_alloc, World.size_drew, World.size_setCell, size_setRow, World.heap_drewN, List.length_append]) <;> omega)) | (with_reducible refine below_alloc' ?_ ?_; ((try simp only [plus_size, World.size_alloc, World.size_drew, World.size_setCell, size_setRow, World.heap_drewN, List.length_append]) <;> omega)) | with_reducible refine Below.drew ?_ | (with_reducible refine below_drewN' ?_ _) | exact Below.refl _ _))⟩
    rw [HA.out.2]
    exact ⟨none, 0, rfl, .inl rfl⟩
  · by_cases hy : ys.length = 0
    · have HA := Lib.hid (show mulLow lp xs lq ys = 0 ∧ mulLst xs ys = [] by simp [mulLow, mulLst, hy])
      clear hf
      go_enter Try.func40, Try.ntmps40
      go_wp2
      refine bodyPost_ret (v := .agg #[.int .i64 0, .slice none 0 0]) (by simp [results, Try.results40, go_sem]) rfl ?_
      refine ⟨⟨_, by rw [HA.out.1], ?_⟩, by (repeat (first | (with_reducible exact Below.refl _ _) | (with_reducible assumption) | (with_reducible refine below_plus' ?_ ?_; ((try simp only [plus_size, World.size_alloc, World.size_drew, World.size_setCell, size_setRow, World.heap_drewN, List.length_append]) <;> omega)) | (with_reducible refine below_alloc' ?_ ?_; ((try simp only [plus_size, World.size_alloc, World.size_drew, World.size_setCell, size_setRow, World.heap_drewN, List.length_append]) <;> omega)) | with_reducible refine Below.drew ?_ | (with_reducible refine below_drewN' ?_ _) | exact Below.refl _ _))⟩
      rw [HA.out.2]
      exact ⟨none, 0, rfl, .inl rfl⟩
    · have HA := Lib.hid (show mulLow lp xs lq ys = trimLow (lp + lq) (lstI (xs.length + ys.length - 1) (cvR xs ys xs.length)) ∧ mulLst xs ys = trimLst (lstI (xs.length + ys.length - 1) (cvR xs ys xs.length)) by simp [mulLow, mulLst, hx, hy])
      obtain ⟨N, hN⟩ : ∃ N, xs.length + ys.length - 1 = N := ⟨_, rfl⟩
      rw [hN] at HA hf
      have HF := Lib.hid hf
      have hNi : (xs.length : Int) + (ys.length : Int) - 1 = (N : Int) := by omega
      have hxb : ((xs.length : Int) == 0) = false := beq_eq_false_iff_ne.2 (by omega)
      have hyb : ((ys.length : Int) == 0) = false := beq_eq_false_iff_ne.2 (by omega)
      have hNb : N ≤ 10000 := by omega
      have HNx := Lib.hid hN
      have hw1 : IntKind.i64.wrap ((xs.length : Int) + (ys.length : Int)) = (xs.length : Int) + (ys.length : Int) := by rw [IntKind.wrap_i64]; omega
      have hw2 : IntKind.i64.wrap ((xs.length : Int) + (ys.length : Int) - 1) = (N : Int) := by rw [IntKind.wrap_i64]; omega
      have hwe : Value.int .i64 (IntKind.i64.wrap (IntKind.i64.wrap ((xs.length : Int) + (ys.length : Int)) - 1)) = .int .i64 (N : Int) := by rw [hw1, hw2]
      have hw3 : IntKind.i64.wrap (lp + lq) = lp + lq := by rw [IntKind.wrap_i64]; omega
      have hrm : ∀ w, (Instr.makeSlice 46 (.int .i64 (N : Int)) (.int .i64 (N : Int))).run Try.prog w = .ok (.slice (some ⟨w.heap.size, 0, none⟩) N N) (w.alloc (.cells (madeCells (arrF .u64 4 zeroF) (N * 4)) 68)) := fun w => make_wides_run N (by omega) w
      have hmc := made_own N
      obtain ⟨C, hC⟩ : ∃ C, madeCells (arrF .u64 4 zeroF) (N * 4) = C := ⟨_, rfl⟩
      rw [hC] at hmc
      simp only [hC] at hrm
      have HMC := Lib.hid hmc
      have hmk := hrm
      rw [← hwe] at hmk
      clear hf hN hmc hC
      go_enter Try.func40, Try.ntmps40
      go_upto_region 3 with (fail)
      go_cut [5] from 21 to 35 (fun s5 wr => ∃ (bo g : Nat), s5 = .pointer (some ⟨bo, 0, none⟩) ∧ bo ≠ g ∧ boxed wr bo 48 (lp + lq) (.slice (some ⟨g, 0, none⟩) N N) ∧ ownW 68 wr (((w.alloc (.cells #[.int .i64 lp, .slice a1 xs.length c1] 48)).alloc (.cells #[.int .i64 lq, .slice a2 ys.length c2] 48)).alloc (.cells #[.int .i64 0, .slice none 0 0] 48)).heap.size (.slice (some ⟨g, 0, none⟩) N N) (lstI N (fun _ => 0)) ∧ Below (((w.alloc (.cells #[.int .i64 lp, .slice a1 xs.length c1] 48)).alloc (.cells #[.int .i64 lq, .slice a2 ys.length c2] 48)).alloc (.cells #[.int .i64 0, .slice none 0 0] 48)).heap.size (((w.alloc (.cells #[.int .i64 lp, .slice a1 xs.length c1] 48)).alloc (.cells #[.int .i64 lq, .slice a2 ys.length c2] 48)).alloc (.cells #[.int .i64 0, .slice none 0 0] 48)) wr)
      case first =>
        go_region
        all_goals
          go_wp2
          go_meet
          case rel => first | exact ⟨w.heap.size + 1 + 1 + 1 + 1, w.heap.size + 1 + 1 + 1, rfl, by omega, by unfold boxed; (first | ((repeat (first | (refine heap_at _ _ _ ?_; ((try simp only [plus_size, World.size_alloc, World.size_drew, World.size_setCell, size_setRow, World.heap_drewN, List.length_append]) <;> omega)) | (refine heap_past' ?_ ?_; ((try simp only [plus_size, World.size_alloc, World.size_drew, World.size_setCell, size_setRow, World.heap_drewN, List.length_append]) <;> omega)) | (refine heap_plus' ?_ ?_; ((try simp only [plus_size, World.size_alloc, World.size_drew, World.size_setCell, size_setRow, World.heap_drewN, List.length_append]) <;> omega)) | assumption)); done) | (refine (show (World.alloc _ _).heap[_]? = _ from ?_); (repeat (first | (refine heap_at _ _ _ ?_; ((try simp only [plus_size, World.size_alloc, World.size_drew, World.size_setCell, size_setRow, World.heap_drewN, List.length_append]) <;> omega)) | (refine heap_past' ?_ ?_; ((try simp only [plus_size, World.size_alloc, World.size_drew, World.size_setCell, size_setRow, World.heap_drewN, List.length_append]) <;> omega)) | (refine heap_plus' ?_ ?_; ((try simp only [plus_size, World.size_alloc, World.size_drew, World.size_setCell, size_setRow, World.heap_drewN, List.length_append]) <;> omega)) | assumption)); done)), ownW_at (by (first | ((repeat (first | (refine heap_at _ _ _ ?_; ((try simp only [plus_size, World.size_alloc, World.size_drew, World.size_setCell, size_setRow, World.heap_drewN, List.length_append]) <;> omega)) | (refine heap_past' ?_ ?_; ((try simp only [plus_size, World.size_alloc, World.size_drew, World.size_setCell, size_setRow, World.heap_drewN, List.length_append]) <;> omega)) | (refine heap_plus' ?_ ?_; ((try simp only [plus_size, World.size_alloc, World.size_drew, World.size_setCell, size_setRow, World.heap_drewN, List.length_append]) <;> omega)) | assumption)); done) | (refine (show (World.alloc _ _).heap[_]? = _ from ?_); (repeat (first | (refine heap_at _ _ _ ?_; ((try simp only [plus_size, World.size_alloc, World.size_drew, World.size_setCell, size_setRow, World.heap_drewN, List.length_append]) <;> omega)) | (refine heap_past' ?_ ?_; ((try simp only [plus_size, World.size_alloc, World.size_drew, World.size_setCell, size_setRow, World.heap_drewN, List.length_append]) <;> omega)) | (refine heap_plus' ?_ ?_; ((try simp only [plus_size, World.size_alloc, World.size_drew, World.size_setCell, size_setRow, World.heap_drewN, List.length_append]) <;> omega)) | assumption)); done))) HMC.out (by ((try simp only [plus_size, World.size_alloc, World.size_drew, World.size_setCell, size_setRow, World.heap_drewN, List.length_append]) <;> omega)) (by unfold maxLen; omega), by (repeat (first | (with_reducible exact Below.refl _ _) | (with_reducible assumption) | (with_reducible refine below_plus' ?_ ?_; ((try simp only [plus_size, World.size_alloc, World.size_drew, World.size_setCell, size_setRow, World.heap_drewN, List.length_append]) <;> omega)) | (with_reducible refine below_alloc' ?_ ?_; ((try simp only [plus_size, World.size_alloc, World.size_drew, World.size_setCell, size_setRow, World.heap_drewN, List.length_append]) <;> omega)) | with_reducible refine Below.drew ?_ | (with_reducible refine below_drewN' ?_ _) | exact Below.refl _ _))⟩ | exact ⟨w.heap.size + 1 + 1 + 1, w.heap.size + 1 + 1 + 1 + 1, rfl, by omega, by unfold boxed; (first | ((repeat (first | (refine heap_at _ _ _ ?_; ((try simp only [plus_size, World.size_alloc, World.size_drew, World.size_setCell, size_setRow, World.heap_drewN, List.length_append]) <;> omega)) | (refine heap_past' ?_ ?_; ((try simp only [plus_size, World.size_alloc, World.size_drew, World.size_setCell, size_setRow, World.heap_drewN, List.length_append]) <;> omega)) | (refine heap_plus' ?_ ?_; ((try simp only [plus_size, World.size_alloc, World.size_drew, World.size_setCell, size_setRow, World.heap_drewN, List.length_append]) <;> omega)) | assumption)); done) | (refine (show (World.alloc _ _).heap[_]? = _ from ?_); (repeat (first | (refine heap_at _ _ _ ?_; ((try simp only [plus_size, World.size_alloc, World.size_drew, World.size_setCell, size_setRow, World.heap_drewN, List.length_append]) <;> omega)) | (refine heap_past' ?_ ?_; ((try simp only [plus_size, World.size_alloc, World.size_drew, World.size_setCell, size_setRow, World.heap_drewN, List.length_append]) <;> omega)) | (refine heap_plus' ?_ ?_; ((try simp only [plus_size, World.size_alloc, World.size_drew, World.size_setCell, size_setRow, World.heap_drewN, List.length_append]) <;> omega)) | assumption)); done)), ownW_at (by (first | ((repeat (first | (refine heap_at _ _ _ ?_; ((try simp only [plus_size, World.size_alloc, World.size_drew, World.size_setCell, size_setRow, World.heap_drewN, List.length_append]) <;> omega)) | (refine heap_past' ?_ ?_; ((try simp only [plus_size, World.size_alloc, World.size_drew, World.size_setCell, size_setRow, World.heap_drewN, List.length_append]) <;> omega)) | (refine heap_plus' ?_ ?_; ((try simp only [plus_size, World.size_alloc, World.size_drew, World.size_setCell, size_setRow, World.heap_drewN, List.length_append]) <;> omega)) | assumption)); done) | (refine (show (World.alloc _ _).heap[_]? = _ from ?_); (repeat (first | (refine heap_at _ _ _ ?_; ((try simp only [plus_size, World.size_alloc, World.size_drew, World.size_setCell, size_setRow, World.heap_drewN, List.length_append]) <;> omega)) | (refine heap_past' ?_ ?_; ((try simp only [plus_size, World.size_alloc, World.size_drew, World.size_setCell, size_setRow, World.heap_drewN, List.length_append]) <;> omega)) | (refine heap_plus' ?_ ?_; ((try simp only [plus_size, World.size_alloc, World.size_drew, World.size_setCell, size_setRow, World.heap_drewN, List.length_append]) <;> omega)) | assumption)); done))) HMC.out (by ((try simp only [plus_size, World.size_alloc, World.size_drew, World.size_setCell, size_setRow, World.heap_drewN, List.length_append]) <;> omega)) (by unfold maxLen; omega), by (repeat (first | (with_reducible exact Below.refl _ _) | (with_reducible assumption) | (with_reducible refine below_plus' ?_ ?_; ((try simp only [plus_size, World.size_alloc, World.size_drew, World.size_setCell, size_setRow, World.heap_drewN, List.length_append]) <;> omega)) | (with_reducible refine below_alloc' ?_ ?_; ((try simp only [plus_size, World.size_alloc, World.size_drew, World.size_setCell, size_setRow, World.heap_drewN, List.length_append]) <;> omega)) | with_reducible refine Below.drew ?_ | (with_reducible refine below_drewN' ?_ _) | exact Below.refl _ _))⟩
      case rest =>
        obtain ⟨bo, g, rfl, hbg, hbx, hown, hbel⟩ := hcut
        obtain ⟨j0, d0, rfl⟩ := plus_of_below hbel
        clear hrm hmk
        have q0 := hbx.c0
        have q1 := hbx.c1
        go_wp2
        go_loopw [39] (fun sl wr => ∃ (i : Nat), i ≤ xs.length ∧ sl = .int .i64 i ∧ boxed wr bo 48 (lp + lq) (.slice (some ⟨g, 0, none⟩) N N) ∧ ownW 68 wr (((w.alloc (.cells #[.int .i64 lp, .slice a1 xs.length c1] 48)).alloc (.cells #[.int .i64 lq, .slice a2 ys.length c2] 48)).alloc (.cells #[.int .i64 0, .slice none 0 0] 48)).heap.size (.slice (some ⟨g, 0, none⟩) N N) (lstI N (cvR xs ys i)) ∧ Below (((w.alloc (.cells #[.int .i64 lp, .slice a1 xs.length c1] 48)).alloc (.cells #[.int .i64 lq, .slice a2 ys.length c2] 48)).alloc (.cells #[.int .i64 0, .slice none 0 0] 48)).heap.size (((w.alloc (.cells #[.int .i64 lp, .slice a1 xs.length c1] 48)).alloc (.cells #[.int .i64 lq, .slice a2 ys.length c2] 48)).alloc (.cells #[.int .i64 0, .slice none 0 0] 48)) wr) (fun sl _ => xs.length - (intOf sl).toNat)
        case atStart => exact ⟨0, by omega, by go_num, hbx, by rw [cvR_zero]; exact hown, hbel⟩
        case round =>
          clear hbx hown hbel q0 q1
          obtain ⟨i, hi, rfl, hbx, hown, hbel⟩ := hrel
          obtain ⟨j1, d1, rfl⟩ := plus_of_below hbel
          have q0 := hbx.c0
          have q1 := hbx.c1
          by_cases hlt : i < xs.length
          · obtain ⟨b, q, rfl, hbk, mm⟩ := H1.out.cells (by omega)
            have e0 := mm i hlt 0 (by decide)
            have e1 := mm i hlt 1 (by decide)
            have e2 := mm i hlt 2 (by decide)
            have e3 := mm i hlt 3 (by decide)
            rw [Nat.mul_comm] at e0 e1 e2 e3
            rw [Nat.add_zero] at e0
            have hb1 : b < w.heap.size + 1 := by omega
            have hb2 : b < w.heap.size + 1 + 1 := by omega
            have hb3 : b < w.heap.size + 1 + 1 + 1 := by omega
            clear mm
            by_cases hz : nth xs i = 0
            · have hE := fun w => HE.out w i hlt
              simp only [hz, decide_true] at hE e0 e1 e2 e3
              have HS := Lib.hid (cvR_skip (xs := xs) (ys := ys) (N := N) hz)
              clear hz
              go_wp2_with (first | ((with_reducible apply wpList_store_arr rfl rfl 68 _ _ rfl _ rfl _ rfl 4 info68); (repeat (first | (refine heap_at _ _ _ ?_; ((try simp only [plus_size, World.size_alloc, World.size_drew, World.size_setCell, size_setRow, World.heap_drewN, List.length_append]) <;> omega)) | (refine heap_past' ?_ ?_; ((try simp only [plus_size, World.size_alloc, World.size_drew, World.size_setCell, size_setRow, World.heap_drewN, List.length_append]) <;> omega)) | (refine heap_plus' ?_ ?_; ((try simp only [plus_size, World.size_alloc, World.size_drew, World.size_setCell, size_setRow, World.heap_drewN, List.length_append]) <;> omega)) | assumption)); (simp only [arrF_size, arrO_size]); (simp only [arrF_size, arrO_size]); (first | exact arrF_one _ _ _ | exact arrO_one _ _); (repeat (first | (refine setRow_at' ?_; ((try simp only [plus_size, World.size_alloc, World.size_drew, World.size_setCell, size_setRow, World.heap_drewN, List.length_append]) <;> omega)) | (apply setRow_past'; ((try simp only [plus_size, World.size_alloc, World.size_drew, World.size_setCell, size_setRow, World.heap_drewN, List.length_append]) <;> omega)) | (apply setRow_plus'; ((try simp only [plus_size, World.size_alloc, World.size_drew, World.size_setCell, size_setRow, World.heap_drewN, List.length_append]) <;> omega)) | exact rfl)))
                                        | ((with_reducible apply wpList_load_arr rfl 68 _ rfl _ rfl 4 66 Try.underlying68 info68); (repeat (first | (refine heap_at _ _ _ ?_; ((try simp only [plus_size, World.size_alloc, World.size_drew, World.size_setCell, size_setRow, World.heap_drewN, List.length_append]) <;> omega)) | (refine heap_past' ?_ ?_; ((try simp only [plus_size, World.size_alloc, World.size_drew, World.size_setCell, size_setRow, World.heap_drewN, List.length_append]) <;> omega)) | (refine heap_plus' ?_ ?_; ((try simp only [plus_size, World.size_alloc, World.size_drew, World.size_setCell, size_setRow, World.heap_drewN, List.length_append]) <;> omega)) | assumption)); (simp only [arrF_size, arrO_size])))
              refine ⟨⟨i + 1, by omega, by go_num, hbx.kept (by (repeat (first | (with_reducible exact Below.refl _ _) | (with_reducible assumption) | (with_reducible refine below_plus' ?_ ?_; ((try simp only [plus_size, World.size_alloc, World.size_drew, World.size_setCell, size_setRow, World.heap_drewN, List.length_append]) <;> omega)) | (with_reducible refine below_alloc' ?_ ?_; ((try simp only [plus_size, World.size_alloc, World.size_drew, World.size_setCell, size_setRow, World.heap_drewN, List.length_append]) <;> omega)) | with_reducible refine Below.drew ?_ | (with_reducible refine below_drewN' ?_ _) | exact Below.refl _ _))), by rw [← HS.out]; exact hown.kept (by (repeat (first | (with_reducible exact Below.refl _ _) | (with_reducible assumption) | (with_reducible refine below_plus' ?_ ?_; ((try simp only [plus_size, World.size_alloc, World.size_drew, World.size_setCell, size_setRow, World.heap_drewN, List.length_append]) <;> omega)) | (with_reducible refine below_alloc' ?_ ?_; ((try simp only [plus_size, World.size_alloc, World.size_drew, World.size_setCell, size_setRow, World.heap_drewN, List.length_append]) <;> omega)) | with_reducible refine Below.drew ?_ | (with_reducible refine below_drewN' ?_ _) | exact Below.refl _ _))), by (repeat (first | (with_reducible exact Below.refl _ _) | (with_reducible assumption) | (with_reducible refine below_plus' ?_ ?_; ((try simp only [plus_size, World.size_alloc, World.size_drew, World.size_setCell, size_setRow, World.heap_drewN, List.length_append]) <;> omega)) | (with_reducible refine below_alloc' ?_ ?_; ((try simp only [plus_size, World.size_alloc, World.size_drew, World.size_setCell, size_setRow, World.heap_drewN, List.length_append]) <;> omega)) | with_reducible refine Below.drew ?_ | (with_reducible refine below_drewN' ?_ _) | exact Below.refl _ _))⟩, ?_⟩
              simp [intOf]; omega
            · have hE := fun w => HE.out w i hlt
              simp only [hz, decide_false] at hE
              clear hz
              go_wp2_with (first | ((with_reducible apply wpList_store_arr rfl rfl 68 _ _ rfl _ rfl _ rfl 4 info68); (repeat (first | (refine heap_at _ _ _ ?_; ((try simp only [plus_size, World.size_alloc, World.size_drew, World.size_setCell, size_setRow, World.heap_drewN, List.length_append]) <;> omega)) | (refine heap_past' ?_ ?_; ((try simp only [plus_size, World.size_alloc, World.size_drew, World.size_setCell, size_setRow, World.heap_drewN, List.length_append]) <;> omega)) | (refine heap_plus' ?_ ?_; ((try simp only [plus_size, World.size_alloc, World.size_drew, World.size_setCell, size_setRow, World.heap_drewN, List.length_append]) <;> omega)) | assumption)); (simp only [arrF_size, arrO_size]); (simp only [arrF_size, arrO_size]); (first | exact arrF_one _ _ _ | exact arrO_one _ _); (repeat (first | (refine setRow_at' ?_; ((try simp only [plus_size, World.size_alloc, World.size_drew, World.size_setCell, size_setRow, World.heap_drewN, List.length_append]) <;> omega)) | (apply setRow_past'; ((try simp only [plus_size, World.size_alloc, World.size_drew, World.size_setCell, size_setRow, World.heap_drewN, List.length_append]) <;> omega)) | (apply setRow_plus'; ((try simp only [plus_size, World.size_alloc, World.size_drew, World.size_setCell, size_setRow, World.heap_drewN, List.length_append]) <;> omega)) | exact rfl)))
                                        | ((with_reducible apply wpList_load_arr rfl 68 _ rfl _ rfl 4 66 Try.underlying68 info68); (repeat (first | (refine heap_at _ _ _ ?_; ((try simp only [plus_size, World.size_alloc, World.size_drew, World.size_setCell, size_setRow, World.heap_drewN, List.length_append]) <;> omega)) | (refine heap_past' ?_ ?_; ((try simp only [plus_size, World.size_alloc, World.size_drew, World.size_setCell, size_setRow, World.heap_drewN, List.length_append]) <;> omega)) | (refine heap_plus' ?_ ?_; ((try simp only [plus_size, World.size_alloc, World.size_drew, World.size_setCell, size_setRow, World.heap_drewN, List.length_append]) <;> omega)) | assumption)); (simp only [arrF_size, arrO_size])))
              have hgx := (hown.lt g rfl).2
              (simp only [plus_size, World.size_alloc] at hgx)
              go_loopw [50] (fun sl wr => ∃ (k : Nat), k ≤ ys.length ∧ sl = .int .i64 k ∧ boxed wr bo 48 (lp + lq) (.slice (some ⟨g, 0, none⟩) N N) ∧ ownW 68 wr (((w.alloc (.cells #[.int .i64 lp, .slice (some ⟨b, q, none⟩) xs.length c1] 48)).alloc (.cells #[.int .i64 lq, .slice a2 ys.length c2] 48)).alloc (.cells #[.int .i64 0, .slice none 0 0] 48)).heap.size (.slice (some ⟨g, 0, none⟩) N N) (lstI N (cvP xs ys i k)) ∧ Below (((w.alloc (.cells #[.int .i64 lp, .slice (some ⟨b, q, none⟩) xs.length c1] 48)).alloc (.cells #[.int .i64 lq, .slice a2 ys.length c2] 48)).alloc (.cells #[.int .i64 0, .slice none 0 0] 48)).heap.size (((w.alloc (.cells #[.int .i64 lp, .slice (some ⟨b, q, none⟩) xs.length c1] 48)).alloc (.cells #[.int .i64 lq, .slice a2 ys.length c2] 48)).alloc (.cells #[.int .i64 0, .slice none 0 0] 48)) wr ∧ wr.heap[w.heap.size + 1 + 1 + 1 + j1.length]? = some (.cells (arrF .u64 4 (wrd (nth xs i))) 68)) (fun sl _ => ys.length - (intOf sl).toNat)
              case atStart => exact ⟨0, by omega, by go_num, hbx.kept (by (repeat (first | (with_reducible exact Below.refl _ _) | (with_reducible assumption) | (with_reducible refine below_plus' ?_ ?_; ((try simp only [plus_size, World.size_alloc, World.size_drew, World.size_setCell, size_setRow, World.heap_drewN, List.length_append]) <;> omega)) | (with_reducible refine below_alloc' ?_ ?_; ((try simp only [plus_size, World.size_alloc, World.size_drew, World.size_setCell, size_setRow, World.heap_drewN, List.length_append]) <;> omega)) | with_reducible refine Below.drew ?_ | (with_reducible refine below_drewN' ?_ _) | exact Below.refl _ _))), by rw [cvP_zero]; exact hown.kept (by (repeat (first | (with_reducible exact Below.refl _ _) | (with_reducible assumption) | (with_reducible refine below_plus' ?_ ?_; ((try simp only [plus_size, World.size_alloc, World.size_drew, World.size_setCell, size_setRow, World.heap_drewN, List.length_append]) <;> omega)) | (with_reducible refine below_alloc' ?_ ?_; ((try simp only [plus_size, World.size_alloc, World.size_drew, World.size_setCell, size_setRow, World.heap_drewN, List.length_append]) <;> omega)) | with_reducible refine Below.drew ?_ | (with_reducible refine below_drewN' ?_ _) | exact Below.refl _ _))), by (repeat (first | (with_reducible exact Below.refl _ _) | (with_reducible assumption) | (with_reducible refine below_plus' ?_ ?_; ((try simp only [plus_size, World.size_alloc, World.size_drew, World.size_setCell, size_setRow, World.heap_drewN, List.length_append]) <;> omega)) | (with_reducible refine below_alloc' ?_ ?_; ((try simp only [plus_size, World.size_alloc, World.size_drew, World.size_setCell, size_setRow, World.heap_drewN, List.length_append]) <;> omega)) | with_reducible refine Below.drew ?_ | (with_reducible refine below_drewN' ?_ _) | exact Below.refl _ _)), by (repeat (first | (refine heap_at _ _ _ ?_; ((try simp only [plus_size, World.size_alloc, World.size_drew, World.size_setCell, size_setRow, World.heap_drewN, List.length_append]) <;> omega)) | (refine heap_past' ?_ ?_; ((try simp only [plus_size, World.size_alloc, World.size_drew, World.size_setCell, size_setRow, World.heap_drewN, List.length_append]) <;> omega)) | (refine heap_plus' ?_ ?_; ((try simp only [plus_size, World.size_alloc, World.size_drew, World.size_setCell, size_setRow, World.heap_drewN, List.length_append]) <;> omega)) | assumption))⟩
              case round =>
                clear hbx hown hbel q0 q1 hE e0 e1 e2 e3
                obtain ⟨k, hk, rfl, hbx, hown, hbel, h7⟩ := hrel
                have l7 := heap_lt h7
                obtain ⟨j2, d2, rfl⟩ := plus_of_below hbel
                by_cases hlk : k < ys.length
                · have hlt0 := hlt
                  obtain ⟨b2, q2, rfl, hbk2, mm⟩ := H2.out.cells (by omega)
                  have q0 := hbx.c0
                  have q1 := hbx.c1
                  have e0 := mm k hlk 0 (by decide)
                  have e1 := mm k hlk 1 (by decide)
                  have e2 := mm k hlk 2 (by decide)
                  have e3 := mm k hlk 3 (by decide)
                  rw [Nat.mul_comm] at e0 e1 e2 e3
                  rw [Nat.add_zero] at e0
                  have hbb1 : b2 < w.heap.size + 1 := by omega
                  have hbb2 : b2 < w.heap.size + 1 + 1 := by omega
                  have hbb3 : b2 < w.heap.size + 1 + 1 + 1 := by omega
                  clear mm
                  obtain ⟨p, hp, hpk⟩ : ∃ p : Nat, (i : Int) + (k : Int) = p ∧ p = i + k := ⟨i + k, by omega, rfl⟩
                  have hpN : p < N := by have := HNx.out; omega
                  have hpN1 : (p : Int) < (N : Int) := by omega
                  have k0 := hown.cell (i := p) (j := 0) (by rw [lstI_length]; exact hpN) (by decide)
                  have k1 := hown.cell (i := p) (j := 1) (by rw [lstI_length]; exact hpN) (by decide)
                  have k2 := hown.cell (i := p) (j := 2) (by rw [lstI_length]; exact hpN) (by decide)
                  have k3 := hown.cell (i := p) (j := 3) (by rw [lstI_length]; exact hpN) (by decide)
                  rw [nth_lstI hpN] at k0 k1 k2 k3
                  rw [Nat.add_zero] at k0
                  have HST := Lib.hid (cvP_step (xs := xs) (ys := ys) (i := i) (k := k) (N := N))
                  rw [← hpk] at HST
                  generalize cvP xs ys i k p = z at k0 k1 k2 k3 HST
                  have HPK := Lib.hid hpk
                  clear hpk
                  have x0 := cellsF_at h7 (o := 0) (by decide)
                  have x1 := cellsF_at h7 (o := 1) (by decide)
                  have x2 := cellsF_at h7 (o := 2) (by decide)
                  have x3 := cellsF_at h7 (o := 3) (by decide)
                  have hgB := (hown.lt g rfl).1
                  have hgl := (hown.lt g rfl).2
                  have hbl := hbx.lt
                  (simp only [plus_size, World.size_alloc] at hgl hbl l7)
                  have hgl1 := Nat.lt_succ_of_lt hgl
                  have hbl1 := Nat.lt_succ_of_lt hbl
                  have l71 := Nat.lt_succ_of_lt l7
                  go_wp2_with (first | ((with_reducible apply wpList_store_arr rfl rfl 68 _ _ rfl _ rfl _ rfl 4 info68); (repeat (first | (refine heap_at _ _ _ ?_; ((try simp only [plus_size, World.size_alloc, World.size_drew, World.size_setCell, size_setRow, World.heap_drewN, List.length_append]) <;> omega)) | (refine heap_past' ?_ ?_; ((try simp only [plus_size, World.size_alloc, World.size_drew, World.size_setCell, size_setRow, World.heap_drewN, List.length_append]) <;> omega)) | (refine heap_plus' ?_ ?_; ((try simp only [plus_size, World.size_alloc, World.size_drew, World.size_setCell, size_setRow, World.heap_drewN, List.length_append]) <;> omega)) | assumption)); (simp only [arrF_size, arrO_size]); (simp only [arrF_size, arrO_size]); (first | exact arrF_one _ _ _ | exact arrO_one _ _); (repeat (first | (refine setRow_at' ?_; ((try simp only [plus_size, World.size_alloc, World.size_drew, World.size_setCell, size_setRow, World.heap_drewN, List.length_append]) <;> omega)) | (apply setRow_past'; ((try simp only [plus_size, World.size_alloc, World.size_drew, World.size_setCell, size_setRow, World.heap_drewN, List.length_append]) <;> omega)) | (apply setRow_plus'; ((try simp only [plus_size, World.size_alloc, World.size_drew, World.size_setCell, size_setRow, World.heap_drewN, List.length_append]) <;> omega)) | exact rfl)))
                                        | ((with_reducible apply wpList_load_arr rfl 68 _ rfl _ rfl 4 66 Try.underlying68 info68); (repeat (first | (refine heap_at _ _ _ ?_; ((try simp only [plus_size, World.size_alloc, World.size_drew, World.size_setCell, size_setRow, World.heap_drewN, List.length_append]) <;> omega)) | (refine heap_past' ?_ ?_; ((try simp only [plus_size, World.size_alloc, World.size_drew, World.size_setCell, size_setRow, World.heap_drewN, List.length_append]) <;> omega)) | (refine heap_plus' ?_ ?_; ((try simp only [plus_size, World.size_alloc, World.size_drew, World.size_setCell, size_setRow, World.heap_drewN, List.length_append]) <;> omega)) | assumption)); (simp only [arrF_size, arrO_size])))
                  refine region_plus_tail 17 (by kernel_rfl) (by kernel_rfl) ?_
                  simp only [List.take_succ_cons, List.take_zero, List.drop_succ_cons, List.drop_zero]
                  repeat (go_big_quiet_step (first | (go_at_call 58; exact calls_plus (times_any _ _ _)) | (go_at_call 55; exact calls_plus (plus_any _ _ _))))
                  refine wpQuiet_nil ?_
                  intro _ hw'
                  obtain ⟨q, hw''⟩ := hw'
                  subst hw''
                  rw [plusq_eq]
                  generalize q.j = j
                  generalize q.d = d
                  clear q
                  have hbelB : Below (plus (((w.alloc (.cells #[.int .i64 lp, .slice (some ⟨b, q, none⟩) xs.length c1] 48)).alloc (.cells #[.int .i64 lq, .slice (some ⟨b2, q2, none⟩) ys.length c2] 48)).alloc (.cells #[.int .i64 0, .slice none 0 0] 48)) j2 d2).heap.size (plus (((w.alloc (.cells #[.int .i64 lp, .slice (some ⟨b, q, none⟩) xs.length c1] 48)).alloc (.cells #[.int .i64 lq, .slice (some ⟨b2, q2, none⟩) ys.length c2] 48)).alloc (.cells #[.int .i64 0, .slice none 0 0] 48)) j2 d2) (plus ((plus (((w.alloc (.cells #[.int .i64 lp, .slice (some ⟨b, q, none⟩) xs.length c1] 48)).alloc (.cells #[.int .i64 lq, .slice (some ⟨b2, q2, none⟩) ys.length c2] 48)).alloc (.cells #[.int .i64 0, .slice none 0 0] 48)) j2 d2).alloc (.cells (arrF .u64 4 (wrd (nth ys k))) 68)) j d) := by (repeat (first | (with_reducible exact Below.refl _ _) | (with_reducible assumption) | (with_reducible refine below_plus' ?_ ?_; ((try simp only [plus_size, World.size_alloc, World.size_drew, World.size_setCell, size_setRow, World.heap_drewN, List.length_append]) <;> omega)) | (with_reducible refine below_alloc' ?_ ?_; ((try simp only [plus_size, World.size_alloc, World.size_drew, World.size_setCell, size_setRow, World.heap_drewN, List.length_append]) <;> omega)) | with_reducible refine Below.drew ?_ | (with_reducible refine below_drewN' ?_ _) | exact Below.refl _ _))
                  obtain ⟨cur, hcur, hsz, hput, hgr⟩ := (hown.kept hbelB).put (t := p) (by rw [lstI_length]; exact hpN) (z + nth xs i * nth ys k)
                  rw [HST.out] at hput
                  refine wpList_store_sub rfl rfl _ _ _ rfl g (p * 4) rfl (arrF .u64 4 (wrd (z + nth xs i * nth ys k))) rfl cur 68 hcur (by rw [arrF_size]; exact info68) hsz (arrF_one _ _ _) ?_
                  have hbx3 := (hbx.kept hbelB).grown hgr (fun e => hbg (by cases e; rfl))
                  have h73 := grown_of (kept_of h7 hbelB) hgr (fun e => by cases e; omega)
                  have hbel3 := hbel.trans ((hbelB.mono (by ((try simp only [plus_size, World.size_alloc, World.size_drew, World.size_setCell, size_setRow, World.heap_drewN, List.length_append]) <;> omega))).trans (below_of_grown hgr (by ((try simp only [plus_size, World.size_alloc, World.size_drew, World.size_setCell, size_setRow, World.heap_drewN, List.length_append]) <;> omega)) (fun q hq => by cases hq; exact hgB)))
                  revert hput hgr hbx3 h73 hbel3
                  generalize (plus ((plus (((w.alloc (.cells #[.int .i64 lp, .slice (some ⟨b, q, none⟩) xs.length c1] 48)).alloc (.cells #[.int .i64 lq, .slice (some ⟨b2, q2, none⟩) ys.length c2] 48)).alloc (.cells #[.int .i64 0, .slice none 0 0] 48)) j2 d2).alloc (.cells (arrF .u64 4 (wrd (nth ys k))) 68)) j d).setRow g (putA cur (p * 4) (arrF .u64 4 (wrd (z + nth xs i * nth ys k)))) = w3
                  intro hput hgr hbx3 h73 hbel3
                  go_wp2
                  refine ⟨⟨k + 1, by omega, by go_num, hbx3, hput, hbel3, h73⟩, ?_⟩
                  simp [intOf]; omega
                · obtain rfl : k = ys.length := by omega
                  rw [cvP_full] at hown
                  go_wp2
                  refine ⟨⟨i + 1, by omega, by go_num, hbx, hown, hbel⟩, ?_⟩
                  simp [intOf]; omega
          · obtain rfl : i = xs.length := by omega
            have HTr := trim_sl (lp + lq) (some ⟨g, 0, none⟩) N (lstI N (cvR xs ys xs.length)) (plus (((w.alloc (.cells #[.int .i64 lp, .slice a1 xs.length c1] 48)).alloc (.cells #[.int .i64 lq, .slice a2 ys.length c2] 48)).alloc (.cells #[.int .i64 0, .slice none 0 0] 48)) j1 d1) (by rw [lstI_length]; exact hown.reads) (by rw [lstI_length]; exact Nat.le_refl _) (by rw [lstI_length]; omega) (by omega) (by omega) HF.out
            rw [lstI_length] at HTr
            replace HTr := Lib.hid HTr
            clear hown
            go_wp2_with (first | (go_at_call 56; with_reducible refine Calls.mono HTr.out ?_; rintro e w' ⟨⟨a3, c3, rfl, hR⟩, hB⟩; obtain ⟨j, d, rfl⟩ := plus_of_below hB; clear hB))
            refine bodyPost_ret (v := .agg #[.int .i64 (trimLow (lp + lq) (lstI N (cvR xs ys xs.length))), .slice a3 (trimLst (lstI N (cvR xs ys xs.length))).length c3]) (by simp [results, Try.results40, go_sem]) rfl ?_
            refine ⟨⟨_, by rw [HA.out.1], ?_⟩, by (repeat (first | (with_reducible exact Below.refl _ _) | (with_reducible assumption) | (with_reducible refine below_plus' ?_ ?_; ((try simp only [plus_size, World.size_alloc, World.size_drew, World.size_setCell, size_setRow, World.heap_drewN, List.length_append]) <;> omega)) | (with_reducible refine below_alloc' ?_ ?_; ((try simp only [plus_size, World.size_alloc, World.size_drew, World.size_setCell, size_setRow, World.heap_drewN, List.length_append]) <;> omega)) | with_reducible refine Below.drew ?_ | (with_reducible refine below_drewN' ?_ _) | exact Below.refl _ _))⟩
            rw [HA.out.2]
            have hR2 := hR.kept (below_plus (Below.refl _ _) (Nat.le_refl _) j d)
            exact hR2.off (K := w.heap.size + 1 + 1) (((OffB.here _ _ _ (by ((try simp only [plus_size, World.size_alloc, World.size_drew, World.size_setCell, size_setRow, World.heap_drewN, List.length_append]) <;> omega))).plus _ _ _).plus _ _ _) (by (repeat (first | (refine heap_at _ _ _ ?_; ((try simp only [plus_size, World.size_alloc, World.size_drew, World.size_setCell, size_setRow, World.heap_drewN, List.length_append]) <;> omega)) | (refine heap_past' ?_ ?_; ((try simp only [plus_size, World.size_alloc, World.size_drew, World.size_setCell, size_setRow, World.heap_drewN, List.length_append]) <;> omega)) | (refine heap_plus' ?_ ?_; ((try simp only [plus_size, World.size_alloc, World.size_drew, World.size_setCell, size_setRow, World.heap_drewN, List.length_append]) <;> omega)) | assumption)))
end Go.Proofs.Ytcipdgmimmngoaa
