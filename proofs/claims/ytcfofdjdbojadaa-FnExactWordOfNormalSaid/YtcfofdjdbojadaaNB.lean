/- The word of a normal form, by the reference. Conditions: as each theorem says. -/
import Derived.Test.YtcfofdjdbojadaaNA
import Derived.BigRegion
import Derived.Deep.RegionWith
import Derived.Deep.RegionLaw
namespace Go.Proofs.Ytcfofdjdbojadaa
open Go.RowKit
set_option linter.unusedSimpArgs false
set_option linter.unusedVariables false
theorem ints_form {e : TypeId} {w w' : World} {xs : List Int} {en : Ending} (h : RetInts e w xs en w') : ∃ v, en = .returned v ∧ Below w.heap.size w w' ∧ own e w' w.heap.size v xs := h
theorem reads_form' {w : World} {v : Value} {xs : List Int} (h : reads w v xs) : ∃ a c, v = .slice a xs.length c := by
  obtain ⟨a, c, hv, _⟩ := h
  exact ⟨a, c, hv⟩
theorem own_empty {e : TypeId} {w : World} {B b : Nat} (h : w.heap[b]? = some (.cells #[] e)) (hB : B ≤ b) : own e w B (.slice (some ⟨b, 0, none⟩) 0 0) [] :=
  ⟨rfl, .inr ⟨b, 0, #[], rfl, hB, h, Nat.le_refl _, by decide, rfl, rfl⟩⟩
theorem below_box {w wr : World} {o : Obj} (h : Below w.heap.size w wr) (hb : wr.heap[w.heap.size]? = some o) : Below (w.alloc o).heap.size (w.alloc o) wr := by
  refine ⟨h.os, h.tape, h.output, ?_, fun k hk => ?_⟩
  · rw [World.size_alloc]; have := heap_lt hb; omega
  · rw [World.size_alloc] at hk
    by_cases e : k = w.heap.size
    · rw [e, hb, heap_alloc_last]
    · rw [h.block k (by omega), heap_past w o k (by omega)]
/-- the numbers from i on, backwards, turned -/
def revP (H : List Int) (i : Nat) : List Int := (H.drop i).reverse.map negL
theorem revP_end (H : List Int) : revP H H.length = [] := by simp [revP]
theorem revP_zero (H : List Int) : revP H 0 = H.reverse.map negL := by simp [revP]
theorem revP_step {H : List Int} {i : Nat} (h : i < H.length) : revP H i = revP H (i + 1) ++ [negL (nth H i)] := by
  unfold revP
  rw [List.drop_eq_getElem_cons h, List.reverse_cons, List.map_append]
  simp [nth, h]
theorem revP_len (H : List Int) (i : Nat) : (revP H i).length ≤ H.length := by simp [revP]
theorem reads_at {w : World} {a : Option Addr} {n c : Nat} {xs : List Int} (h : reads w (.slice a n c) xs) (hp : 0 < xs.length) : ∃ b o, a = some ⟨b, o, none⟩ ∧ b < w.heap.size ∧ ∀ i, i < xs.length → w.cell? ⟨b, o + i, none⟩ = some (.int .i64 (nth xs i)) := by
  obtain ⟨a', cap, hv, h⟩ := h
  cases hv
  rcases h with h | ⟨b, o, rfl, h⟩
  · rw [h] at hp; cases hp
  · exact ⟨b, o, rfl, World.block_lt_of_cell? w _ (h 0 hp), h⟩
set_option maxHeartbeats 4000000 in
theorem spec_word_of (q : Nat) (z : Int) (v : Value) (m : Nat) (s : Nat → Nat → Nat) (w : World) (h : readsA w v m s) (hk : okN (q : Int) z m s = true) : Calls Try.prog 15 #[.agg #[.int .i64 (q : Int), .int .i64 z, v]] w (RetInts 2 w (wordL q z m s)) := by
  obtain ⟨q', hq', h1, h2, hz, hm, _, hnf⟩ := okN_true hk
  obtain rfl : q = q' := by omega
  obtain ⟨av, cv, rfl, hs⟩ := id h
  have Hs := Lib.hid (show 0 < m → ∃ b o, av = some ⟨b, o, none⟩ ∧ b < w.heap.size ∧ ∀ i, i < m → ∀ k, k < 8 → w.cell? ⟨b, o + i * 8 + k, none⟩ = some (.int .u8 (s i k : Int)) from fun hp => by
    rcases hs with hs | ⟨b, o, rfl, mm⟩
    · omega
    · exact ⟨b, o, rfl, World.block_lt_of_cell? w _ (mm 0 hp 0 (by omega)), mm⟩)
  have hz1 := (inB_true hz).1
  have hz2 := (inB_true hz).2
  have HW := Lib.hid (fun w => spec_word (halfN q q) q w h1 h2 (perm_half q))
  have HF := Lib.hid (fun k (hk : k < m) w => spec_word (s k) q w h1 h2 (nf_perm (hnf k hk)))
  have HL2 := Lib.hid (hw_len h2)
  have HS := Lib.hid (hw_sm h2)
  have HH := Lib.hid (hwK_len z h2)
  have HR := Lib.hid (show hwK q z = if z < 0 then (wordK q 1000 (halfN q q)).reverse.map negL else wordK q 1000 (halfN q q) from rfl)
  have HWL := Lib.hid (show wordL q z m s = repW (hwK q z) z.natAbs ++ catK q s m from rfl)
  have HRL := Lib.hid (fun k (hk : k ≤ z.natAbs) => show (repW (hwK q z) k).length ≤ 20000 from by
    rw [repW_length]
    exact Nat.le_trans (Nat.mul_le_mul (show k ≤ 200 by omega) (hwK_len z h2)) (by decide))
  have HCL := Lib.hid (fun k (hk : k ≤ m) => show (catK q s k).length ≤ 200000 from Nat.le_trans (catK_length q s k) (by omega))
  clear hk hz hnf h hs hq'
  generalize wordK q 1000 (halfN q q) = HL at HW HL2 HS HR
  generalize hwK q z = HZ at HH HR HWL HRL
  go_enter Try.func15, Try.ntmps15
  go_upto_region 1 with (fail)
  go_cut [3, 4] from 9 to 15 (fun s3 s4 wr => ∃ (ah : Option Addr) (ch b4 : Nat), s3 = .slice ah HL.length ch ∧ s4 = .slice (some ⟨b4, 0, none⟩) 0 0 ∧ Wst w wr 31 w.heap.size #[.int .i64 (q : Int), .int .i64 z, .slice av m cv] (.slice ah HL.length ch) HL (.slice (some ⟨b4, 0, none⟩) 0 0) [])
  case first =>
    go_region_with (first | (go_at_call 31; refine Calls.mono (HW.out _) ?_; intro e w' hh; obtain ⟨vh, rfl, hB, hoh⟩ := ints_form hh; clear hh; have hrh := hoh.reads; have hlh := hoh.lt; obtain ⟨ah, ch, rfl⟩ := reads_form' hrh; clear hoh; obtain ⟨j, d, rfl⟩ := plus_of_below hB; clear hB) | (go_at_call 29; refine (spec_half _ _ h1 h2).mono ?_; rintro e w' ⟨rfl, hB⟩; obtain ⟨j, d, rfl⟩ := plus_of_below hB; clear hB))
    all_goals
      go_wp2
      go_meet
      case rel =>
        refine ⟨ah, ch, _, rfl, rfl, by (repeat (first | (with_reducible exact Below.refl _ _) | (with_reducible assumption) | (with_reducible refine below_plus' ?_ ?_; ((try simp only [plus_size, World.size_alloc, World.size_drew, World.size_setCell, size_setRow, World.heap_drewN, List.length_append]) <;> omega)) | (with_reducible refine below_alloc' ?_ ?_; ((try simp only [plus_size, World.size_alloc, World.size_drew, World.size_setCell, size_setRow, World.heap_drewN, List.length_append]) <;> omega)) | with_reducible refine Below.drew ?_ | (with_reducible refine below_drewN' ?_ _) | exact Below.refl _ _)), by (repeat (first | (refine heap_at _ _ _ ?_; ((try simp only [plus_size, World.size_alloc, World.size_drew, World.size_setCell, size_setRow, World.heap_drewN, List.length_append]) <;> omega)) | (refine heap_past' ?_ ?_; ((try simp only [plus_size, World.size_alloc, World.size_drew, World.size_setCell, size_setRow, World.heap_drewN, List.length_append]) <;> omega)) | (refine heap_plus' ?_ ?_; ((try simp only [plus_size, World.size_alloc, World.size_drew, World.size_setCell, size_setRow, World.heap_drewN, List.length_append]) <;> omega)) | assumption)), hrh.kept (by (repeat (first | (with_reducible exact Below.refl _ _) | (with_reducible assumption) | (with_reducible refine below_plus' ?_ ?_; ((try simp only [plus_size, World.size_alloc, World.size_drew, World.size_setCell, size_setRow, World.heap_drewN, List.length_append]) <;> omega)) | (with_reducible refine below_alloc' ?_ ?_; ((try simp only [plus_size, World.size_alloc, World.size_drew, World.size_setCell, size_setRow, World.heap_drewN, List.length_append]) <;> omega)) | with_reducible refine Below.drew ?_ | (with_reducible refine below_drewN' ?_ _) | exact Below.refl _ _))), fun k hk => ?_, own_empty (by (repeat (first | (refine heap_at _ _ _ ?_; ((try simp only [plus_size, World.size_alloc, World.size_drew, World.size_setCell, size_setRow, World.heap_drewN, List.length_append]) <;> omega)) | (refine heap_past' ?_ ?_; ((try simp only [plus_size, World.size_alloc, World.size_drew, World.size_setCell, size_setRow, World.heap_drewN, List.length_append]) <;> omega)) | (refine heap_plus' ?_ ?_; ((try simp only [plus_size, World.size_alloc, World.size_drew, World.size_setCell, size_setRow, World.heap_drewN, List.length_append]) <;> omega)) | assumption))) (by ((try simp only [plus_size, World.size_alloc, World.size_drew, World.size_setCell, size_setRow, World.heap_drewN, List.length_append]) <;> omega)), fun k h1 h2 => ?_⟩
        · have h3 := (hlh k hk).2
          simp only [plus_size, World.size_alloc, World.size_drew] at h3 ⊢
          omega
        · have h3 := (hlh k h2).2
          have h4 := (hlh k h2).1
          cases h1
          simp only [plus_size, World.size_alloc, World.size_drew] at h3 h4
          omega
  case rest =>
    obtain ⟨ah, ch, b4, rfl, rfl, M⟩ := hcut
    have HM0 := Lib.hid M
    clear M
    by_cases hz0 : z < 0
    · have HEq := Lib.hid (show HL.reverse.map negL = HZ by rw [HR.out, if_pos hz0])
      have hz3 : (z.natAbs : Int) = -z := by omega
      have M := HM0.out
      have x0 := cell_of (i := 0) M.box; have x1 := cell_of (i := 1) M.box; have x2 := cell_of (i := 2) M.box; have lb := heap_lt M.box; simp only [List.getElem?_toArray, List.getElem?_cons_zero, List.getElem?_cons_succ] at x0 x1 x2
      go_wp2
      refine wp_loop_rounds 1 ?_
      rw [rounds_succ]
      go_wp2
      go_loopw [4, 6] (fun v5 sl wr => ∃ (k : Nat) (a5 : Option Addr) (c5 : Nat) (l5 : List Int), Hid (l5 = repW HZ k) ∧ k ≤ z.natAbs ∧ sl = .int .i64 (z + k) ∧ v5 = .slice a5 l5.length c5 ∧ Hid (Wst w wr 31 w.heap.size #[.int .i64 (q : Int), .int .i64 z, .slice av m cv] (.slice ah HL.length ch) HL (.slice a5 l5.length c5) l5)) (fun _ sl _ => (-(intOf sl)).toNat)
      case atStart => exact ⟨0, _, 0, [], Lib.hid rfl, by omega, by simp, rfl, HM0⟩
      case round =>
        clear x0 x1 x2 lb M HM0
        obtain ⟨k, a5, c5, l5, HLl, hk, rfl, rfl, HM⟩ := hrel
        have M := HM.out
        have x0 := cell_of (i := 0) M.box; have x1 := cell_of (i := 1) M.box; have x2 := cell_of (i := 2) M.box; have lb := heap_lt M.box; simp only [List.getElem?_toArray, List.getElem?_cons_zero, List.getElem?_cons_succ] at x0 x1 x2
        have hl5 : l5.length ≤ 20000 := by have := HRL.out k hk; rw [← HLl.out] at this; exact this
        by_cases hlt : k < z.natAbs
        · have hlt2 : z + (k : Int) < 0 := by omega
          have h64 := HL2.out
          go_wp2
          go_loopw [4, 7] (fun v5 sl wr => ∃ (i : Nat) (a5 : Option Addr) (c5 : Nat) (l5 : List Int), Hid (l5 = repW HZ k ++ revP HL i) ∧ i ≤ HL.length ∧ sl = .int .i64 ((i : Int) - 1) ∧ v5 = .slice a5 l5.length c5 ∧ Hid (Wst w wr 31 w.heap.size #[.int .i64 (q : Int), .int .i64 z, .slice av m cv] (.slice ah HL.length ch) HL (.slice a5 l5.length c5) l5)) (fun _ sl _ => (intOf sl + 1).toNat)
          case atStart => exact ⟨HL.length, a5, c5, l5, Lib.hid (by rw [HLl.out, revP_end, List.append_nil]), Nat.le_refl _, by go_num, rfl, HM⟩
          case round =>
            clear x0 x1 x2 lb M HM HLl hl5
            obtain ⟨i, a5, c5, l5, HLl, hi, rfl, rfl, HM⟩ := hrel
            have M := HM.out
            have x0 := cell_of (i := 0) M.box; have x1 := cell_of (i := 1) M.box; have x2 := cell_of (i := 2) M.box; have lb := heap_lt M.box; simp only [List.getElem?_toArray, List.getElem?_cons_zero, List.getElem?_cons_succ] at x0 x1 x2
            by_cases hi0 : 0 < i
            · obtain ⟨p, rfl⟩ : ∃ p, i = p + 1 := ⟨i - 1, by omega⟩
              have hl5 : l5.length ≤ 20100 := by
                have h1 := HRL.out k hk
                have h2 := revP_len HL (p + 1)
                have h3 := congrArg List.length HLl.out
                rw [List.length_append] at h3
                have := HL2.out
                omega
              obtain ⟨bh, oh, rfl, hbl, mm⟩ := reads_at M.hr (by omega)
              have cp := mm p (by omega)
              have hs7 := HS.out p (by omega)
              clear mm
              go_wp2_with ((at_builtin; go_loud (refine wpList_appendW rfl _ _ 26 rfl 2 Try.underlying26 infoI w.heap.size (.slice a5 l5.length c5) (_) (l5) ([negL (nth HL p)]) rfl rfl (M.ho.kept (by (repeat (first | (with_reducible exact Below.refl _ _) | (with_reducible assumption) | (with_reducible refine below_plus' ?_ ?_; ((try simp only [plus_size, World.size_alloc, World.size_drew, World.size_setCell, size_setRow, World.heap_drewN, List.length_append]) <;> omega)) | (with_reducible refine below_alloc' ?_ ?_; ((try simp only [plus_size, World.size_alloc, World.size_drew, World.size_setCell, size_setRow, World.heap_drewN, List.length_append]) <;> omega)) | with_reducible refine Below.drew ?_ | (with_reducible refine below_drewN' ?_ _) | exact Below.refl _ _)))) ((reads_built (by ((try simp only [plus_size, World.size_alloc, World.size_drew, World.size_setCell, size_setRow, World.heap_drewN, List.length_append]) <;> omega)) rfl rfl)) ((by simp; omega)) (by have := M.bel.size; ((try simp only [plus_size, World.size_alloc, World.size_drew, World.size_setCell, size_setRow, World.heap_drewN, List.length_append]) <;> omega)) ?_; intro v' w' ho' hgr hB hwh; replace M := (M.kept (by (repeat (first | (with_reducible exact Below.refl _ _) | (with_reducible assumption) | (with_reducible refine below_plus' ?_ ?_; ((try simp only [plus_size, World.size_alloc, World.size_drew, World.size_setCell, size_setRow, World.heap_drewN, List.length_append]) <;> omega)) | (with_reducible refine below_alloc' ?_ ?_; ((try simp only [plus_size, World.size_alloc, World.size_drew, World.size_setCell, size_setRow, World.heap_drewN, List.length_append]) <;> omega)) | with_reducible refine Below.drew ?_ | (with_reducible refine below_drewN' ?_ _) | exact Below.refl _ _)))).app (by decide) ho' hgr hwh; clear ho' hgr hB hwh; obtain ⟨l6, hl6⟩ : ∃ l6, l5 ++ [negL (nth HL p)] = l6 := ⟨_, rfl⟩; rw [hl6] at M; obtain ⟨a', c', rfl, hs⟩ := id M.ho.reads; clear hs; clear x0 x1 x2 lb; have x0 := cell_of (i := 0) M.box; have x1 := cell_of (i := 1) M.box; have x2 := cell_of (i := 2) M.box; have lb := heap_lt M.box; simp only [List.getElem?_toArray, List.getElem?_cons_zero, List.getElem?_cons_succ] at x0 x1 x2)))
              go_roundw
              case rel => exact ⟨p, a', c', l6, Lib.hid (by rw [← hl6, HLl.out, List.append_assoc, ← revP_step (by omega)]), by omega, by go_num, rfl, Lib.hid M⟩
              case measure => first | (simp [intOf]; done) | (simp [intOf]; omega)
            · obtain rfl : i = 0 := by omega
              go_wp2
              go_roundw
              case rel => exact ⟨k + 1, a5, c5, l5, Lib.hid (by rw [HLl.out, revP_zero, HEq.out]; rfl), by omega, by go_num, rfl, HM⟩
              case measure => simp [intOf]; omega
        · obtain rfl : k = z.natAbs := by omega
          have hlt2 : ¬ z + (z.natAbs : Int) < 0 := by omega
          go_wp2
          go_loopw [4, 8] (fun v5 sl wr => ∃ (k : Nat) (a5 : Option Addr) (c5 : Nat) (l5 : List Int), Hid (l5 = repW HZ z.natAbs ++ catK q s k) ∧ k ≤ m ∧ sl = .int .i64 k ∧ v5 = .slice a5 l5.length c5 ∧ Hid (Wst w wr 31 w.heap.size #[.int .i64 (q : Int), .int .i64 z, .slice av m cv] (.slice ah HL.length ch) HL (.slice a5 l5.length c5) l5)) (fun _ sl _ => m - (intOf sl).toNat)
          case atStart => exact ⟨0, a5, c5, l5, Lib.hid (by rw [HLl.out]; simp [catK]), by omega, rfl, rfl, Lib.hid M⟩
          case round =>
            clear x0 x1 x2 lb M HLl hl5
            obtain ⟨k, a5, c5, l5, HLl, hk, rfl, rfl, HM⟩ := hrel
            have M := HM.out
            have hl5 : l5.length ≤ 220000 := by
              have h1 := HRL.out _ (Nat.le_refl _)
              have h2 := HCL.out k hk
              have h3 := congrArg List.length HLl.out
              rw [List.length_append] at h3
              omega
            by_cases hlt : k < m
            · obtain ⟨b1, o1, rfl, hb1, mm⟩ := Hs.out (by omega)
              have hmk : ∀ c, c < 8 → wr.cell? ⟨b1, o1 + k * 8 + c, none⟩ = some (.int .u8 (s k c : Int)) := fun c hc => by rw [M.bel.cell (p := ⟨b1, o1 + k * 8 + c, none⟩) hb1]; exact mm k hlt c hc
              have hsz := M.bel.size
              have k1 : b1 < wr.heap.size := by omega
              have g0 := hmk 0 (by omega); have g1 := hmk 1 (by omega); have g2 := hmk 2 (by omega); have g3 := hmk 3 (by omega); have g4 := hmk 4 (by omega); have g5 := hmk 5 (by omega); have g6 := hmk 6 (by omega); have g7 := hmk 7 (by omega); rw [Nat.add_zero] at g0
              clear mm hmk
              obtain ⟨LW, hLW⟩ : ∃ LW, wordK q 1000 (s k) = LW := ⟨_, rfl⟩
              have hLl := wordK_length q 1000 (s k)
              have hfk := HF.out k hlt
              rw [hLW] at hLl hfk
              have HFk := Lib.hid hfk
              clear hfk
              have x0 := cell_of (i := 0) M.box; have x1 := cell_of (i := 1) M.box; have x2 := cell_of (i := 2) M.box; have lb := heap_lt M.box; simp only [List.getElem?_toArray, List.getElem?_cons_zero, List.getElem?_cons_succ] at x0 x1 x2
              go_wp2
              go_region_law (first | (refine step_appendW rfl _ _ 26 rfl 2 Try.underlying26 infoI w.heap.size (.slice a5 l5.length c5) (.slice aw LW.length cw) l5 LW rfl rfl (M.ho.kept (by (repeat (first | (with_reducible exact Below.refl _ _) | (with_reducible assumption) | (with_reducible refine below_plus' ?_ ?_; ((try simp only [plus_size, World.size_alloc, World.size_drew, World.size_setCell, size_setRow, World.heap_drewN, List.length_append]) <;> omega)) | (with_reducible refine below_alloc' ?_ ?_; ((try simp only [plus_size, World.size_alloc, World.size_drew, World.size_setCell, size_setRow, World.heap_drewN, List.length_append]) <;> omega)) | with_reducible refine Below.drew ?_ | (with_reducible refine below_drewN' ?_ _) | exact Below.refl _ _)))) (hrw.kept (by (repeat (first | (with_reducible exact Below.refl _ _) | (with_reducible assumption) | (with_reducible refine below_plus' ?_ ?_; ((try simp only [plus_size, World.size_alloc, World.size_drew, World.size_setCell, size_setRow, World.heap_drewN, List.length_append]) <;> omega)) | (with_reducible refine below_alloc' ?_ ?_; ((try simp only [plus_size, World.size_alloc, World.size_drew, World.size_setCell, size_setRow, World.heap_drewN, List.length_append]) <;> omega)) | with_reducible refine Below.drew ?_ | (with_reducible refine below_drewN' ?_ _) | exact Below.refl _ _)))) (by omega) (by have := M.bel.size; ((try simp only [plus_size, World.size_alloc, World.size_drew, World.size_setCell, size_setRow, World.heap_drewN, List.length_append]) <;> omega)) ?_; intro v' w' ho' hgr hB hwh; replace M := (M.kept (by (repeat (first | (with_reducible exact Below.refl _ _) | (with_reducible assumption) | (with_reducible refine below_plus' ?_ ?_; ((try simp only [plus_size, World.size_alloc, World.size_drew, World.size_setCell, size_setRow, World.heap_drewN, List.length_append]) <;> omega)) | (with_reducible refine below_alloc' ?_ ?_; ((try simp only [plus_size, World.size_alloc, World.size_drew, World.size_setCell, size_setRow, World.heap_drewN, List.length_append]) <;> omega)) | with_reducible refine Below.drew ?_ | (with_reducible refine below_drewN' ?_ _) | exact Below.refl _ _)))).app (by decide) ho' hgr hwh; clear ho' hgr hB hwh; obtain ⟨l6, hl6⟩ : ∃ l6, l5 ++ LW = l6 := ⟨_, rfl⟩; rw [hl6] at M; obtain ⟨a', c', rfl⟩ := reads_form' M.ho.reads) | (go_simp; (go_at_call 31; refine Calls.mono (HFk.out _) ?_; intro e w' hh; obtain ⟨vw, rfl, hB, how⟩ := ints_form hh; clear hh; have hrw := how.reads; obtain ⟨aw, cw, rfl⟩ := reads_form' hrw; clear how; obtain ⟨j, d, rfl⟩ := plus_of_below hB; clear hB); dsimp only))
              all_goals
                go_wp2
                go_roundw
                case rel => exact ⟨k + 1, a', c', l6, Lib.hid (by rw [← hl6, HLl.out, ← hLW, catK, List.append_assoc]), by omega, by go_num, rfl, Lib.hid M⟩
                case measure => simp [intOf]; omega
            · obtain rfl : k = m := by omega
              have hw : l5 = wordL q z k s := HLl.out.trans HWL.out.symm
              have HO := Lib.hid M.ho
              have HB := Lib.hid M.bel
              have x0 := cell_of (i := 0) M.box; have x1 := cell_of (i := 1) M.box; have x2 := cell_of (i := 2) M.box; have lb := heap_lt M.box; simp only [List.getElem?_toArray, List.getElem?_cons_zero, List.getElem?_cons_succ] at x0 x1 x2
              clear M HM
              go_wp2
              go_ret
              exact ⟨_, rfl, HB.out, by rw [← hw]; exact HO.out⟩
    · have HEq := Lib.hid (show HL = HZ by rw [HR.out, if_neg hz0])
      have hz3 : (z.natAbs : Int) = z := by omega
      have M := HM0.out
      have x0 := cell_of (i := 0) M.box; have x1 := cell_of (i := 1) M.box; have x2 := cell_of (i := 2) M.box; have lb := heap_lt M.box; simp only [List.getElem?_toArray, List.getElem?_cons_zero, List.getElem?_cons_succ] at x0 x1 x2
      go_wp2
      go_loopw [4, 5] (fun v5 sl wr => ∃ (k : Nat) (a5 : Option Addr) (c5 : Nat) (l5 : List Int), Hid (l5 = repW HZ k) ∧ k ≤ z.natAbs ∧ sl = .int .i64 k ∧ v5 = .slice a5 l5.length c5 ∧ Hid (Wst w wr 31 w.heap.size #[.int .i64 (q : Int), .int .i64 z, .slice av m cv] (.slice ah HL.length ch) HL (.slice a5 l5.length c5) l5)) (fun _ sl _ => z.natAbs - (intOf sl).toNat)
      case atStart => exact ⟨0, _, 0, [], Lib.hid rfl, by omega, rfl, rfl, HM0⟩
      case round =>
        clear x0 x1 x2 lb M HM0
        obtain ⟨k, a5, c5, l5, HLl, hk, rfl, rfl, HM⟩ := hrel
        have M := HM.out
        have x0 := cell_of (i := 0) M.box; have x1 := cell_of (i := 1) M.box; have x2 := cell_of (i := 2) M.box; have lb := heap_lt M.box; simp only [List.getElem?_toArray, List.getElem?_cons_zero, List.getElem?_cons_succ] at x0 x1 x2
        have hl5 : l5.length ≤ 20000 := by have := HRL.out k hk; rw [← HLl.out] at this; exact this
        by_cases hlt : k < z.natAbs
        · have hlt2 : (k : Int) < z := by omega
          go_wp2_with ((at_builtin; go_loud (refine wpList_appendW rfl _ _ 26 rfl 2 Try.underlying26 infoI w.heap.size (.slice a5 l5.length c5) (.slice ah HL.length ch) (l5) (HL) rfl rfl (M.ho.kept (by (repeat (first | (with_reducible exact Below.refl _ _) | (with_reducible assumption) | (with_reducible refine below_plus' ?_ ?_; ((try simp only [plus_size, World.size_alloc, World.size_drew, World.size_setCell, size_setRow, World.heap_drewN, List.length_append]) <;> omega)) | (with_reducible refine below_alloc' ?_ ?_; ((try simp only [plus_size, World.size_alloc, World.size_drew, World.size_setCell, size_setRow, World.heap_drewN, List.length_append]) <;> omega)) | with_reducible refine Below.drew ?_ | (with_reducible refine below_drewN' ?_ _) | exact Below.refl _ _)))) ((M.hr.kept (by (repeat (first | (with_reducible exact Below.refl _ _) | (with_reducible assumption) | (with_reducible refine below_plus' ?_ ?_; ((try simp only [plus_size, World.size_alloc, World.size_drew, World.size_setCell, size_setRow, World.heap_drewN, List.length_append]) <;> omega)) | (with_reducible refine below_alloc' ?_ ?_; ((try simp only [plus_size, World.size_alloc, World.size_drew, World.size_setCell, size_setRow, World.heap_drewN, List.length_append]) <;> omega)) | with_reducible refine Below.drew ?_ | (with_reducible refine below_drewN' ?_ _) | exact Below.refl _ _))))) ((by have := HL2.out; omega)) (by have := M.bel.size; ((try simp only [plus_size, World.size_alloc, World.size_drew, World.size_setCell, size_setRow, World.heap_drewN, List.length_append]) <;> omega)) ?_; intro v' w' ho' hgr hB hwh; replace M := (M.kept (by (repeat (first | (with_reducible exact Below.refl _ _) | (with_reducible assumption) | (with_reducible refine below_plus' ?_ ?_; ((try simp only [plus_size, World.size_alloc, World.size_drew, World.size_setCell, size_setRow, World.heap_drewN, List.length_append]) <;> omega)) | (with_reducible refine below_alloc' ?_ ?_; ((try simp only [plus_size, World.size_alloc, World.size_drew, World.size_setCell, size_setRow, World.heap_drewN, List.length_append]) <;> omega)) | with_reducible refine Below.drew ?_ | (with_reducible refine below_drewN' ?_ _) | exact Below.refl _ _)))).app (by decide) ho' hgr hwh; clear ho' hgr hB hwh; obtain ⟨l6, hl6⟩ : ∃ l6, l5 ++ HL = l6 := ⟨_, rfl⟩; rw [hl6] at M; obtain ⟨a', c', rfl, hs⟩ := id M.ho.reads; clear hs; clear x0 x1 x2 lb; have x0 := cell_of (i := 0) M.box; have x1 := cell_of (i := 1) M.box; have x2 := cell_of (i := 2) M.box; have lb := heap_lt M.box; simp only [List.getElem?_toArray, List.getElem?_cons_zero, List.getElem?_cons_succ] at x0 x1 x2)))
          go_roundw
          case rel => exact ⟨k + 1, a', c', l6, Lib.hid (by rw [← hl6, HLl.out, HEq.out]; rfl), by omega, by go_num, rfl, Lib.hid M⟩
          case measure => simp [intOf]; omega
        · obtain rfl : k = z.natAbs := by omega
          have hlt2 : ¬ (z.natAbs : Int) < z := by omega
          go_wp2
          refine wp_loop_rounds 1 ?_
          rw [rounds_succ]
          go_wp2
          go_loopw [4, 8] (fun v5 sl wr => ∃ (k : Nat) (a5 : Option Addr) (c5 : Nat) (l5 : List Int), Hid (l5 = repW HZ z.natAbs ++ catK q s k) ∧ k ≤ m ∧ sl = .int .i64 k ∧ v5 = .slice a5 l5.length c5 ∧ Hid (Wst w wr 31 w.heap.size #[.int .i64 (q : Int), .int .i64 z, .slice av m cv] (.slice ah HL.length ch) HL (.slice a5 l5.length c5) l5)) (fun _ sl _ => m - (intOf sl).toNat)
          case atStart => exact ⟨0, a5, c5, l5, Lib.hid (by rw [HLl.out]; simp [catK]), by omega, rfl, rfl, Lib.hid M⟩
          case round =>
            clear x0 x1 x2 lb M HLl hl5
            obtain ⟨k, a5, c5, l5, HLl, hk, rfl, rfl, HM⟩ := hrel
            have M := HM.out
            have hl5 : l5.length ≤ 220000 := by
              have h1 := HRL.out _ (Nat.le_refl _)
              have h2 := HCL.out k hk
              have h3 := congrArg List.length HLl.out
              rw [List.length_append] at h3
              omega
            by_cases hlt : k < m
            · obtain ⟨b1, o1, rfl, hb1, mm⟩ := Hs.out (by omega)
              have hmk : ∀ c, c < 8 → wr.cell? ⟨b1, o1 + k * 8 + c, none⟩ = some (.int .u8 (s k c : Int)) := fun c hc => by rw [M.bel.cell (p := ⟨b1, o1 + k * 8 + c, none⟩) hb1]; exact mm k hlt c hc
              have hsz := M.bel.size
              have k1 : b1 < wr.heap.size := by omega
              have g0 := hmk 0 (by omega); have g1 := hmk 1 (by omega); have g2 := hmk 2 (by omega); have g3 := hmk 3 (by omega); have g4 := hmk 4 (by omega); have g5 := hmk 5 (by omega); have g6 := hmk 6 (by omega); have g7 := hmk 7 (by omega); rw [Nat.add_zero] at g0
              clear mm hmk
              obtain ⟨LW, hLW⟩ : ∃ LW, wordK q 1000 (s k) = LW := ⟨_, rfl⟩
              have hLl := wordK_length q 1000 (s k)
              have hfk := HF.out k hlt
              rw [hLW] at hLl hfk
              have HFk := Lib.hid hfk
              clear hfk
              have x0 := cell_of (i := 0) M.box; have x1 := cell_of (i := 1) M.box; have x2 := cell_of (i := 2) M.box; have lb := heap_lt M.box; simp only [List.getElem?_toArray, List.getElem?_cons_zero, List.getElem?_cons_succ] at x0 x1 x2
              go_wp2
              go_region_law (first | (refine step_appendW rfl _ _ 26 rfl 2 Try.underlying26 infoI w.heap.size (.slice a5 l5.length c5) (.slice aw LW.length cw) l5 LW rfl rfl (M.ho.kept (by (repeat (first | (with_reducible exact Below.refl _ _) | (with_reducible assumption) | (with_reducible refine below_plus' ?_ ?_; ((try simp only [plus_size, World.size_alloc, World.size_drew, World.size_setCell, size_setRow, World.heap_drewN, List.length_append]) <;> omega)) | (with_reducible refine below_alloc' ?_ ?_; ((try simp only [plus_size, World.size_alloc, World.size_drew, World.size_setCell, size_setRow, World.heap_drewN, List.length_append]) <;> omega)) | with_reducible refine Below.drew ?_ | (with_reducible refine below_drewN' ?_ _) | exact Below.refl _ _)))) (hrw.kept (by (repeat (first | (with_reducible exact Below.refl _ _) | (with_reducible assumption) | (with_reducible refine below_plus' ?_ ?_; ((try simp only [plus_size, World.size_alloc, World.size_drew, World.size_setCell, size_setRow, World.heap_drewN, List.length_append]) <;> omega)) | (with_reducible refine below_alloc' ?_ ?_; ((try simp only [plus_size, World.size_alloc, World.size_drew, World.size_setCell, size_setRow, World.heap_drewN, List.length_append]) <;> omega)) | with_reducible refine Below.drew ?_ | (with_reducible refine below_drewN' ?_ _) | exact Below.refl _ _)))) (by omega) (by have := M.bel.size; ((try simp only [plus_size, World.size_alloc, World.size_drew, World.size_setCell, size_setRow, World.heap_drewN, List.length_append]) <;> omega)) ?_; intro v' w' ho' hgr hB hwh; replace M := (M.kept (by (repeat (first | (with_reducible exact Below.refl _ _) | (with_reducible assumption) | (with_reducible refine below_plus' ?_ ?_; ((try simp only [plus_size, World.size_alloc, World.size_drew, World.size_setCell, size_setRow, World.heap_drewN, List.length_append]) <;> omega)) | (with_reducible refine below_alloc' ?_ ?_; ((try simp only [plus_size, World.size_alloc, World.size_drew, World.size_setCell, size_setRow, World.heap_drewN, List.length_append]) <;> omega)) | with_reducible refine Below.drew ?_ | (with_reducible refine below_drewN' ?_ _) | exact Below.refl _ _)))).app (by decide) ho' hgr hwh; clear ho' hgr hB hwh; obtain ⟨l6, hl6⟩ : ∃ l6, l5 ++ LW = l6 := ⟨_, rfl⟩; rw [hl6] at M; obtain ⟨a', c', rfl⟩ := reads_form' M.ho.reads) | (go_simp; (go_at_call 31; refine Calls.mono (HFk.out _) ?_; intro e w' hh; obtain ⟨vw, rfl, hB, how⟩ := ints_form hh; clear hh; have hrw := how.reads; obtain ⟨aw, cw, rfl⟩ := reads_form' hrw; clear how; obtain ⟨j, d, rfl⟩ := plus_of_below hB; clear hB); dsimp only))
              all_goals
                go_wp2
                go_roundw
                case rel => exact ⟨k + 1, a', c', l6, Lib.hid (by rw [← hl6, HLl.out, ← hLW, catK, List.append_assoc]), by omega, by go_num, rfl, Lib.hid M⟩
                case measure => simp [intOf]; omega
            · obtain rfl : k = m := by omega
              have hw : l5 = wordL q z k s := HLl.out.trans HWL.out.symm
              have HO := Lib.hid M.ho
              have HB := Lib.hid M.bel
              have x0 := cell_of (i := 0) M.box; have x1 := cell_of (i := 1) M.box; have x2 := cell_of (i := 2) M.box; have lb := heap_lt M.box; simp only [List.getElem?_toArray, List.getElem?_cons_zero, List.getElem?_cons_succ] at x0 x1 x2
              clear M HM
              go_wp2
              go_ret
              exact ⟨_, rfl, HB.out, by rw [← hw]; exact HO.out⟩
end Go.Proofs.Ytcfofdjdbojadaa
