/- Burau's matrix at -1, by the reference. Conditions: as each theorem says. -/
import Derived.Test.YtnbpkbkgbpfomaaYd
import Derived.Deep.RegionWith
import Derived.BigRegion
import Derived.Deep.Cut
import Derived.Deep.CutRange
namespace Go.Proofs.Ytnbpkbkgbpfomaa
open Go.RowKit
set_option linter.unusedSimpArgs false
set_option linter.unusedVariables false
open Go.RowKit
theorem tab_ne {E e T : TypeId} {w : World} {B b : Nat} {c : Array Value} {v : Value} {M : List (List Int)} (h : tab E e w B v M) (hb : w.heap[b]? = some (.cells c T)) (hT : T ≠ E) : v.ownBlock ≠ some b := by
  obtain ⟨vs, h1, h2, _⟩ := h
  intro e
  obtain ⟨c1, hk⟩ := row_block h2 e
  exact block_ne hT hb hk rfl
theorem tab_made_under {E e : TypeId} {w : World} {B b m : Nat} {c : Array Value} {o : Obj} (hb : b = w.heap.size) (hB : B ≤ w.heap.size) (hm : m ≤ maxLen) (hc : c.size = m) : tab E e ((w.alloc (.cells c E)).alloc o) B (.slice (some ⟨b, 0, none⟩) 0 m) [] :=
  (tab_made hb hB hm hc).kept ((Below.refl _ _).alloc (Nat.le_refl _) _)
def rowsL (m k : Nat) (f : Nat → Nat → Int) : List (List Int) := (List.range k).map fun i => (List.range m).map (f i)
theorem rowsL_length (m k f) : (rowsL m k f).length = k := by simp [rowsL]
theorem rowsL_succ (m k f) : rowsL m k f ++ [(List.range m).map (f k)] = rowsL m (k + 1) f := by simp [rowsL, List.range_succ]
theorem rowsL_all (m f) : rowsL m m f = tabL m f := rfl
theorem range_snoc (f : Nat → Int) (l : Nat) : (List.range l).map f ++ [f l] = (List.range (l + 1)).map f := by simp [List.range_succ]
set_option maxRecDepth 20000 in
set_option maxHeartbeats 8000000 in
theorem spec_BurauAtMinusOne (n : Int) (v : Value) (xs : List Int) (w : World) (h : reads w v xs) (hlen : xs.length ≤ 1000000000) (hfit : Fits xs) : Calls Try.prog 5 #[.agg #[.int .i64 n, v]] w (RetTab2 22 2 w (burL n xs) (burC n xs)) := by
  unfold burL burC
  have hI := fun w' (hb : Below w.heap.size w w') => spec_Is n v xs w' (h.kept hb) hlen hfit
  cases hok : okW n xs with
  | false =>
    simp only [hok] at hI
    have HI := Lib.hid hI
    clear hI h hfit hok
    go_enter Try.func5, Try.ntmps5
    go_wp2_with (first | (go_at_call 14; refine Calls.mono (HI.out _ ?_) ?_; (repeat (first | (with_reducible exact Below.refl _ _) | (with_reducible assumption) | (with_reducible refine below_plus' ?_ ?_; ((try simp only [plus_size, World.size_alloc, World.size_drew, World.size_setCell, size_setRow, World.heap_drewN, List.length_append]) <;> omega)) | (with_reducible refine below_alloc' ?_ ?_; ((try simp only [plus_size, World.size_alloc, World.size_drew, World.size_setCell, size_setRow, World.heap_drewN, List.length_append]) <;> omega)) | with_reducible refine Below.drew ?_ | (with_reducible refine below_drewN' ?_ _) | exact Below.refl _ _)); rintro e w' ⟨rfl, hB⟩; obtain ⟨j, d, rfl⟩ := plus_of_below hB; clear hB))
    go_ret2
    exact ⟨_, rfl, by (repeat (first | (with_reducible exact Below.refl _ _) | (with_reducible assumption) | (with_reducible refine below_plus' ?_ ?_; ((try simp only [plus_size, World.size_alloc, World.size_drew, World.size_setCell, size_setRow, World.heap_drewN, List.length_append]) <;> omega)) | (with_reducible refine below_alloc' ?_ ?_; ((try simp only [plus_size, World.size_alloc, World.size_drew, World.size_setCell, size_setRow, World.heap_drewN, List.length_append]) <;> omega)) | with_reducible refine Below.drew ?_ | (with_reducible refine below_drewN' ?_ _) | exact Below.refl _ _)), tab_nil _ _ _ _⟩
  | true =>
    simp only [hok] at hI
    have HI := Lib.hid hI
    have h200 := okW_len hok
    have hn1 := (okW_n hok).1
    have hn8 := (okW_n hok).2
    have HLET := Lib.hid (fun k (hk : k < xs.length) => let_b hok hk)
    clear hI hfit hok
    obtain ⟨r, hr1⟩ : ∃ r : Nat, n - 1 = r := ⟨(n - 1).toNat, by omega⟩
    have h8 : r ≤ 8 := by omega
    simp only [if_true, show n.toNat - 1 = r by omega]
    obtain ⟨a, c, rfl, hrd⟩ := h
    have HX := Lib.hid (show ∀ k, k < xs.length → ∃ b o, a = some ⟨b, o, none⟩ ∧ b < w.heap.size ∧ w.cell? ⟨b, o + k, none⟩ = some (.int .i64 (nth xs k)) from fun k hk => by
      rcases hrd with h | ⟨b, o, rfl, m⟩
      · rw [h] at hk; cases hk
      · exact ⟨b, o, rfl, World.block_lt_of_cell? w _ (m k hk), m k hk⟩)
    clear hrd
    go_enter Try.func5, Try.ntmps5
    go_wp2_with (first | (go_at_call 14; refine Calls.mono (HI.out _ ?_) ?_; (repeat (first | (with_reducible exact Below.refl _ _) | (with_reducible assumption) | (with_reducible refine below_plus' ?_ ?_; ((try simp only [plus_size, World.size_alloc, World.size_drew, World.size_setCell, size_setRow, World.heap_drewN, List.length_append]) <;> omega)) | (with_reducible refine below_alloc' ?_ ?_; ((try simp only [plus_size, World.size_alloc, World.size_drew, World.size_setCell, size_setRow, World.heap_drewN, List.length_append]) <;> omega)) | with_reducible refine Below.drew ?_ | (with_reducible refine below_drewN' ?_ _) | exact Below.refl _ _)); rintro e w' ⟨rfl, hB⟩; obtain ⟨j0, d0, rfl⟩ := plus_of_below hB; clear hB))
    go_loopw [5, 6] (fun vo sl wr => ∃ (k : Nat), k ≤ r ∧ sl = .int .i64 k ∧ boxed wr w.heap.size 29 n (.slice a xs.length c) ∧ Below w.heap.size w wr ∧ tab 22 2 wr w.heap.size vo (rowsL r k (burF xs 0))) (fun _ sl _ => r - (intOf sl).toNat)
    case atStart => exact ⟨0, by omega, rfl, by unfold boxed; (repeat (first | (refine heap_at _ _ _ ?_; ((try simp only [plus_size, World.size_alloc, World.size_drew, World.size_setCell, size_setRow, World.heap_drewN, List.length_append]) <;> omega)) | (refine heap_past' ?_ ?_; ((try simp only [plus_size, World.size_alloc, World.size_drew, World.size_setCell, size_setRow, World.heap_drewN, List.length_append]) <;> omega)) | (refine heap_plus' ?_ ?_; ((try simp only [plus_size, World.size_alloc, World.size_drew, World.size_setCell, size_setRow, World.heap_drewN, List.length_append]) <;> omega)) | assumption)), by (repeat (first | (with_reducible exact Below.refl _ _) | (with_reducible assumption) | (with_reducible refine below_plus' ?_ ?_; ((try simp only [plus_size, World.size_alloc, World.size_drew, World.size_setCell, size_setRow, World.heap_drewN, List.length_append]) <;> omega)) | (with_reducible refine below_alloc' ?_ ?_; ((try simp only [plus_size, World.size_alloc, World.size_drew, World.size_setCell, size_setRow, World.heap_drewN, List.length_append]) <;> omega)) | with_reducible refine Below.drew ?_ | (with_reducible refine below_drewN' ?_ _) | exact Below.refl _ _)), tab_made (by ((try simp only [plus_size, World.size_alloc, World.size_drew, World.size_setCell, size_setRow, World.heap_drewN, List.length_append]) <;> omega)) (by ((try simp only [plus_size, World.size_alloc, World.size_drew, World.size_setCell, size_setRow, World.heap_drewN, List.length_append]) <;> omega)) (by decide) rfl⟩
    case round =>
      obtain ⟨k, hk, rfl, hbx, hbel, ht⟩ := hrel
      have hbs := hbel.size
      have c0 := hbx.c0
      have l0 := hbx.lt
      by_cases hlt : k < r
      · obtain ⟨at1, ct1, rfl⟩ := ht.len
        go_upto_region 10 with ((at_make; go_loud (refine wpList_make_ints _ rfl _ _ 22 rfl 2 Try.underlying22 infoI r rfl rfl (by omega) ?_); intro w1 ho1 hB1; have cc := ho1.cell (i := k) (by rw [List.length_replicate]; exact hlt); have ff := ho1.free k; have hl1 := (ho1.lt _ rfl).2))
        refine wp_gen (fun X => own 2 X wr.heap.size (.slice (some ⟨wr.heap.size, 0, none⟩) r r) ((List.range r).map (burF xs 0 k)) ∧ Below wr.heap.size wr X) ⟨by rw [← unit_row]; exact ho1.set k 1, hB1.trans (below_of_grown (grownBy_setCell w1 wr.heap.size k _) hB1.size (at_le (Nat.le_refl _)))⟩ fun X hX => ?_
        obtain ⟨hoX, hBX⟩ := hX
        have hsX := hBX.size
        have htX := ht.kept hBX
        obtain ⟨RL, hRL⟩ : ∃ RL, (List.range r).map (burF xs 0 k) = RL := ⟨_, rfl⟩
        rw [hRL] at hoX
        have hbx' := hbx.kept hBX
        have hnx := tab_ne htX hbx' (by decide)
        go_wp2_with (first | (at_builtin; go_loud (refine wpList_appendT rfl _ _ 26 rfl 22 2 Try.underlying26 infoS (by decide) w.heap.size (.slice at1 (rowsL r k (burF xs 0)).length ct1) ((rowsL r k (burF xs 0))) rfl _ rfl ((.slice (some ⟨wr.heap.size, 0, none⟩) r r)) (RL) (by rw [World.cell?_alloc_at _ _ _ _ (by ((try simp only [plus_size, World.size_alloc, World.size_drew, World.size_setCell, size_setRow, World.heap_drewN, List.length_append]) <;> omega))]; rfl) (htX.kept (by (repeat (first | (with_reducible exact Below.refl _ _) | (with_reducible assumption) | (with_reducible refine below_plus' ?_ ?_; ((try simp only [plus_size, World.size_alloc, World.size_drew, World.size_setCell, size_setRow, World.heap_drewN, List.length_append]) <;> omega)) | (with_reducible refine below_alloc' ?_ ?_; ((try simp only [plus_size, World.size_alloc, World.size_drew, World.size_setCell, size_setRow, World.heap_drewN, List.length_append]) <;> omega)) | with_reducible refine Below.drew ?_ | (with_reducible refine below_drewN' ?_ _) | exact Below.refl _ _)))) ((hoX.mono hbs).kept (by (repeat (first | (with_reducible exact Below.refl _ _) | (with_reducible assumption) | (with_reducible refine below_plus' ?_ ?_; ((try simp only [plus_size, World.size_alloc, World.size_drew, World.size_setCell, size_setRow, World.heap_drewN, List.length_append]) <;> omega)) | (with_reducible refine below_alloc' ?_ ?_; ((try simp only [plus_size, World.size_alloc, World.size_drew, World.size_setCell, size_setRow, World.heap_drewN, List.length_append]) <;> omega)) | with_reducible refine Below.drew ?_ | (with_reducible refine below_drewN' ?_ _) | exact Below.refl _ _)))) (tab_far ht (Nat.le_refl _) (fun vs hvs => row_back (by (repeat (first | (with_reducible exact Below.refl _ _) | (with_reducible assumption) | (with_reducible refine below_plus' ?_ ?_; ((try simp only [plus_size, World.size_alloc, World.size_drew, World.size_setCell, size_setRow, World.heap_drewN, List.length_append]) <;> omega)) | (with_reducible refine below_alloc' ?_ ?_; ((try simp only [plus_size, World.size_alloc, World.size_drew, World.size_setCell, size_setRow, World.heap_drewN, List.length_append]) <;> omega)) | with_reducible refine Below.drew ?_ | (with_reducible refine below_drewN' ?_ _) | exact Below.refl _ _))) (fun k hk => (ht.lt k hk).2) hvs)) (by rw [rowsL_length]; omega) (by ((try simp only [plus_size, World.size_alloc, World.size_drew, World.size_setCell, size_setRow, World.heap_drewN, List.length_append]) <;> omega)) ?_; intro v' w' ht' hg' hB')))
        have hbx5 := (hbx'.kept (show Below X.heap.size X _ by (repeat (first | (with_reducible exact Below.refl _ _) | (with_reducible assumption) | (with_reducible refine below_plus' ?_ ?_; ((try simp only [plus_size, World.size_alloc, World.size_drew, World.size_setCell, size_setRow, World.heap_drewN, List.length_append]) <;> omega)) | (with_reducible refine below_alloc' ?_ ?_; ((try simp only [plus_size, World.size_alloc, World.size_drew, World.size_setCell, size_setRow, World.heap_drewN, List.length_append]) <;> omega)) | with_reducible refine Below.drew ?_ | (with_reducible refine below_drewN' ?_ _) | exact Below.refl _ _)))).grown hg' hnx
        go_roundw
        case rel => exact ⟨k + 1, by omega, by go_num, hbx5, (hbel.trans (hBX.mono hbs)).trans (Below.trans (show Below w.heap.size X _ by (repeat (first | (with_reducible exact Below.refl _ _) | (with_reducible assumption) | (with_reducible refine below_plus' ?_ ?_; ((try simp only [plus_size, World.size_alloc, World.size_drew, World.size_setCell, size_setRow, World.heap_drewN, List.length_append]) <;> omega)) | (with_reducible refine below_alloc' ?_ ?_; ((try simp only [plus_size, World.size_alloc, World.size_drew, World.size_setCell, size_setRow, World.heap_drewN, List.length_append]) <;> omega)) | with_reducible refine Below.drew ?_ | (with_reducible refine below_drewN' ?_ _) | exact Below.refl _ _))) hB'), by rw [← rowsL_succ, hRL]; exact ht'⟩
        case measure => simp [intOf]; omega
      · obtain rfl : r = k := by omega
        go_wp2
        go_loopw [5, 8] (fun vo sl wr => ∃ (k : Nat), k ≤ xs.length ∧ sl = .int .i64 k ∧ boxed wr w.heap.size 29 n (.slice a xs.length c) ∧ Below w.heap.size w wr ∧ goodB r xs k = true ∧ tab 22 2 wr w.heap.size vo (tabL r (burF xs k))) (fun _ sl _ => xs.length - (intOf sl).toNat)
        case atStart => exact ⟨0, by omega, rfl, hbx, hbel, rfl, ht⟩
        case round =>
          clear hbx hbel ht hbs c0 l0 hlt hk
          obtain ⟨k, hk, rfl, hbx, hbel, hgd, ht⟩ := hrel
          obtain ⟨wB, ew⟩ : ∃ wB, wB = wr := ⟨wr, rfl⟩
          subst ew
          have hbs := hbel.size
          have c0 := hbx.c0
          have c1 := hbx.c1
          have l0 := hbx.lt
          by_cases hlt : k < xs.length
          · obtain ⟨b, o, rfl, hbl, g1⟩ := HX.out k hlt
            replace g1 := (hbel.cell (p := ⟨b, o + k, none⟩) hbl).trans g1
            have hbl2 : b < wB.heap.size := by omega
            obtain ⟨hz0, hza, hzb⟩ := HLET.out k hlt
            have hBad := fun i j (hi : i < r) (hj : j < r) (hb : inB (burF xs (k + 1) i j) (-1000000000000) 1000000000000 = false) => goodB_bad (okF_no hi hj hb) hlt
            have HO := Lib.hid (fun i t (hi : i < r) (ht : t < r) => okF_at (goodB_ok hgd) hi ht)
            obtain ⟨F1, hF2⟩ : ∃ F1, burF xs (k + 1) = F1 := ⟨_, rfl⟩
            rw [hF2] at hBad
            have HBAD := Lib.hid hBad
            clear hBad
            have hF1 : stepF (burF xs k) ((nth xs k).natAbs - 1) (sgn (nth xs k)) = F1 := hF2
            generalize nth xs k = z at *
            generalize burF xs k = F at *
            have hzr : z.natAbs ≤ r := by omega
            have HS := Lib.hid (fun w' => by have t := l05Small_any r z w' h8 hz0 hzr; rw [show (r : Int) + 1 = n by omega] at t; exact t)
            obtain ⟨at1, ct1, rfl⟩ := ht.len
            rw [show (tabL r F).length = r from tabL_length r F] at ht ⊢
            have HT := Lib.hid ht
            clear ht
            go_upto_region 14 with (fail)
            go_cut [9, 10] from 37 to 98 (fun s9 s10 wx => ∃ (aS : Option Addr) (cS b10 : Nat), s9 = .slice aS r cS ∧ s10 = .slice (some ⟨b10, 0, none⟩) 0 0 ∧ Below wB.heap.size wB wx ∧ tabG 43 42 (Co 2) wx wB.heap.size (.slice aS r cS) (plT r r (smallP z)) ∧ tab 22 2 wx wB.heap.size (.slice (some ⟨b10, 0, none⟩) 0 0) [])
            case first =>
              go_region_with ((go_at_call 15; refine Calls.mono (HS.out _) ?_; rintro e w' ⟨vS, rfl, hB, hS⟩; obtain ⟨j, d, rfl⟩ := plus_of_below hB; clear hB))
              all_goals
                go_wp2_with fail
                go_meet
                case rel =>
                  have hl := plT_length r r (smallP z)
                  obtain ⟨aS, cS, rfl⟩ := hS.len
                  rw [hl] at hS ⊢
                  refine ⟨aS, cS, _, rfl, rfl, ?_, ?_, ?_⟩
                  · (repeat (first | (with_reducible exact Below.refl _ _) | (with_reducible assumption) | (with_reducible refine below_plus' ?_ ?_; ((try simp only [plus_size, World.size_alloc, World.size_drew, World.size_setCell, size_setRow, World.heap_drewN, List.length_append]) <;> omega)) | (with_reducible refine below_alloc' ?_ ?_; ((try simp only [plus_size, World.size_alloc, World.size_drew, World.size_setCell, size_setRow, World.heap_drewN, List.length_append]) <;> omega)) | with_reducible refine Below.drew ?_ | (with_reducible refine below_drewN' ?_ _) | exact Below.refl _ _))
                  · refine (hS.mono (B' := wB.heap.size) ?_ (fun x xs h => h)).keep ?_
                    · ((try simp only [plus_size, World.size_alloc, World.size_drew, World.size_setCell, size_setRow, World.heap_drewN, List.length_append]) <;> omega)
                    · (repeat (first | (with_reducible exact Below.refl _ _) | (with_reducible assumption) | (with_reducible refine below_plus' ?_ ?_; ((try simp only [plus_size, World.size_alloc, World.size_drew, World.size_setCell, size_setRow, World.heap_drewN, List.length_append]) <;> omega)) | (with_reducible refine below_alloc' ?_ ?_; ((try simp only [plus_size, World.size_alloc, World.size_drew, World.size_setCell, size_setRow, World.heap_drewN, List.length_append]) <;> omega)) | with_reducible refine Below.drew ?_ | (with_reducible refine below_drewN' ?_ _) | exact Below.refl _ _))
                  · first | (exact tab_made (c := #[]) (by ((try simp only [plus_size, World.size_alloc, World.size_drew, World.size_setCell, size_setRow, World.heap_drewN, List.length_append]) <;> omega)) (by ((try simp only [plus_size, World.size_alloc, World.size_drew, World.size_setCell, size_setRow, World.heap_drewN, List.length_append]) <;> omega)) (by decide) rfl) | (refine (tab_made (c := #[]) rfl (Nat.le_refl _) (by decide) rfl).kept ?_; (repeat (first | (with_reducible exact Below.refl _ _) | (with_reducible assumption) | (with_reducible refine below_plus' ?_ ?_; ((try simp only [plus_size, World.size_alloc, World.size_drew, World.size_setCell, size_setRow, World.heap_drewN, List.length_append]) <;> omega)) | (with_reducible refine below_alloc' ?_ ?_; ((try simp only [plus_size, World.size_alloc, World.size_drew, World.size_setCell, size_setRow, World.heap_drewN, List.length_append]) <;> omega)) | with_reducible refine Below.drew ?_ | (with_reducible refine below_drewN' ?_ _) | exact Below.refl _ _)))
            case rest =>
              obtain ⟨aS, cS, b10, rfl, rfl, hX⟩ := hcut
              have ht := HT.out
              go_wp2
              go_loopw [10, 11] (fun vn sl w2 => ∃ (i : Nat), i ≤ r ∧ sl = .int .i64 i ∧ Below wB.heap.size wB w2 ∧ tabG 43 42 (Co 2) w2 wB.heap.size (.slice aS r cS) (plT r r (smallP z)) ∧ tab 22 2 w2 wB.heap.size vn (rowsL r i F1) ∧ Hid (∀ i', i' < i → ∀ j, j < r → inB (F1 i' j) (-1000000000000) 1000000000000 = true)) (fun _ sl _ => r - (intOf sl).toNat)
              case atStart => exact ⟨0, by omega, rfl, hX.1, hX.2.1, hX.2.2, Lib.hid (fun j hj => by omega)⟩
              case round =>
                clear hX
                obtain ⟨i, hi, rfl, hbr, hS2, htn, HI2⟩ := hrel
                obtain ⟨w2, ew⟩ : ∃ w2, w2 = wr := ⟨wr, rfl⟩
                subst ew
                have hs2 := hbr.size
                by_cases hlt2 : i < r
                · obtain ⟨an, cn, rfl⟩ := htn.len
                  go_wp2
                  go_loopw [12, 13] (fun vr sl w3 => ∃ (l : Nat), l ≤ r ∧ sl = .int .i64 l ∧ own 2 w3 w2.heap.size vr ((List.range l).map (F1 i)) ∧ Below w2.heap.size w2 w3 ∧ Hid (∀ j, j < l → inB (F1 i j) (-1000000000000) 1000000000000 = true)) (fun _ sl _ => r - (intOf sl).toNat)
                  case atStart => exact ⟨0, by omega, rfl, own_made (Nat.le_refl _) (by decide) rfl, by (repeat (first | (with_reducible exact Below.refl _ _) | (with_reducible assumption) | (with_reducible refine below_plus' ?_ ?_; ((try simp only [plus_size, World.size_alloc, World.size_drew, World.size_setCell, size_setRow, World.heap_drewN, List.length_append]) <;> omega)) | (with_reducible refine below_alloc' ?_ ?_; ((try simp only [plus_size, World.size_alloc, World.size_drew, World.size_setCell, size_setRow, World.heap_drewN, List.length_append]) <;> omega)) | with_reducible refine Below.drew ?_ | (with_reducible refine below_drewN' ?_ _) | exact Below.refl _ _)), Lib.hid (fun j hj => by omega)⟩
                  case round =>
                    obtain ⟨l, hl, rfl, hr, hb3, HI3⟩ := hrel
                    obtain ⟨w3, ew⟩ : ∃ w3, w3 = wr := ⟨wr, rfl⟩
                    subst ew
                    have hs3 := hb3.size
                    by_cases hlt3 : l < r
                    · go_wp2
                      go_loopw [14, 15] (fun ss st w4 => ∃ (t : Nat), t ≤ r ∧ st = .int .i64 t ∧ ss = .int .i64 (psF F z i l t) ∧ Below w3.heap.size w3 w4) (fun _ st _ => r - (intOf st).toNat)
                      case atStart => exact ⟨0, by omega, rfl, rfl, by (repeat (first | (with_reducible exact Below.refl _ _) | (with_reducible assumption) | (with_reducible refine below_plus' ?_ ?_; ((try simp only [plus_size, World.size_alloc, World.size_drew, World.size_setCell, size_setRow, World.heap_drewN, List.length_append]) <;> omega)) | (with_reducible refine below_alloc' ?_ ?_; ((try simp only [plus_size, World.size_alloc, World.size_drew, World.size_setCell, size_setRow, World.heap_drewN, List.length_append]) <;> omega)) | with_reducible refine Below.drew ?_ | (with_reducible refine below_drewN' ?_ _) | exact Below.refl _ _))⟩
                      case round =>
                        obtain ⟨t, ht0, rfl, rfl, hb4⟩ := hrel
                        obtain ⟨w4, ew⟩ : ∃ w4, w4 = wr := ⟨wr, rfl⟩
                        subst ew
                        have hs4' := hb4.size
                        have hb24 := hb3.trans (hb4.mono hb3.size)
                        have hbr4 := hbr.trans (hb24.mono hbr.size)
                        by_cases hlt4 : t < r
                        · have ht4 := ht.kept (show Below wB.heap.size wB w4 by (repeat (first | (with_reducible exact Below.refl _ _) | (with_reducible assumption) | (with_reducible refine below_plus' ?_ ?_; ((try simp only [plus_size, World.size_alloc, World.size_drew, World.size_setCell, size_setRow, World.heap_drewN, List.length_append]) <;> omega)) | (with_reducible refine below_alloc' ?_ ?_; ((try simp only [plus_size, World.size_alloc, World.size_drew, World.size_setCell, size_setRow, World.heap_drewN, List.length_append]) <;> omega)) | with_reducible refine Below.drew ?_ | (with_reducible refine below_drewN' ?_ _) | exact Below.refl _ _)))
                          obtain ⟨g1, c1', rv1, hv1, hg1, hc1, ho1⟩ := ht4.row (i := i) (by rw [tabL_length]; exact hlt2)
                          rw [tabL_length] at hv1
                          cases hv1
                          obtain ⟨k1, cx1, rfl, hkB1, hkl1, _⟩ := own_some ho1 (by rw [rowOf_len hlt2]; omega)
                          have d1 := ho1.cell (i := t) (by rw [rowOf_len hlt2]; exact hlt4)
                          rw [nth_row hlt2 hlt4] at d1
                          rw [rowOf_len hlt2] at hc1
                          have hS4 := hS2.keep (show Below w2.heap.size w2 w4 by (repeat (first | (with_reducible exact Below.refl _ _) | (with_reducible assumption) | (with_reducible refine below_plus' ?_ ?_; ((try simp only [plus_size, World.size_alloc, World.size_drew, World.size_setCell, size_setRow, World.heap_drewN, List.length_append]) <;> omega)) | (with_reducible refine below_alloc' ?_ ?_; ((try simp only [plus_size, World.size_alloc, World.size_drew, World.size_setCell, size_setRow, World.heap_drewN, List.length_append]) <;> omega)) | with_reducible refine Below.drew ?_ | (with_reducible refine below_drewN' ?_ _) | exact Below.refl _ _)))
                          obtain ⟨g2, c2', rv2, hv2, _, hg2, hc2, hrow2, _⟩ := hS4.wrote (by decide) (i := t) (by rw [plT_length]; exact hlt4)
                          rw [plT_length] at hv2
                          cases hv2
                          rw [prow_plT hlt4] at hrow2
                          obtain ⟨k2, ck2, sv, rfl, _, hk2l, e1, e2, hcs⟩ := hrow2.at (i := l) (by rw [plL_length]; exact hlt3)
                          rw [plL_length] at hc2
                          rw [pAt_plL hlt3] at e1 hcs
                          obtain ⟨asv, csv, rfl⟩ := readsL_form (own.reads hcs)
                          have hsf := small_facts z t l
                          have HV := Lib.hid (fun w' (hb : Below w4.heap.size w4 w') => l05Value_any (smallP z t l).1 _ (smallP z t l).2 (-1) w' ((own.reads hcs).kept hb) hsf.1 hsf.2.1 hsf.2.2.1 hsf.2.2.2 (.inr rfl))
                          have hpr := prod_le (F := F) (i := i) (k := t) (j := l) hz0 (HO.out i t hlt2 hlt4)
                          have hps := psF_le (F := F) (i := i) (j := l) (r := r) hz0 (fun t ht => HO.out i t hlt2 ht) t (by omega)
                          have HPS := Lib.hid (show psF F z i l t + F i t * bvE z t l = psF F z i l (t + 1) from rfl)
                          simp only [bvE] at hpr HPS
                          generalize (smallP z t l).2 = q2 at *
                          generalize (smallP z t l).1 = q1 at *
                          generalize sumV q1 (-1) q2 q2.length = U at *
                          generalize psF F z i l t = Y at *
                          obtain ⟨y, hy⟩ : ∃ y, F i t = y := ⟨_, rfl⟩
                          rw [hy] at d1 hpr HPS
                          obtain ⟨hpr1, hpr2⟩ := hpr
                          obtain ⟨hps1, hps2⟩ := hps
                          clear hcs hrow2 hS4 ht4 ho1 hsf
                          go_upto_region 26 with (fail)
                          refine region_plus (by kernel_rfl) (by kernel_rfl) ?_
                          repeat (go_big_quiet_step (first | (go_at_call 16; exact calls_plus (HV.out _ (by rw [plusq_eq]; (repeat (first | (with_reducible exact Below.refl _ _) | (with_reducible assumption) | (with_reducible refine below_plus' ?_ ?_; ((try simp only [plus_size, World.size_alloc, World.size_drew, World.size_setCell, size_setRow, World.heap_drewN, List.length_append]) <;> omega)) | (with_reducible refine below_alloc' ?_ ?_; ((try simp only [plus_size, World.size_alloc, World.size_drew, World.size_setCell, size_setRow, World.heap_drewN, List.length_append]) <;> omega)) | with_reducible refine Below.drew ?_ | (with_reducible refine below_drewN' ?_ _) | exact Below.refl _ _)))))))
                          refine wpQuiet_nil ?_
                          intro _ hw'
                          obtain ⟨q, hw''⟩ := hw'
                          subst hw''
                          rw [plusq_eq]
                          generalize q.j = j
                          generalize q.d = d
                          clear q
                          go_wp2
                          go_roundw
                          case rel => exact ⟨t + 1, by omega, by go_num, by rw [← HPS.out], by (repeat (first | (with_reducible exact Below.refl _ _) | (with_reducible assumption) | (with_reducible refine below_plus' ?_ ?_; ((try simp only [plus_size, World.size_alloc, World.size_drew, World.size_setCell, size_setRow, World.heap_drewN, List.length_append]) <;> omega)) | (with_reducible refine below_alloc' ?_ ?_; ((try simp only [plus_size, World.size_alloc, World.size_drew, World.size_setCell, size_setRow, World.heap_drewN, List.length_append]) <;> omega)) | with_reducible refine Below.drew ?_ | (with_reducible refine below_drewN' ?_ _) | exact Below.refl _ _))⟩
                          case measure => simp [intOf]; omega
                        · obtain rfl : r = t := by omega
                          rw [psF_all hz0 hzr hlt3, hF1] 
                          cases hin : inB (F1 i l) (-1000000000000) 1000000000000 with
                          | false =>
                            have hgl := HBAD.out i l hlt2 hlt3 hin
                            go_wp2_with (first | (go_at_call 17; refine (l01In_any _ _ _ _).mono ?_; rw [hin]; rintro e w' ⟨rfl, rfl⟩))
                            go_ret2
                            rw [show burD r xs = 3 by simp [burD, hgl], show burM r xs = [] by simp [burM, hgl]]
                            exact ⟨_, rfl, hbel.trans (hbr4.mono hbs), tab_nil _ _ _ _⟩
                          | true =>
                            have hin2 := inB_true hin
                            obtain ⟨RL, hRL⟩ : ∃ RL, (List.range l).map (F1 i) = RL := ⟨_, rfl⟩
                            have HLr := Lib.hid (show RL.length = l by rw [← hRL]; simp)
                            rw [hRL] at hr
                            obtain ⟨ar, cr, rfl⟩ := readsL_form hr.reads
                            have hr4 := hr.kept hb4
                            have hs4 := hb4.size
                            go_wp2_with (first | (go_at_call 17; refine (l01In_any _ _ _ _).mono ?_; rw [hin]; rintro e w' ⟨rfl, rfl⟩) | (at_builtin; go_loud (refine wpList_appendL rfl _ _ 22 rfl 2 Try.underlying22 infoI w2.heap.size (.slice ar RL.length cr) _ RL [F1 i l] rfl rfl ?_ ?_ (by rw [HLr.out]; simp; omega) (by (simp only [World.size_alloc]); omega) ?_; exact own.kept hr4 ((Below.refl _ _).alloc (Nat.le_refl _) _); exact reads_one1 rfl; intro v' w' hown' hgr hB)))
                            go_roundw
                            case rel => exact ⟨l + 1, by omega, by go_num, by rw [← range_snoc, hRL]; exact hown', Below.trans (show Below w2.heap.size w2 _ by (repeat (first | (with_reducible exact Below.refl _ _) | (with_reducible assumption) | (with_reducible refine below_plus' ?_ ?_; ((try simp only [plus_size, World.size_alloc, World.size_drew, World.size_setCell, size_setRow, World.heap_drewN, List.length_append]) <;> omega)) | (with_reducible refine below_alloc' ?_ ?_; ((try simp only [plus_size, World.size_alloc, World.size_drew, World.size_setCell, size_setRow, World.heap_drewN, List.length_append]) <;> omega)) | with_reducible refine Below.drew ?_ | (with_reducible refine below_drewN' ?_ _) | exact Below.refl _ _))) hB, Lib.hid (fun j hj => by by_cases e : j = l; (· subst e; exact hin); (· exact HI3.out j (by omega)))⟩
                            case measure => simp [intOf]; omega
                    · obtain rfl : r = l := by omega
                      have htn3 := htn.kept hb3
                      obtain ⟨RL, hRL⟩ : ∃ RL, (List.range r).map (F1 i) = RL := ⟨_, rfl⟩
                      have HLr := Lib.hid (show RL.length = r by rw [← hRL]; simp)
                      rw [hRL] at hr
                      obtain ⟨gr, cr, rfl, hgB, hgl, hgc⟩ := own_some hr (by rw [HLr.out]; omega)
                      clear hgc
                      have hS3 := hS2.keep hb3
                      go_wp2_with (first | (at_builtin; go_loud (refine wpList_appendT rfl _ _ 26 rfl 22 2 Try.underlying26 infoS (by decide) wB.heap.size (.slice an (rowsL r i F1).length cn) ((rowsL r i F1)) rfl _ rfl ((.slice (some ⟨gr, 0, none⟩) RL.length cr)) (RL) (by rw [World.cell?_alloc_at _ _ _ _ (by ((try simp only [plus_size, World.size_alloc, World.size_drew, World.size_setCell, size_setRow, World.heap_drewN, List.length_append]) <;> omega))]; rfl) (htn3.kept (by (repeat (first | (with_reducible exact Below.refl _ _) | (with_reducible assumption) | (with_reducible refine below_plus' ?_ ?_; ((try simp only [plus_size, World.size_alloc, World.size_drew, World.size_setCell, size_setRow, World.heap_drewN, List.length_append]) <;> omega)) | (with_reducible refine below_alloc' ?_ ?_; ((try simp only [plus_size, World.size_alloc, World.size_drew, World.size_setCell, size_setRow, World.heap_drewN, List.length_append]) <;> omega)) | with_reducible refine Below.drew ?_ | (with_reducible refine below_drewN' ?_ _) | exact Below.refl _ _)))) ((hr.mono hs2).kept (by (repeat (first | (with_reducible exact Below.refl _ _) | (with_reducible assumption) | (with_reducible refine below_plus' ?_ ?_; ((try simp only [plus_size, World.size_alloc, World.size_drew, World.size_setCell, size_setRow, World.heap_drewN, List.length_append]) <;> omega)) | (with_reducible refine below_alloc' ?_ ?_; ((try simp only [plus_size, World.size_alloc, World.size_drew, World.size_setCell, size_setRow, World.heap_drewN, List.length_append]) <;> omega)) | with_reducible refine Below.drew ?_ | (with_reducible refine below_drewN' ?_ _) | exact Below.refl _ _)))) (tab_far htn hgB (fun vs hvs => row_back (by (repeat (first | (with_reducible exact Below.refl _ _) | (with_reducible assumption) | (with_reducible refine below_plus' ?_ ?_; ((try simp only [plus_size, World.size_alloc, World.size_drew, World.size_setCell, size_setRow, World.heap_drewN, List.length_append]) <;> omega)) | (with_reducible refine below_alloc' ?_ ?_; ((try simp only [plus_size, World.size_alloc, World.size_drew, World.size_setCell, size_setRow, World.heap_drewN, List.length_append]) <;> omega)) | with_reducible refine Below.drew ?_ | (with_reducible refine below_drewN' ?_ _) | exact Below.refl _ _))) (fun k hk => (htn.lt k hk).2) hvs)) (by rw [rowsL_length]; omega) (by ((try simp only [plus_size, World.size_alloc, World.size_drew, World.size_setCell, size_setRow, World.heap_drewN, List.length_append]) <;> omega)) ?_; intro v' w' ht' hg' hB')))
                      have hB5 := (hbr.trans (hb3.mono hs2)).trans (Below.trans (show Below wB.heap.size w3 _ by (repeat (first | (with_reducible exact Below.refl _ _) | (with_reducible assumption) | (with_reducible refine below_plus' ?_ ?_; ((try simp only [plus_size, World.size_alloc, World.size_drew, World.size_setCell, size_setRow, World.heap_drewN, List.length_append]) <;> omega)) | (with_reducible refine below_alloc' ?_ ?_; ((try simp only [plus_size, World.size_alloc, World.size_drew, World.size_setCell, size_setRow, World.heap_drewN, List.length_append]) <;> omega)) | with_reducible refine Below.drew ?_ | (with_reducible refine below_drewN' ?_ _) | exact Below.refl _ _))) hB')
                      have hS5 := (hS3.keep (show Below w3.heap.size w3 _ by (repeat (first | (with_reducible exact Below.refl _ _) | (with_reducible assumption) | (with_reducible refine below_plus' ?_ ?_; ((try simp only [plus_size, World.size_alloc, World.size_drew, World.size_setCell, size_setRow, World.heap_drewN, List.length_append]) <;> omega)) | (with_reducible refine below_alloc' ?_ ?_; ((try simp only [plus_size, World.size_alloc, World.size_drew, World.size_setCell, size_setRow, World.heap_drewN, List.length_append]) <;> omega)) | with_reducible refine Below.drew ?_ | (with_reducible refine below_drewN' ?_ _) | exact Below.refl _ _)))).beside (htn3.kept (by (repeat (first | (with_reducible exact Below.refl _ _) | (with_reducible assumption) | (with_reducible refine below_plus' ?_ ?_; ((try simp only [plus_size, World.size_alloc, World.size_drew, World.size_setCell, size_setRow, World.heap_drewN, List.length_append]) <;> omega)) | (with_reducible refine below_alloc' ?_ ?_; ((try simp only [plus_size, World.size_alloc, World.size_drew, World.size_setCell, size_setRow, World.heap_drewN, List.length_append]) <;> omega)) | with_reducible refine Below.drew ?_ | (with_reducible refine below_drewN' ?_ _) | exact Below.refl _ _)))) (by decide) (by decide) (by decide) hg'
                      go_roundw
                      case rel => exact ⟨i + 1, by omega, by go_num, hB5, hS5, by rw [← rowsL_succ, hRL]; exact ht', Lib.hid (fun i' hi' => by by_cases e : i' = i; (· subst e; exact HI3.out); (· exact HI2.out i' (by omega)))⟩
                      case measure => simp [intOf]; omega
                · obtain rfl : r = i := by omega
                  go_wp2
                  go_roundw
                  case rel =>
                    exact ⟨k + 1, by omega, by go_num, hbx.kept hbr, hbel.trans (hbr.mono hbs), goodB_succ hgd (by rw [hF2]; exact okF_yes HI2.out), by rw [hF2]; exact htn.mono hbs⟩
                  case measure => simp [intOf]; omega
          · obtain rfl : xs.length = k := by omega
            go_wp2
            go_ret2
            rw [show burD r xs = 0 by simp [burD, hgd], show burM r xs = tabL r (burF xs xs.length) by simp [burM, hgd]]
            exact ⟨_, rfl, hbel, ht⟩
end Go.Proofs.Ytnbpkbkgbpfomaa
