/- Crossings beside a code, by the reference. Conditions: as each theorem says. -/
import Derived.Test.YthapkppnlomclaaX5
import Derived.Test.YthapkppnlomclaaX4
import Derived.Test.YthapkppnlomclaaVi
namespace Go.Proofs.Ythapkppnlomclaa
open Go.RowKit
set_option linter.unusedSimpArgs false
set_option linter.unusedVariables false
theorem tab_ne {E e T : TypeId} {w : World} {B b : Nat} {c : Array Value} {v : Value} {M : List (List Int)} (h : tab E e w B v M) (hb : w.heap[b]? = some (.cells c T)) (hT : T ≠ E) : v.ownBlock ≠ some b := by
  obtain ⟨vs, h1, h2, _⟩ := h
  intro e
  obtain ⟨c1, hk⟩ := row_block h2 e
  exact block_ne hT hb hk rfl
theorem tab_made_under {E e : TypeId} {w : World} {B b m : Nat} {c : Array Value} {o : Obj} (hb : b = w.heap.size) (hB : B ≤ w.heap.size) (hm : m ≤ maxLen) (hc : c.size = m) : tab E e ((w.alloc (.cells c E)).alloc o) B (.slice (some ⟨b, 0, none⟩) 0 m) [] :=
  (tab_made hb hB hm hc).kept ((Below.refl _ _).alloc (Nat.le_refl _) _)
def rowsL (m k : Nat) (f : Nat → Nat → Int) : List (List Int) := (List.range k).map fun i => (List.range m).map (f i)
theorem rowsL_length (m k f) : (rowsL m k f).length = k := by simp [rowsL]
theorem rowsL_succ (m k f) : rowsL m k f ++ [(List.range m).map (f k)] = rowsL m (k + 1) f := by simp [rowsL, List.range_succ]
theorem rowsL_all (m f) : rowsL m m f = tabL m f := rfl
theorem range_snoc (f : Nat → Int) (l : Nat) : (List.range l).map f ++ [f l] = (List.range (l + 1)).map f := by simp [List.range_succ]
set_option maxHeartbeats 4000000 in
theorem spec_CrossingsOf (n : Int) (v : Value) (xs : List Int) (w : World) (h : reads w v xs) (hlen : xs.length ≤ 1000000000) (hfit : Fits xs) : Calls Try.prog 5 #[.agg #[.int .i64 n, v]] w (RetTab2 22 2 w (crossL n xs) (if okW n xs = true then 0 else 1)) := by
  unfold crossL
  have hI := fun w' (hb : Below w.heap.size w w') => spec_Is n v xs w' (h.kept hb) hlen hfit
  cases hok : okW n xs with
  | false =>
    simp only [hok] at hI
    have HI := Lib.hid hI
    clear hI h hfit hok
    go_enter Try.func5, Try.ntmps5
    go_wp2_with (first | (go_at_call 14; refine Calls.mono (HI.out _ ?_) ?_; (repeat (first | (with_reducible exact Below.refl _ _) | (with_reducible assumption) | (with_reducible refine below_plus' ?_ ?_; ((try simp only [plus_size, World.size_alloc, World.size_drew, World.size_setCell, size_setRow, World.heap_drewN, List.length_append]) <;> omega)) | (with_reducible refine below_alloc' ?_ ?_; ((try simp only [plus_size, World.size_alloc, World.size_drew, World.size_setCell, size_setRow, World.heap_drewN, List.length_append]) <;> omega)) | with_reducible refine Below.drew ?_ | (with_reducible refine below_drewN' ?_ _) | exact Below.refl _ _)); rintro e w' ⟨rfl, hB⟩; obtain ⟨j, d, rfl⟩ := plus_of_below hB; clear hB))
    go_ret2
    exact ⟨_, rfl, by (repeat (first | (with_reducible exact Below.refl _ _) | (with_reducible assumption) | (with_reducible refine below_plus' ?_ ?_; ((try simp only [plus_size, World.size_alloc, World.size_drew, World.size_setCell, size_setRow, World.heap_drewN, List.length_append]) <;> omega)) | (with_reducible refine below_alloc' ?_ ?_; ((try simp only [plus_size, World.size_alloc, World.size_drew, World.size_setCell, size_setRow, World.heap_drewN, List.length_append]) <;> omega)) | with_reducible refine Below.drew ?_ | (with_reducible refine below_drewN' ?_ _) | exact Below.refl _ _)), tab_nil _ _ _ _⟩
  | true =>
    simp only [hok] at hI
    have HI := Lib.hid hI
    have h200 := okW_len hok
    have hlet := okW_let hok
    have hn1 := (okW_n hok).1
    have hn8 := (okW_n hok).2
    clear hI hfit hok
    obtain ⟨m, rfl⟩ : ∃ m : Nat, n = m := ⟨n.toNat, by omega⟩
    have h1 : 1 ≤ m := by omega
    have h2 : m ≤ 8 := by omega
    simp only [Int.toNat_natCast] at hlet ⊢
    simp only [if_true]
    have HX := Lib.hid (fun w' (hb : Below w.heap.size w w') => l01Crossings_any m v xs w' (h.kept hb) h1 h2 h200 hlet)
    obtain ⟨F, hF⟩ : ∃ F, crossF m xs xs.length = F := ⟨_, rfl⟩
    simp only [hF] at HX ⊢
    clear h hlet hF
    go_enter Try.func5, Try.ntmps5
    go_wp2_with (first | (go_at_call 14; refine Calls.mono (HI.out _ ?_) ?_; (repeat (first | (with_reducible exact Below.refl _ _) | (with_reducible assumption) | (with_reducible refine below_plus' ?_ ?_; ((try simp only [plus_size, World.size_alloc, World.size_drew, World.size_setCell, size_setRow, World.heap_drewN, List.length_append]) <;> omega)) | (with_reducible refine below_alloc' ?_ ?_; ((try simp only [plus_size, World.size_alloc, World.size_drew, World.size_setCell, size_setRow, World.heap_drewN, List.length_append]) <;> omega)) | with_reducible refine Below.drew ?_ | (with_reducible refine below_drewN' ?_ _) | exact Below.refl _ _)); rintro e w' ⟨rfl, hB⟩; obtain ⟨j0, d0, rfl⟩ := plus_of_below hB; clear hB)
                                        | (go_at_call 15; refine Calls.mono (HX.out _ ?_) ?_; (repeat (first | (with_reducible exact Below.refl _ _) | (with_reducible assumption) | (with_reducible refine below_plus' ?_ ?_; ((try simp only [plus_size, World.size_alloc, World.size_drew, World.size_setCell, size_setRow, World.heap_drewN, List.length_append]) <;> omega)) | (with_reducible refine below_alloc' ?_ ?_; ((try simp only [plus_size, World.size_alloc, World.size_drew, World.size_setCell, size_setRow, World.heap_drewN, List.length_append]) <;> omega)) | with_reducible refine Below.drew ?_ | (with_reducible refine below_drewN' ?_ _) | exact Below.refl _ _)); rintro e w' ⟨rfl, hB⟩; obtain ⟨j1, d1, rfl⟩ := plus_of_below hB; clear hB)
                                        | ((with_reducible apply wpList_store_arr rfl rfl 39 _ _ rfl _ rfl _ rfl 64 info39); (repeat (first | (refine heap_at _ _ _ ?_; ((try simp only [plus_size, World.size_alloc, World.size_drew, World.size_setCell, size_setRow, World.heap_drewN, List.length_append]) <;> omega)) | (refine heap_past' ?_ ?_; ((try simp only [plus_size, World.size_alloc, World.size_drew, World.size_setCell, size_setRow, World.heap_drewN, List.length_append]) <;> omega)) | (refine heap_plus' ?_ ?_; ((try simp only [plus_size, World.size_alloc, World.size_drew, World.size_setCell, size_setRow, World.heap_drewN, List.length_append]) <;> omega)) | assumption)); (simp only [arrF_size, arrO_size]); (simp only [arrF_size, arrO_size]); (first | exact arrF_one _ _ _ | exact arrO_one _ _); (repeat (first | (refine setRow_at' ?_; ((try simp only [plus_size, World.size_alloc, World.size_drew, World.size_setCell, size_setRow, World.heap_drewN, List.length_append]) <;> omega)) | (apply setRow_past'; ((try simp only [plus_size, World.size_alloc, World.size_drew, World.size_setCell, size_setRow, World.heap_drewN, List.length_append]) <;> omega)) | (apply setRow_plus'; ((try simp only [plus_size, World.size_alloc, World.size_drew, World.size_setCell, size_setRow, World.heap_drewN, List.length_append]) <;> omega)) | exact rfl))))
    go_loopw [5, 6] (fun vo sl wr => ∃ (k : Nat), k ≤ m ∧ sl = .int .i64 k ∧ tab 22 2 wr w.heap.size vo (rowsL m k F) ∧ wr.heap[(w.heap.size + 1 + j0.length + j1.length + 1)]? = some (.cells (arrF .i64 64 (flat8 F)) 39) ∧ boxed wr w.heap.size 29 m v ∧ Below w.heap.size w wr) (fun _ sl _ => m - (intOf sl).toNat)
    case atStart => exact ⟨0, by omega, rfl, tab_made_under (by ((try simp only [plus_size, World.size_alloc, World.size_drew, World.size_setCell, size_setRow, World.heap_drewN, List.length_append]) <;> omega)) (by ((try simp only [plus_size, World.size_alloc, World.size_drew, World.size_setCell, size_setRow, World.heap_drewN, List.length_append]) <;> omega)) (by decide) rfl, heap_at _ _ _ (by ((try simp only [plus_size, World.size_alloc, World.size_drew, World.size_setCell, size_setRow, World.heap_drewN, List.length_append]) <;> omega)), by unfold boxed; (repeat (first | (refine heap_at _ _ _ ?_; ((try simp only [plus_size, World.size_alloc, World.size_drew, World.size_setCell, size_setRow, World.heap_drewN, List.length_append]) <;> omega)) | (refine heap_past' ?_ ?_; ((try simp only [plus_size, World.size_alloc, World.size_drew, World.size_setCell, size_setRow, World.heap_drewN, List.length_append]) <;> omega)) | (refine heap_plus' ?_ ?_; ((try simp only [plus_size, World.size_alloc, World.size_drew, World.size_setCell, size_setRow, World.heap_drewN, List.length_append]) <;> omega)) | assumption)), by (repeat (first | (with_reducible exact Below.refl _ _) | (with_reducible assumption) | (with_reducible refine below_plus' ?_ ?_; ((try simp only [plus_size, World.size_alloc, World.size_drew, World.size_setCell, size_setRow, World.heap_drewN, List.length_append]) <;> omega)) | (with_reducible refine below_alloc' ?_ ?_; ((try simp only [plus_size, World.size_alloc, World.size_drew, World.size_setCell, size_setRow, World.heap_drewN, List.length_append]) <;> omega)) | with_reducible refine Below.drew ?_ | (with_reducible refine below_drewN' ?_ _) | exact Below.refl _ _))⟩
    case round =>
      obtain ⟨k, hk, rfl, ht, hb4, hbx, hbel⟩ := hrel
      have hbs := hbel.size
      have c0 := hbx.c0
      have l0 := hbx.lt
      by_cases hlt : k < m
      · obtain ⟨at1, ct1, rfl⟩ := ht.len
        have HL0 := Lib.hid (rowsL_length m k F)
        have ⟨w1, ew⟩ : ∃ w1, w1 = wr := ⟨wr, rfl⟩
        subst ew
        go_wp2
        go_loopw [7, 8] (fun vr sl w2 => ∃ (l : Nat), l ≤ m ∧ sl = .int .i64 l ∧ own 2 w2 w1.heap.size vr ((List.range l).map (F k)) ∧ Below w1.heap.size w1 w2) (fun _ sl _ => m - (intOf sl).toNat)
        case atStart => exact ⟨0, by omega, rfl, own_made (Nat.le_refl _) (by decide) rfl, by (repeat (first | (with_reducible exact Below.refl _ _) | (with_reducible assumption) | (with_reducible refine below_plus' ?_ ?_; ((try simp only [plus_size, World.size_alloc, World.size_drew, World.size_setCell, size_setRow, World.heap_drewN, List.length_append]) <;> omega)) | (with_reducible refine below_alloc' ?_ ?_; ((try simp only [plus_size, World.size_alloc, World.size_drew, World.size_setCell, size_setRow, World.heap_drewN, List.length_append]) <;> omega)) | with_reducible refine Below.drew ?_ | (with_reducible refine below_drewN' ?_ _) | exact Below.refl _ _))⟩
        case round =>
          obtain ⟨l, hl, rfl, hr, hb2⟩ := hrel
          have hs2 := hb2.size
          have hb4' := kept_of hb4 hb2
          have hbx' := hbx.kept hb2
          have c0' := hbx'.c0
          have l0' := hbx'.lt
          have l4 := lt_of_block hb4'
          by_cases hlt2 : l < m
          · have hk8 : k < 8 := by omega
            have hl8 : l < 8 := by omega
            have c4 := cellsF_at hb4' (o := k * 8 + l) (by omega)
            rw [flat8_at hl8] at c4
            obtain ⟨RL, hRL⟩ : ∃ RL, (List.range l).map (F k) = RL := ⟨_, rfl⟩
            have HLr := Lib.hid (show RL.length = l by rw [← hRL]; simp)
            rw [hRL] at hr
            obtain ⟨ar, cr, rfl, hs⟩ := id hr.reads
            clear hs
            go_wp2_with (first | (at_builtin; go_loud (refine wpList_appendL rfl _ _ 22 rfl 2 Try.underlying22 infoI w1.heap.size (.slice ar RL.length cr) _ RL [F k l] rfl rfl ?_ ?_ (by rw [HLr.out]; simp; omega) (by (simp only [World.size_alloc]); have := hb2.size; omega) ?_; exact own.kept hr ((Below.refl _ _).alloc (Nat.le_refl _) _); exact reads_one rfl; intro v' w' hown' hgr hB)))
            go_roundw
            case rel => exact ⟨l + 1, by omega, by go_num, by rw [← range_snoc, hRL]; exact hown', hb2.trans (Below.trans (show Below w1.heap.size wr _ by (repeat (first | (with_reducible exact Below.refl _ _) | (with_reducible assumption) | (with_reducible refine below_plus' ?_ ?_; ((try simp only [plus_size, World.size_alloc, World.size_drew, World.size_setCell, size_setRow, World.heap_drewN, List.length_append]) <;> omega)) | (with_reducible refine below_alloc' ?_ ?_; ((try simp only [plus_size, World.size_alloc, World.size_drew, World.size_setCell, size_setRow, World.heap_drewN, List.length_append]) <;> omega)) | with_reducible refine Below.drew ?_ | (with_reducible refine below_drewN' ?_ _) | exact Below.refl _ _))) hB)⟩
            case measure => simp [intOf]; omega
          · obtain rfl : m = l := by omega
            have ht2 := ht.kept hb2
            obtain ⟨RL, hRL⟩ : ∃ RL, (List.range m).map (F k) = RL := ⟨_, rfl⟩
            have HLr := Lib.hid (show RL.length = m by rw [← hRL]; simp)
            rw [hRL] at hr
            obtain ⟨gr, cr, rfl, hgB, hgl, hgc⟩ := own_some hr (by rw [HLr.out]; omega)
            clear hgc
            have hn4 := tab_ne ht2 hb4' (by decide)
            have hnx := tab_ne ht2 hbx' (by decide)
            go_wp2_with (first | (at_builtin; go_loud (refine wpList_appendT rfl _ _ 26 rfl 22 2 Try.underlying26 infoS (by decide) w.heap.size (.slice at1 (rowsL m k F).length ct1) ((rowsL m k F)) rfl _ rfl ((.slice (some ⟨gr, 0, none⟩) RL.length cr)) (RL) (by rw [World.cell?_alloc_at _ _ _ _ (by ((try simp only [plus_size, World.size_alloc, World.size_drew, World.size_setCell, size_setRow, World.heap_drewN, List.length_append]) <;> omega))]; rfl) (ht2.kept (by (repeat (first | (with_reducible exact Below.refl _ _) | (with_reducible assumption) | (with_reducible refine below_plus' ?_ ?_; ((try simp only [plus_size, World.size_alloc, World.size_drew, World.size_setCell, size_setRow, World.heap_drewN, List.length_append]) <;> omega)) | (with_reducible refine below_alloc' ?_ ?_; ((try simp only [plus_size, World.size_alloc, World.size_drew, World.size_setCell, size_setRow, World.heap_drewN, List.length_append]) <;> omega)) | with_reducible refine Below.drew ?_ | (with_reducible refine below_drewN' ?_ _) | exact Below.refl _ _)))) ((hr.mono hbs).kept (by (repeat (first | (with_reducible exact Below.refl _ _) | (with_reducible assumption) | (with_reducible refine below_plus' ?_ ?_; ((try simp only [plus_size, World.size_alloc, World.size_drew, World.size_setCell, size_setRow, World.heap_drewN, List.length_append]) <;> omega)) | (with_reducible refine below_alloc' ?_ ?_; ((try simp only [plus_size, World.size_alloc, World.size_drew, World.size_setCell, size_setRow, World.heap_drewN, List.length_append]) <;> omega)) | with_reducible refine Below.drew ?_ | (with_reducible refine below_drewN' ?_ _) | exact Below.refl _ _)))) (tab_far ht hgB (fun vs hvs => row_back (by (repeat (first | (with_reducible exact Below.refl _ _) | (with_reducible assumption) | (with_reducible refine below_plus' ?_ ?_; ((try simp only [plus_size, World.size_alloc, World.size_drew, World.size_setCell, size_setRow, World.heap_drewN, List.length_append]) <;> omega)) | (with_reducible refine below_alloc' ?_ ?_; ((try simp only [plus_size, World.size_alloc, World.size_drew, World.size_setCell, size_setRow, World.heap_drewN, List.length_append]) <;> omega)) | with_reducible refine Below.drew ?_ | (with_reducible refine below_drewN' ?_ _) | exact Below.refl _ _))) (fun k hk => (ht.lt k hk).2) hvs)) (by rw [rowsL_length]; omega) (by ((try simp only [plus_size, World.size_alloc, World.size_drew, World.size_setCell, size_setRow, World.heap_drewN, List.length_append]) <;> omega)) ?_; intro v' w' ht' hg' hB')))
            have hb5 := kept_grown hb4' hg' hn4
            have hbx5 : boxed _ _ _ _ _ := kept_grown hbx' hg' hnx
            have hB5 := (hbel.trans (hb2.mono hbs)).trans (Below.trans (show Below w.heap.size wr _ by (repeat (first | (with_reducible exact Below.refl _ _) | (with_reducible assumption) | (with_reducible refine below_plus' ?_ ?_; ((try simp only [plus_size, World.size_alloc, World.size_drew, World.size_setCell, size_setRow, World.heap_drewN, List.length_append]) <;> omega)) | (with_reducible refine below_alloc' ?_ ?_; ((try simp only [plus_size, World.size_alloc, World.size_drew, World.size_setCell, size_setRow, World.heap_drewN, List.length_append]) <;> omega)) | with_reducible refine Below.drew ?_ | (with_reducible refine below_drewN' ?_ _) | exact Below.refl _ _))) hB')
            go_roundw
            case rel => exact ⟨k + 1, by omega, by go_num, by rw [← rowsL_succ, hRL]; exact ht', hb5, hbx5, hB5⟩
            case measure => simp [intOf]; omega
      · obtain rfl : m = k := by omega
        go_wp2
        go_ret2
        exact ⟨_, rfl, hbel, ht⟩
end Go.Proofs.Ythapkppnlomclaa
