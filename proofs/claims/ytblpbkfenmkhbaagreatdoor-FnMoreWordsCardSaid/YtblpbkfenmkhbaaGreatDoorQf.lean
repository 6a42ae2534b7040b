/- Texts drawn over a code. Conditions: as each theorem says. -/
import Derived.Test.YtblpbkfenmkhbaaGreatDoorQd
import Derived.Test.YtblpbkfenmkhbaaGreatDoorQe
import Derived.Test.YtblpbkfenmkhbaaGreatDoorDc
import Derived.Deep.LoopGhost
namespace Go.Proofs.YtblpbkfenmkhbaaGreatDoor
open Go.RowKit
set_option linter.unusedSimpArgs false
set_option linter.unusedVariables false
open Go.RowKit
set_option maxRecDepth 20000 in
set_option maxHeartbeats 2000000 in
theorem drawParse_any (vc : Value) (m : Nat) (w : World) (hC : readsC w vc m) (hm : m ≤ 1000000000) : Calls Tryz.prog 18 #[vc] w fun e w' => ∃ s : ByteArray, e = .returned (.string s) ∧ s.size ≤ 4000000000 ∧ Below w.heap.size w w' := by
  have HC := Lib.hid hC
  clear hC
  go_enter Tryz.func18, Tryz.ntmps18
  go_upto_region 3 with (first | (go_at_call 48; refine Calls.mono (dbraid_8 w _ g vc m HC.out hm (S.kept (by (repeat (first | (with_reducible exact Below.refl _ _) | (with_reducible assumption) | (with_reducible refine below_plus' ?_ ?_; ((try simp only [plus_size, World.size_alloc, World.size_drew, World.size_setCell, size_setRow, World.heap_drewN, List.length_append]) <;> omega)) | (with_reducible refine below_alloc' ?_ ?_; ((try simp only [plus_size, World.size_alloc, World.size_drew, World.size_setCell, size_setRow, World.heap_drewN, List.length_append]) <;> omega)) | with_reducible refine Below.drew ?_ | (with_reducible refine below_drewN' ?_ _) | exact Below.refl _ _))))) ?_; rintro e w1 ⟨n0, v, xs, rfl, ho, hlen, hx, hn0, S1, hg⟩; obtain ⟨a, c, rfl, hs⟩ := id ho.reads; clear hs; replace S := S1; clear S1; replace G := grownBy_trans (grown_below G (by (repeat (first | (with_reducible exact Below.refl _ _) | (with_reducible assumption) | (with_reducible refine below_plus' ?_ ?_; ((try simp only [plus_size, World.size_alloc, World.size_drew, World.size_setCell, size_setRow, World.heap_drewN, List.length_append]) <;> omega)) | (with_reducible refine below_alloc' ?_ ?_; ((try simp only [plus_size, World.size_alloc, World.size_drew, World.size_setCell, size_setRow, World.heap_drewN, List.length_append]) <;> omega)) | with_reducible refine Below.drew ?_ | (with_reducible refine below_drewN' ?_ _) | exact Below.refl _ _)))) hg; have L := S.lt)
                                        | (go_at_call 29; refine Calls.mono (from_any vc m _ (HC.out.kept (by (repeat (first | (with_reducible exact Below.refl _ _) | (with_reducible assumption) | (with_reducible refine below_plus' ?_ ?_; ((try simp only [plus_size, World.size_alloc, World.size_drew, World.size_setCell, size_setRow, World.heap_drewN, List.length_append]) <;> omega)) | (with_reducible refine below_alloc' ?_ ?_; ((try simp only [plus_size, World.size_alloc, World.size_drew, World.size_setCell, size_setRow, World.heap_drewN, List.length_append]) <;> omega)) | with_reducible refine Below.drew ?_ | (with_reducible refine below_drewN' ?_ _) | exact Below.refl _ _)))) hm) ?_; rintro e wf ⟨g, rfl, S1⟩; have S := src_baseJ S1 (show Below w.heap.size w _ by (repeat (first | (with_reducible exact Below.refl _ _) | (with_reducible assumption) | (with_reducible refine below_plus' ?_ ?_; ((try simp only [plus_size, World.size_alloc, World.size_drew, World.size_setCell, size_setRow, World.heap_drewN, List.length_append]) <;> omega)) | (with_reducible refine below_alloc' ?_ ?_; ((try simp only [plus_size, World.size_alloc, World.size_drew, World.size_setCell, size_setRow, World.heap_drewN, List.length_append]) <;> omega)) | with_reducible refine Below.drew ?_ | (with_reducible refine below_drewN' ?_ _) | exact Below.refl _ _))); have G := below_grownJ (row := some g) S.bel; have L := S.lt; have hlo := S1.lo; (try simp only [plus_size, World.size_alloc, World.size_drew, World.heap_drewN, size_setRow] at hlo); clear S1))
  have h4 : (w1.alloc (.cells #[.int .i64 n0, .slice a xs.length c] 26)).heap[w1.heap.size]? = some (.cells #[.int .i64 n0, .slice a xs.length c] 26) := heap_alloc_last _ _
  have hbx : Below w1.heap.size w1 (w1.alloc (.cells #[.int .i64 n0, .slice a xs.length c] 26)) := by (repeat (first | (with_reducible exact Below.refl _ _) | (with_reducible assumption) | (with_reducible refine below_plus' ?_ ?_; ((try simp only [plus_size, World.size_alloc, World.size_drew, World.size_setCell, size_setRow, World.heap_drewN, List.length_append]) <;> omega)) | (with_reducible refine below_alloc' ?_ ?_; ((try simp only [plus_size, World.size_alloc, World.size_drew, World.size_setCell, size_setRow, World.heap_drewN, List.length_append]) <;> omega)) | with_reducible refine Below.drew ?_ | (with_reducible refine below_drewN' ?_ _) | exact Below.refl _ _))
  replace S := S.kept hbx
  replace ho := ho.kept hbx
  clear hbx G hg
  generalize w1.alloc (.cells #[.int .i64 n0, .slice a xs.length c] 26) = wx at h4 S ho ⊢
  generalize w1.heap.size = b4 at h4 ⊢
  have x4 : boxed wx b4 26 n0 (.slice a xs.length c) := h4
  clear h4
  have c40 := x4.c0
  have c41 := x4.c1
  have hz : ∀ k, k < xs.length → -9 ≤ nth xs k ∧ nth xs k ≤ 9 := fun k hk => by have := hx _ (nth_mem hk); omega
  have hdec := fun w' => l01Dec_any n0 w' (by omega) (by omega)
  have htxt := fun (w' : World) (h : own 2 w' w.heap.size (.slice a xs.length c) xs) => l01Text_any (.slice a xs.length c) xs w' h.reads (by omega) hz
  have hdl := decL_length n0
  have hll := lettersT_length xs xs.length
  clear hx hz
  generalize decL n0 = D at hdec hdl
  generalize lettersT xs xs.length = TX at htxt hll
  have HDEC := Lib.hid hdec
  have HTXT := Lib.hid htxt
  clear hdec htxt
  have hs1 := szT (strB_size D) hdl (show 2 + 1 ≤ 9223372036854775807 by omega)
  have hs3 : ¬ 9223372036854775807 < (strB D).size + 1 + (strB TX).size := by rw [strB_size, strB_size]; omega
  go_region_held3 (fun W' => W'.cell? ⟨b4, 0, none⟩ = some (.int .i64 n0) ∧ W'.cell? ⟨b4, 1, none⟩ = some (.slice a xs.length c)) (first | (with_reducible exact boxed.both x4) | exact both_kept x4 (by (repeat (first | (with_reducible exact Below.refl _ _) | (with_reducible assumption) | (with_reducible refine below_plus' ?_ ?_; ((try simp only [plus_size, World.size_alloc, World.size_drew, World.size_setCell, size_setRow, World.heap_drewN, List.length_append]) <;> omega)) | (with_reducible refine below_alloc' ?_ ?_; ((try simp only [plus_size, World.size_alloc, World.size_drew, World.size_setCell, size_setRow, World.heap_drewN, List.length_append]) <;> omega)) | with_reducible refine Below.drew ?_ | (with_reducible refine below_drewN' ?_ _) | exact Below.refl _ _)))) (first | (go_simp; (go_at_call 49; refine Calls.mono (HDEC.out _) ?_; rintro e w2 ⟨rfl, hB⟩; clear c40 c41; have hB : Below _ _ _ := hB; replace S := (S.kept (by (repeat (first | (with_reducible exact Below.refl _ _) | (with_reducible assumption) | (with_reducible refine below_plus' ?_ ?_; ((try simp only [plus_size, World.size_alloc, World.size_drew, World.size_setCell, size_setRow, World.heap_drewN, List.length_append]) <;> omega)) | (with_reducible refine below_alloc' ?_ ?_; ((try simp only [plus_size, World.size_alloc, World.size_drew, World.size_setCell, size_setRow, World.heap_drewN, List.length_append]) <;> omega)) | with_reducible refine Below.drew ?_ | (with_reducible refine below_drewN' ?_ _) | exact Below.refl _ _)))).kept hB; replace ho := (ho.kept (by (repeat (first | (with_reducible exact Below.refl _ _) | (with_reducible assumption) | (with_reducible refine below_plus' ?_ ?_; ((try simp only [plus_size, World.size_alloc, World.size_drew, World.size_setCell, size_setRow, World.heap_drewN, List.length_append]) <;> omega)) | (with_reducible refine below_alloc' ?_ ?_; ((try simp only [plus_size, World.size_alloc, World.size_drew, World.size_setCell, size_setRow, World.heap_drewN, List.length_append]) <;> omega)) | with_reducible refine Below.drew ?_ | (with_reducible refine below_drewN' ?_ _) | exact Below.refl _ _)))).kept hB; replace x4 := boxed.onQ (boxed.onQ x4 (by (repeat (first | (with_reducible exact Below.refl _ _) | (with_reducible assumption) | (with_reducible refine below_plus' ?_ ?_; ((try simp only [plus_size, World.size_alloc, World.size_drew, World.size_setCell, size_setRow, World.heap_drewN, List.length_append]) <;> omega)) | (with_reducible refine below_alloc' ?_ ?_; ((try simp only [plus_size, World.size_alloc, World.size_drew, World.size_setCell, size_setRow, World.heap_drewN, List.length_append]) <;> omega)) | with_reducible refine Below.drew ?_ | (with_reducible refine below_drewN' ?_ _) | exact Below.refl _ _)))) hB; clear hB; have c40 := x4.c0; have c41 := x4.c1); dsimp only) | (go_simp; (go_at_call 50; refine Calls.mono (HTXT.out _ (ho.kept (by (repeat (first | (with_reducible exact Below.refl _ _) | (with_reducible assumption) | (with_reducible refine below_plus' ?_ ?_; ((try simp only [plus_size, World.size_alloc, World.size_drew, World.size_setCell, size_setRow, World.heap_drewN, List.length_append]) <;> omega)) | (with_reducible refine below_alloc' ?_ ?_; ((try simp only [plus_size, World.size_alloc, World.size_drew, World.size_setCell, size_setRow, World.heap_drewN, List.length_append]) <;> omega)) | with_reducible refine Below.drew ?_ | (with_reducible refine below_drewN' ?_ _) | exact Below.refl _ _))))) ?_; rintro e w3 ⟨rfl, hB⟩; clear c40 c41; have hB : Below _ _ _ := hB; replace S := (S.kept (by (repeat (first | (with_reducible exact Below.refl _ _) | (with_reducible assumption) | (with_reducible refine below_plus' ?_ ?_; ((try simp only [plus_size, World.size_alloc, World.size_drew, World.size_setCell, size_setRow, World.heap_drewN, List.length_append]) <;> omega)) | (with_reducible refine below_alloc' ?_ ?_; ((try simp only [plus_size, World.size_alloc, World.size_drew, World.size_setCell, size_setRow, World.heap_drewN, List.length_append]) <;> omega)) | with_reducible refine Below.drew ?_ | (with_reducible refine below_drewN' ?_ _) | exact Below.refl _ _)))).kept hB; replace ho := (ho.kept (by (repeat (first | (with_reducible exact Below.refl _ _) | (with_reducible assumption) | (with_reducible refine below_plus' ?_ ?_; ((try simp only [plus_size, World.size_alloc, World.size_drew, World.size_setCell, size_setRow, World.heap_drewN, List.length_append]) <;> omega)) | (with_reducible refine below_alloc' ?_ ?_; ((try simp only [plus_size, World.size_alloc, World.size_drew, World.size_setCell, size_setRow, World.heap_drewN, List.length_append]) <;> omega)) | with_reducible refine Below.drew ?_ | (with_reducible refine below_drewN' ?_ _) | exact Below.refl _ _)))).kept hB; replace x4 := boxed.onQ (boxed.onQ x4 (by (repeat (first | (with_reducible exact Below.refl _ _) | (with_reducible assumption) | (with_reducible refine below_plus' ?_ ?_; ((try simp only [plus_size, World.size_alloc, World.size_drew, World.size_setCell, size_setRow, World.heap_drewN, List.length_append]) <;> omega)) | (with_reducible refine below_alloc' ?_ ?_; ((try simp only [plus_size, World.size_alloc, World.size_drew, World.size_setCell, size_setRow, World.heap_drewN, List.length_append]) <;> omega)) | with_reducible refine Below.drew ?_ | (with_reducible refine below_drewN' ?_ _) | exact Below.refl _ _)))) hB; clear hB; have c40 := x4.c0; have c41 := x4.c1); dsimp only))
  all_goals (
    obtain ⟨h0, hh0, T⟩ := S.start
    have HH := Lib.hid hh0
    have hs0 : (strB D ++ ⟨#[58]⟩ ++ strB TX).size ≤ 100 := by
      simp only [ByteArray.size_append, strB_size]
      show D.length + 1 + TX.length ≤ 100
      omega
    generalize strB D ++ ⟨#[58]⟩ ++ strB TX = S0 at hs0 ⊢
    clear S ho x4 c40 c41 HDEC HTXT hs1 hs3 hdl hll hh0
    go_wp2
    go_loopg [5] (2 * m + 8610000010) (fun k st wr => ∃ (s : ByteArray) (t : Nat), Hid (k + t = (2 * m + 8610000010)) ∧ st = .string s ∧ Hid (4 * s.size ≤ 400 + t) ∧ Hid (Cov h0 m t) ∧ SrcT w wr g vc m h0 t)
    case atStart => exact ⟨S0, 0, Lib.hid (by omega), rfl, Lib.hid (by omega), Lib.hid (cov_zero h0 m), T⟩
    case round =>
      obtain ⟨s, t, HK, rfl, HSZ, HCV, T⟩ := hrel
      have L := T.lt
      have hs4 : s.size ≤ 4000000000 := by
        have h1 := HCV.out.le
        have h2 := HSZ.out
        omega
      go_upto_region 5 with (first | (go_at_call 32; refine Calls.mono (nextT w _ g vc m _ h0 _ HC.out hm HH.out (T.kept (by (repeat (first | (with_reducible exact Below.refl _ _) | (with_reducible assumption) | (with_reducible refine below_plus' ?_ ?_; ((try simp only [plus_size, World.size_alloc, World.size_drew, World.size_setCell, size_setRow, World.heap_drewN, List.length_append]) <;> omega)) | (with_reducible refine below_alloc' ?_ ?_; ((try simp only [plus_size, World.size_alloc, World.size_drew, World.size_setCell, size_setRow, World.heap_drewN, List.length_append]) <;> omega)) | with_reducible refine Below.drew ?_ | (with_reducible refine below_drewN' ?_ _) | exact Below.refl _ _)))) (by omega) (by omega)) ?_; rintro e w5 ⟨q, hq, rfl, T1, hg, zq⟩; have ZQ := Lib.hid zq; clear zq; replace T := T1; clear T1; have L := T.lt))
      · go_wp2_with (first | (go_at_call 51; refine Calls.mono (damage_any w _ g vc m h0 _ s HC.out hm HH.out (T.kept (by (repeat (first | (with_reducible exact Below.refl _ _) | (with_reducible assumption) | (with_reducible refine below_plus' ?_ ?_; ((try simp only [plus_size, World.size_alloc, World.size_drew, World.size_setCell, size_setRow, World.heap_drewN, List.length_append]) <;> omega)) | (with_reducible refine below_alloc' ?_ ?_; ((try simp only [plus_size, World.size_alloc, World.size_drew, World.size_setCell, size_setRow, World.heap_drewN, List.length_append]) <;> omega)) | with_reducible refine Below.drew ?_ | (with_reducible refine below_drewN' ?_ _) | exact Below.refl _ _)))) hs4) ?_; rintro e w6 ⟨s', t', rfl, hcase, T1, hg2⟩; have HCA := Lib.hid hcase; clear hcase; replace T := T1; clear T1; have L := T.lt))
        have hq0 : (q : Int) = 0 := by first | assumption | (have h9 := ‹((q : Int) == 0) = true›; simpa using h9)
        have hz0 : m ≤ t → top24 (hs h0 (t + 1)) % 3 = 0 := fun h => by have := ZQ.out h; omega
        have hst := HCV.out.step hz0
        have hle := HCV.out.le
        have hsz := HSZ.out
        have hk := HK.out
        rcases HCA.out with ⟨rfl, hca, hcb⟩ | ⟨rfl, hca⟩
        · go_roundg (gk - 2)
          case measure => omega
          case rel => exact ⟨s', t + 1 + 1, Lib.hid (by omega), rfl, Lib.hid (by omega), Lib.hid hst.1, T⟩
        · go_roundg (gk - 4)
          case measure => omega
          case rel => exact ⟨s', t + 1 + 3, Lib.hid (by omega), rfl, Lib.hid (by omega), Lib.hid hst.2, T⟩
      · go_wp2
        go_ret
        exact ⟨s, rfl, hs4, T.src.bel⟩)
end Go.Proofs.YtblpbkfenmkhbaaGreatDoor
