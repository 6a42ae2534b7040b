/- The reduced matrix of letters, by the reference. Conditions: as each theorem says. -/
import Derived.Test.YtikakoclmmmjdaaNg
namespace Go.Proofs.Ytikakoclmmmjdaa
open Go.RowKit
set_option linter.unusedSimpArgs false
set_option linter.unusedVariables false
open Go.RowKit
set_option maxRecDepth 20000 in
set_option maxHeartbeats 4000000 in
theorem l05Matrix_r (M m : Nat) (hM : M = m + 1) (v : Value) (zs : List Int) (w : World) (h : reads w v zs) (hm : M ≤ 8) (hl : zs.length ≤ 1000000000) (hz : ∀ i, i < zs.length → nth zs i ≠ 0 ∧ (nth zs i).natAbs ≤ m) (hs : supL true false m zs) : Calls Try.prog 24 #[.int .i64 (M : Int), v, .bool true, .bool false] w (fun e w' => ∃ v', e = .returned (.tuple #[v', .bool (preL true m zs)]) ∧ Below w.heap.size w w' ∧ (preL true m zs = true → tabG 50 37 (Co 2) w' w.heap.size v' (plT m m (nfM 9223372036854775808 (lmF true m zs zs.length)))) ∧ (preL true m zs = false → v' = .slice none 0 0)) := by
  obtain ⟨a, c, rfl⟩ := readsL_form h
  have HR := Lib.hid h
  have HZ := Lib.hid hz
  have HS := Lib.hid hs
  have HSM := Lib.hid (fun (z : Int) (w' : World) (h1 : z ≠ 0) (h2 : z.natAbs ≤ m) => (show Calls Try.prog 44 #[.int .i64 (M : Int), .int .i64 z] w' (RetTabP 50 37 2 w' (plT m m (stpP true z))) from by
    have := l05Small_any m z w' (by omega) h1 h2
    rwa [show (m : Int) + 1 = (M : Int) by omega] at this))
  have hw1 : IntKind.i64.wrap ((M : Int) - 1) = (m : Int) := by rw [IntKind.wrap_i64]; omega
  have hM8 : M ≤ 8 := by omega
  have hm8 : m ≤ 8 := by omega
  clear h hz hs
  clear hM
  go_enter Try.func24, Try.ntmps24
  go_upto_region 4 with (first | (go_at_call 42; (with_reducible refine Calls.mono (l05Unit_any M _ (by omega)) ?_); rintro e w1 ⟨v1, rfl, hB1, ht1⟩) | (go_at_call 42; (with_reducible refine Calls.mono (l05Unit_any m _ (by omega)) ?_); rintro e w2 ⟨v2, rfl, hB2, ht2⟩))
  have hbel : Below w.heap.size w w2 := hB1.trans (hB2.mono hB1.size)
  have ht := ht2.mono hB1.size (fun x xs h => h)
  clear ht1 hB1 hB2 ht2
  go_wp2
  go_loopw [10, 11] (fun so si wr => ∃ k : Nat, k ≤ zs.length ∧ si = .int .i64 k ∧ tabG 50 37 (Co 2) wr w.heap.size so (plT m m (nfM 9223372036854775808 (lmF true m zs k))) ∧ Hid (∀ q, q < k → allM m (nfM 9223372036854775808 (lmF true m zs (q + 1))) = true) ∧ Below w.heap.size w wr) (fun _ si _ => zs.length - (intOf si).toNat)
  case atStart => exact ⟨0, by omega, rfl, (by rw [show lmF true m zs 0 = fun i j => val (unitP i j) from rfl, nfM_unit]; exact ht), Lib.hid (fun q hq => by omega), hbel⟩
  case round =>
    clear ht hbel
    obtain ⟨k, hk, rfl, ht, HP, hbel⟩ := hrel
    have hsz := hbel.size
    rcases Nat.lt_or_ge k zs.length with hlt | hge
    · have hlt1 : (k : Int) < (zs.length : Int) := by omega
      obtain ⟨b, o, rfl, hbl, hc⟩ := reads_cells HR.out (by omega)
      have g1 := (hbel.cell (p := ⟨b, o + k, none⟩) hbl).trans (hc k hlt)
      obtain ⟨hz1, hz2⟩ := HZ.out k hlt
      have HSU := Lib.hid (HS.out k (by omega) (fun _ => HP.out))
      have hm2 := ht.readsM (by decide)
      have HRE := Lib.hid (lmF_succ true m zs k)
      clear hc
      generalize nth zs k = z at g1 hz1 hz2 HRE
      obtain ⟨ok, hok⟩ : ∃ ok, allM m (nfM 9223372036854775808 (lmF true m zs (k + 1))) = ok := ⟨_, rfl⟩
      have HAM := Lib.hid hok
      have HFI := Lib.hid (show fitM m (nfM 9223372036854775808 (lmF true m zs (k + 1))) from by rw [HRE.out]; exact fit_nfM (fun i hi j hj => sup_mmF (B := 1) (sup_stp true m z) hj m (Nat.le_refl _)) (by decide))
      clear hok
      go_upto_region 10 with (first | (go_at_call 44; (with_reducible refine Calls.mono (HSM.out z _ hz1 hz2) ?_); rintro e w3 ⟨v3, rfl, hB3, ht3⟩; have hm3 : readsM w3 v3 m (nfM 9223372036854775808 (fun x y => val (stpP true z x y))) := (by rw [nfM_stp]; exact ht3.readsM (by decide))) | (go_at_call 43; (with_reducible refine Calls.mono (l05Product_nf _ _ m 1500 1 (lmF true m zs k) (fun x y => val (stpP true z x y)) _ (hm2.kept hB3) hm3 (by omega) HSU.out (sup_stp true m z) (by decide)) ?_); rintro e w4 ⟨v4, rfl, hB4, ht4⟩; have hm4 := ht4.readsM (by decide)))
      have hB34 : Below wr.heap.size wr w4 := hB3.trans (hB4.mono hB3.size)
      have hbel4 : Below w.heap.size w w4 := hbel.trans (hB34.mono hbel.size)
      have ht5 := ht4.mono (Nat.le_trans hbel.size hB3.size) (fun x xs h => h)
      have ht5 : tabG 50 37 (Co 2) w4 w.heap.size v4 (plT m m (nfM 9223372036854775808 (lmF true m zs (k + 1)))) := by rw [HRE.out]; exact ht5
      have hm4 : readsM w4 v4 m (nfM 9223372036854775808 (lmF true m zs (k + 1))) := by rw [HRE.out]; exact hm4
      have HAL := Lib.hid (show Calls Try.prog 46 #[v4] w4 (fun e w' => e = .returned (.bool ok) ∧ Below w4.heap.size w4 w') from by
        have := l05All_any v4 m (nfM 9223372036854775808 (lmF true m zs (k + 1))) w4 hm4 (by omega) HFI.out
        rwa [HAM.out] at this)
      clear hm4 ht4 hm3 ht3 hm2 ht
      cases ok with
      | true =>
        go_wp2_with (first | (go_at_call 46; (with_reducible refine Calls.mono HAL.out ?_); rintro e w5 ⟨rfl, hB5⟩))
        go_roundw
        case rel => exact ⟨k + 1, by omega, by go_num, ht5.keep hB5, Lib.hid (fun q hq => by
          rcases Nat.lt_or_ge q k with h9 | h9
          · exact HP.out q h9
          · obtain rfl : q = k := by omega
            exact HAM.out), hbel4.trans (hB5.mono hbel4.size)⟩
        case measure => simp [intOf]; omega
      | false =>
        have HB := Lib.hid (preL_bad hlt HAM.out)
        go_wp2_with (first | (go_at_call 46; (with_reducible refine Calls.mono HAL.out ?_); rintro e w5 ⟨rfl, hB5⟩))
        go_ret2
        exact ⟨_, by rw [HB.out]; rfl, hbel4.trans (hB5.mono hbel4.size), (fun h => by rw [HB.out] at h; cases h), fun _ => rfl⟩
    · obtain rfl : zs.length = k := by omega
      have hge1 : ¬ ((zs.length : Int) < (zs.length : Int)) := by omega
      have HB := Lib.hid (preL_good HP.out)
      go_wp2
      go_ret2
      exact ⟨_, by rw [HB.out]; rfl, hbel, fun _ => ht, (fun h => by rw [HB.out] at h; cases h)⟩
end Go.Proofs.Ytikakoclmmmjdaa
