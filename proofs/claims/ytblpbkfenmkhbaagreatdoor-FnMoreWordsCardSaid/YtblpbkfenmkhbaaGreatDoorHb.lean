/- Numbers read by the reference. Conditions: as each theorem says. -/
import Derived.Test.YtblpbkfenmkhbaaGreatDoorHa
namespace Go.Proofs.YtblpbkfenmkhbaaGreatDoor
open Go.RowKit
set_option linter.unusedSimpArgs false
set_option linter.unusedVariables false
open Go.RowKit
theorem strB_get (l : List UInt8) (i : Nat) (h : i < (strB l).size) : (strB l)[i].toNat = byteAt l i := by
  have h2 : i < l.length := by rwa [strB_size] at h
  show (l.toArray[i]'(by simpa using h2)).toNat = _
  rw [show byteAt l i = l[i].toNat by simp [byteAt, h2], List.getElem_toArray]
set_option maxHeartbeats 1000000 in
theorem l01Number_any (l : List UInt8) (w : World) (hl : l.length ≤ 4000000000) : Calls Tryz.prog 74 #[.string (strB l)] w fun e w' => e = .returned (.int .i64 (numS l)) ∧ w = w' := by
  have hG := strB_get l
  have hsz := strB_size l
  generalize strB l = s at *
  by_cases h0 : s.size = 0
  · have HS := Lib.hid (numS_bad (l := l) (fun h => by have := h.1; omega))
    clear hG hsz
    go_enter Tryz.func74, Tryz.ntmps74
    go_wp2
    go_ret
    exact ⟨by rw [HS.out]; rfl, rfl⟩
  · by_cases h9 : 9 < s.size
    · have HS := Lib.hid (numS_bad (l := l) (fun h => by have := h.2.1; omega))
      clear hG hsz
      go_enter Tryz.func74, Tryz.ntmps74
      go_wp2
      go_ret
      exact ⟨by rw [HS.out]; rfl, rfl⟩
    · by_cases h48 : 1 < s.size ∧ byteAt l 0 = 48
      · have HS := Lib.hid (numS_bad (l := l) (fun h => h.2.2.1 ⟨by omega, h48.2⟩))
        have h1 := h48.1
        have hp : 0 < s.size := by omega
        have hb : (s[0]'hp).toNat = 48 := by rw [hG]; exact h48.2
        clear hG hsz h48
        go_enter Tryz.func74, Tryz.ntmps74
        go_wp2
        go_ret
        exact ⟨by rw [HS.out]; rfl, rfl⟩
      · have hcut : ∀ (Q : Exit → Act → World → Prop), True := fun _ => trivial
        clear hcut
        have HG := Lib.hid hG
        have HZ := Lib.hid hsz
        have H48 := Lib.hid h48
        have hz0 : ((s.size : Int) == 0) = false := beq_eq_false_iff_ne.2 (by omega)
        have hz9 : ¬ (9 : Int) < (s.size : Int) := by omega
        have hp : 0 < s.size := by omega
        clear hG hsz h48
        go_enter Tryz.func74, Tryz.ntmps74
        by_cases h1 : 1 < s.size
        · have hb : (((s[0]'hp).toNat : Int) == 48) = false := by
            rw [HG.out]
            have := H48.out
            exact beq_eq_false_iff_ne.2 (by omega)
          have h1' : (1 : Int) < (s.size : Int) := by omega
          go_wp2
          go_loop [3, 4] (fun sn sl => ∃ k : Nat, k ≤ s.size ∧ sl = .int .i64 k ∧ sn = .int .i64 (numK l k) ∧ Hid (∀ i, i < k → 48 ≤ byteAt l i ∧ byteAt l i ≤ 57)) (fun _ sl => s.size - (intOf sl).toNat)
          case atStart => exact ⟨0, by omega, rfl, rfl, Lib.hid (fun i hi => by omega)⟩
          case round =>
            obtain ⟨k, hk, rfl, rfl, Hl⟩ := hrel
            by_cases hlt : k < s.size
            · obtain ⟨D, hD⟩ : ∃ D, (s[k]'hlt).toNat = D := ⟨_, rfl⟩
              have hDk := HG.out k hlt
              rw [hD] at hDk
              by_cases hA : D < 48
              · have HS := Lib.hid (numS_bad (l := l) (fun h => by have := h.2.2.2 k (by have := HZ.out; omega); omega))
                clear hDk
                go_wp2
                go_ret
                exact ⟨by rw [HS.out]; rfl, rfl⟩
              · by_cases hB : 57 < D
                · have HS := Lib.hid (numS_bad (l := l) (fun h => by have := h.2.2.2 k (by have := HZ.out; omega); omega))
                  clear hDk
                  go_wp2
                  go_ret
                  exact ⟨by rw [HS.out]; rfl, rfl⟩
                · have HK := Lib.hid (show numK l (k + 1) = numK l k * 10 + (D - 48) by rw [hDk]; rfl)
                  have hN := numK_lt (l := l.take k) (fun i hi => by
                    rw [List.length_take] at hi
                    have := Hl.out i (by omega)
                    rw [show byteAt (l.take k) i = byteAt l i by simp [byteAt, List.getElem?_take, show i < k by omega]]; omega) k (by have := HZ.out; rw [List.length_take]; omega)
                  have he : ∀ m, m ≤ k → numK (l.take k) m = numK l m := by
                    intro m
                    induction m with
                    | zero => intro _; rfl
                    | succ m ih => intro hm; simp only [numK, ih (by omega)]; rw [show byteAt (l.take k) m = byteAt l m by simp [byteAt, List.getElem?_take, show m < k by omega]]
                  rw [he k (Nat.le_refl _)] at hN
                  have h10 : 10 ^ k ≤ 10 ^ 8 := Nat.pow_le_pow_right (by decide) (by omega)
                  have HD := Lib.hid hDk
                  have hN2 : numK l k < 100000000 := by omega
                  clear hN h10 he hDk
                  generalize numK l k = N at *
                  go_wp2
                  go_round
                  case rel => exact ⟨k + 1, by omega, by go_num, by rw [HK.out]; congr 1; omega, Lib.hid (fun i hi => by by_cases e : i = k; (· subst e; have := HD.out; omega); (· exact Hl.out i (by omega)))⟩
                  case measure => simp [intOf]; omega
            · obtain rfl : k = s.size := by omega
              have HS := Lib.hid (show numS l = numK l s.size by rw [HZ.out]; exact numS_good ⟨by have := HZ.out; omega, by have := HZ.out; omega, by have := H48.out; have := HZ.out; omega, by have := Hl.out; rw [HZ.out] at this; exact this⟩)
              go_wp2
              go_ret
              exact ⟨by rw [HS.out]; rfl, rfl⟩
        · have h1' : ¬ (1 : Int) < (s.size : Int) := by omega
          go_wp2
          go_loop [3, 4] (fun sn sl => ∃ k : Nat, k ≤ s.size ∧ sl = .int .i64 k ∧ sn = .int .i64 (numK l k) ∧ Hid (∀ i, i < k → 48 ≤ byteAt l i ∧ byteAt l i ≤ 57)) (fun _ sl => s.size - (intOf sl).toNat)
          case atStart => exact ⟨0, by omega, rfl, rfl, Lib.hid (fun i hi => by omega)⟩
          case round =>
            obtain ⟨k, hk, rfl, rfl, Hl⟩ := hrel
            by_cases hlt : k < s.size
            · obtain ⟨D, hD⟩ : ∃ D, (s[k]'hlt).toNat = D := ⟨_, rfl⟩
              have hDk := HG.out k hlt
              rw [hD] at hDk
              by_cases hA : D < 48
              · have HS := Lib.hid (numS_bad (l := l) (fun h => by have := h.2.2.2 k (by have := HZ.out; omega); omega))
                clear hDk
                go_wp2
                go_ret
                exact ⟨by rw [HS.out]; rfl, rfl⟩
              · by_cases hB : 57 < D
                · have HS := Lib.hid (numS_bad (l := l) (fun h => by have := h.2.2.2 k (by have := HZ.out; omega); omega))
                  clear hDk
                  go_wp2
                  go_ret
                  exact ⟨by rw [HS.out]; rfl, rfl⟩
                · have HK := Lib.hid (show numK l (k + 1) = numK l k * 10 + (D - 48) by rw [hDk]; rfl)
                  have hN := numK_lt (l := l.take k) (fun i hi => by
                    rw [List.length_take] at hi
                    have := Hl.out i (by omega)
                    rw [show byteAt (l.take k) i = byteAt l i by simp [byteAt, List.getElem?_take, show i < k by omega]]; omega) k (by have := HZ.out; rw [List.length_take]; omega)
                  have he : ∀ m, m ≤ k → numK (l.take k) m = numK l m := by
                    intro m
                    induction m with
                    | zero => intro _; rfl
                    | succ m ih => intro hm; simp only [numK, ih (by omega)]; rw [show byteAt (l.take k) m = byteAt l m by simp [byteAt, List.getElem?_take, show m < k by omega]]
                  rw [he k (Nat.le_refl _)] at hN
                  have h10 : 10 ^ k ≤ 10 ^ 8 := Nat.pow_le_pow_right (by decide) (by omega)
                  have HD := Lib.hid hDk
                  have hN2 : numK l k < 100000000 := by omega
                  clear hN h10 he hDk
                  generalize numK l k = N at *
                  go_wp2
                  go_round
                  case rel => exact ⟨k + 1, by omega, by go_num, by rw [HK.out]; congr 1; omega, Lib.hid (fun i hi => by by_cases e : i = k; (· subst e; have := HD.out; omega); (· exact Hl.out i (by omega)))⟩
                  case measure => simp [intOf]; omega
            · obtain rfl : k = s.size := by omega
              have HS := Lib.hid (show numS l = numK l s.size by rw [HZ.out]; exact numS_good ⟨by have := HZ.out; omega, by have := HZ.out; omega, by have := H48.out; have := HZ.out; omega, by have := Hl.out; rw [HZ.out] at this; exact this⟩)
              go_wp2
              go_ret
              exact ⟨by rw [HS.out]; rfl, rfl⟩
end Go.Proofs.YtblpbkfenmkhbaaGreatDoor
