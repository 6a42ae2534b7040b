/- Free forms. Conditions: as each theorem says. -/
import Derived.Test.YtkmfglocjdjhjaaV8
namespace Go.Proofs.Ytkmfglocjdjhjaa
open Go.RowKit
set_option linter.unusedSimpArgs false
set_option linter.unusedVariables false
/-- one letter more in a free form -/
def freeStep (out : List Int) (x : Int) : List Int := if 0 < out.length ∧ nth out (out.length - 1) = -x then out.dropLast else out ++ [x]
/-- the free form of the first k letters -/
def freeK (xs : List Int) (k : Nat) : List Int := (xs.take k).foldl freeStep []
theorem freeK_succ {xs : List Int} {k : Nat} (h : k < xs.length) : freeStep (freeK xs k) (nth xs k) = freeK xs (k + 1) := by
  have e : nth xs k = xs[k] := by simp [nth, h]
  rw [freeK, freeK, List.take_succ_eq_append_getElem h, List.foldl_append, e]; rfl
theorem freeStep_le (l : List Int) (x : Int) : (freeStep l x).length ≤ l.length + 1 := by
  unfold freeStep
  split
  · simp; omega
  · simp
theorem freeK_le (xs : List Int) : ∀ k : Nat, k ≤ xs.length → (freeK xs k).length ≤ k
  | 0, _ => by simp [freeK]
  | k + 1, h => by
    rw [← freeK_succ (by omega)]
    have h1 := freeK_le xs k (by omega)
    have h2 := freeStep_le (freeK xs k) (nth xs k)
    omega
theorem fs_nil {l : List Int} {x : Int} (h : l.length = 0) : freeStep l x = l ++ [x] := by simp [freeStep, h]
theorem fs_no {l : List Int} {x : Int} {p : Nat} (h : l.length = p + 1) (h2 : ¬ nth l p = -x) : freeStep l x = l ++ [x] := by simp [freeStep, h, h2]
theorem fs_yes {l : List Int} {x : Int} {p : Nat} (h : l.length = p + 1) (h2 : nth l p = -x) : freeStep l x = l.dropLast := by simp [freeStep, h, h2]
theorem own_some {e : TypeId} {w : World} {B : Nat} {v : Value} {xs : List Int} (h : own e w B v xs) (hp : 0 < xs.length) : ∃ g c, v = .slice (some ⟨g, 0, none⟩) xs.length c ∧ B ≤ g ∧ g < w.heap.size ∧ xs.length ≤ c := by
  rcases h.2 with ⟨_, h0⟩ | ⟨g, cap, cur, rfl, hg, hh, hle, _⟩
  · omega
  · exact ⟨g, cap, rfl, hg, heap_lt hh, hle⟩
theorem own_drop {e : TypeId} {w : World} {B g n c : Nat} {xs : List Int} {q : Nat} (h : own e w B (.slice (some ⟨g, 0, none⟩) q c) xs) (hn : xs.length = n + 1) : own e w B (.slice (some ⟨g, 0, none⟩) n c) xs.dropLast := by
  obtain ⟨h1, h2⟩ := h
  have hl : xs.dropLast.length = n := by simp; omega
  refine ⟨by simp, ?_⟩
  rcases h2 with ⟨h2, _⟩ | ⟨g', cap', cur, hv, hg, hh, hle, hm, hs, ht⟩
  · cases h2
  · simp only [Value.slice.injEq, Option.some.injEq, Addr.mk.injEq] at hv
    obtain ⟨⟨rfl, _⟩, hn', rfl⟩ := hv
    refine .inr ⟨g, c, cur, by rw [hl], hg, hh, by omega, hm, hs, ?_⟩
    rw [hl]
    have := congrArg (List.take n) ht
    rw [List.take_take, hn] at this
    simp only [Nat.mul_one, Nat.min_eq_left (Nat.le_succ n)] at this ⊢
    rw [this, ← List.map_take, List.dropLast_eq_take, hn]
    rfl
set_option maxHeartbeats 2000000 in
theorem l01Free_any (v : Value) (xs : List Int) (w : World) (h : reads w v xs) (hlen : xs.length ≤ 200) (hsm : Sm xs) : Calls Try.prog 72 #[v] w (RetInts 2 w (freeK xs xs.length)) := by
  obtain ⟨a, c, rfl, h⟩ := h
  have Hr := Lib.hid (show 0 < xs.length → ∃ b o, a = some ⟨b, o, none⟩ ∧ b < w.heap.size ∧ ∀ i, i < xs.length → w.cell? ⟨b, o + i, none⟩ = some (.int .i64 (nth xs i)) from fun hp => by
    rcases h with h | ⟨b, o, rfl, m⟩
    · rw [h] at hp; cases hp
    · exact ⟨b, o, rfl, World.block_lt_of_cell? w _ (m 0 hp), m⟩)
  clear h
  have Hsm := Lib.hid hsm
  clear hsm
  go_enter Try.func72, Try.ntmps72
  go_wp2
  go_loopw [3, 4] (fun vo sl wr => ∃ (v0 : Value) (l : List Int) (k : Nat) (j : List Obj) (d : Nat), v0 = vo ∧ Hid (l = freeK xs k) ∧ k ≤ xs.length ∧ sl = .int .i64 k ∧ wr = plus w j d ∧ own 2 (plus w j d) w.heap.size v0 l) (fun _ sl _ => xs.length - (intOf sl).toNat)
  case atStart => exact ⟨_, [], 0, [.cells #[] 2], w.drawn, rfl, Lib.hid rfl, by omega, rfl, rfl, own_made (Nat.le_refl _) (by decide) rfl⟩
  case round =>
    obtain ⟨v, l, k, j, d, rfl, HLl, hk, rfl, rfl, hown⟩ := hrel
    by_cases hlt : k < xs.length
    · obtain ⟨b, o, rfl, hbk, mm⟩ := Hr.out (by omega)
      have g1 := mm k hlt
      have hs7 := Hsm.out k hlt
      have hll : l.length < 1000000000 := by have h1 := congrArg List.length HLl.out; have h2 := freeK_le xs k hk; omega
      clear mm Hr
      by_cases hz : l.length = 0
      · have HB := Lib.hid (show l ++ [nth xs k] = freeK xs (k + 1) by rw [← freeK_succ hlt, ← HLl.out, fs_nil hz])
        obtain ⟨ao, co, rfl, hs⟩ := id hown.reads
        clear hs
        simp only [hz] at hown ⊢
        go_wp2
        go_quiet (fail)
        go_wp2_with (first | (at_builtin; go_loud (refine wpList_append1p rfl _ _ 23 rfl Try.underlying23 infoI _ rfl _ rfl ?_ hown ?_ ?_; ((try simp only [plus_size, World.size_alloc, World.size_drew, World.size_setCell, size_setRow, World.heap_drewN, List.length_append]) <;> omega); (omega); intro v' j' d' hown'; clear hown)))
        go_roundw
        case rel => exact ⟨_, _, k + 1, _, _, rfl, HB, by omega, by go_num, rfl, hown'⟩
        case measure => simp [intOf]; omega
      · obtain ⟨g, c, rfl, hgB, hgl, hcap⟩ := own_some hown (by omega)
        obtain ⟨p, hp⟩ : ∃ p, l.length = p + 1 := ⟨l.length - 1, by omega⟩
        obtain ⟨q, hq⟩ : ∃ q, l.length = q := ⟨_, rfl⟩
        have c0 := hown.cell (i := p) (by omega)
        have c1 : ∀ d', (plus w j d').cell? ⟨g, p, none⟩ = some (.int .i64 (nth l p)) := fun d' => c0
        clear c0
        have hq0 : 0 < q := by omega
        have hdq : decide (0 < q) = true := by simp [hq0]
        have hpq : p < q := by omega
        have hpc : p ≤ c := by omega
        have hqb : q < 1000000000 := by omega
        have hpb : p < 1000000000 := by omega
        have hpw : IntKind.i64.wrap ((q : Int) - 1) = p := by rw [IntKind.wrap_i64]; omega
        simp only [hq] at hown ⊢
        by_cases hd : nth l p = -nth xs k
        · have hd1 : (nth l p == -nth xs k) = true := by simp [hd]
          have hd2 : decide (nth l p = -nth xs k) = true := by simp [hd]
          have HB := Lib.hid (show l.dropLast = freeK xs (k + 1) by rw [← freeK_succ hlt, ← HLl.out, fs_yes hp hd])
          have hdr := own_drop hown hp
          go_wp2
          go_quiet (fail)
          go_wp2
          go_roundw
          case rel => exact ⟨_, _, k + 1, _, _, rfl, HB, by omega, by go_num, rfl, by first | exact hdr | exact own_plus (d := d) (j' := []) hdr⟩
          case measure => simp [intOf]; omega
        · have hd1 : (nth l p == -nth xs k) = false := by simp [hd]
          have hd2 : decide (nth l p = -nth xs k) = false := by simp [hd]
          have HB := Lib.hid (show l ++ [nth xs k] = freeK xs (k + 1) by rw [← freeK_succ hlt, ← HLl.out, fs_no hp hd])
          go_wp2
          go_quiet (fail)
          go_wp2_with (first | (at_builtin; go_loud (refine wpList_append1p rfl _ _ 23 rfl Try.underlying23 infoI _ rfl _ rfl ?_ hown ?_ ?_; ((try simp only [plus_size, World.size_alloc, World.size_drew, World.size_setCell, size_setRow, World.heap_drewN, List.length_append]) <;> omega); (omega); intro v' j' d' hown'; clear hown)))
          go_roundw
          case rel => exact ⟨_, _, k + 1, _, _, rfl, HB, by omega, by go_num, rfl, hown'⟩
          case measure => simp [intOf]; omega
    · obtain rfl : k = xs.length := by omega
      have HE := Lib.hid HLl.out
      go_wp2
      go_ret
      exact ⟨_, rfl, by (repeat (first | (with_reducible exact Below.refl _ _) | (with_reducible assumption) | (with_reducible refine below_plus' ?_ ?_; ((try simp only [plus_size, World.size_alloc, World.size_drew, World.size_setCell, size_setRow, World.heap_drewN, List.length_append]) <;> omega)) | (with_reducible refine below_alloc' ?_ ?_; ((try simp only [plus_size, World.size_alloc, World.size_drew, World.size_setCell, size_setRow, World.heap_drewN, List.length_append]) <;> omega)) | with_reducible refine Below.drew ?_ | (with_reducible refine below_drewN' ?_ _) | exact Below.refl _ _)), by rw [← HE.out]; exact hown⟩
end Go.Proofs.Ytkmfglocjdjhjaa
