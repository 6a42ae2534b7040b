/- The product of two matrices of polynomials, by the reference, modulo 2^64. Conditions: as each theorem says. -/
import Derived.Test.YtikakoclmmmjdaaNd
namespace Go.Proofs.Ytikakoclmmmjdaa
open Go.RowKit
set_option linter.unusedSimpArgs false
set_option linter.unusedVariables false
open Go.RowKit
/-- the first k summands of an entry of a product -/
def mmF (A : Nat) (F G : Nat → Nat → Int → Int) (i j k : Nat) : Int → Int := fun z => sumT (fun q => cvf A (F i q) (G q j) z) k
theorem mmF_zero (A : Nat) (F G : Nat → Nat → Int → Int) (i j : Nat) : mmF A F G i j 0 = fun _ => 0 := rfl
theorem mmF_succ (A : Nat) (F G : Nat → Nat → Int → Int) (i j k : Nat) : mmF A F G i j (k + 1) = fun z => mmF A F G i j k z + 1 * cvf A (F i k) (G k j) z := by
  funext z
  rw [Int.one_mul]; rfl
def supM (m N : Nat) (F : Nat → Nat → Int → Int) : Prop := ∀ i, i < m → ∀ j, j < m → sup (F i j) N
theorem sup_mmF {A B m : Nat} {F G : Nat → Nat → Int → Int} {i j : Nat} (hG : supM m B G) (hj : j < m) : ∀ k, k ≤ m → sup (mmF A F G i j k) (A + B)
  | 0, _ => fun z _ => rfl
  | k + 1, hk => fun z hz => by
    show sumT (fun q => cvf A (F i q) (G q j) z) k + cvf A (F i k) (G k j) z = 0
    have h1 := sup_mmF (A := A) (F := F) (i := i) hG hj k (by omega) z hz
    have h2 := sup_cvf (A := A) (f := F i k) (hG k (by omega) j hj) z hz
    have h1 : sumT (fun q => cvf A (F i q) (G q j) z) k = 0 := h1
    rw [h1, h2]; rfl
theorem nf_zero : nf 9223372036854775808 (fun _ => 0) = (0, []) := nf_eq (by decide) (N := 0) (M := 0) (fun _ _ => rfl) ⟨.inl ⟨rfl, rfl⟩, by simp, by simp, by simp, fun k => by rw [val_nil, rho_zero (by decide)]⟩
theorem mmF_skip {A B m : Nat} {F G : Nat → Nat → Int → Int} {i j k : Nat} (hF : supM m A F) (hG : supM m B G) (hi : i < m) (hj : j < m) (hk : k < m) (h : (nf 9223372036854775808 (F i k)).2.length = 0 ∨ (nf 9223372036854775808 (G k j)).2.length = 0) : nf 9223372036854775808 (mmF A F G i j (k + 1)) = nf 9223372036854775808 (mmF A F G i j k) :=
  nf_congr (by decide) (sup_mmF hG hj (k + 1) (by omega)) (sup_mmF (A := A) (F := F) (i := i) hG hj k (by omega)) fun z => by
    have a := nf_is (h := 9223372036854775808) (by decide) (hF i hi k hk)
    have b := nf_is (h := 9223372036854775808) (by decide) (hG k hk j hj)
    have e : rho 9223372036854775808 (cvf A (F i k) (G k j) z) = 0 := by
      have hc := mul_nil (by decide) a b (sup_cvf (A := A) (f := F i k) (hG k hk j hj)) h
      have hn := (nf_is (h := 9223372036854775808) (by decide) (sup_cvf (A := A) (f := F i k) (hG k hk j hj))).v z
      rw [hc, val_nil] at hn
      exact hn.symm
    rw [mmF_succ]
    show rho _ (mmF A F G i j k z + 1 * cvf A (F i k) (G k j) z) = _
    rw [Int.one_mul, ← rho_add_right, e, Int.add_zero]
/-- a matrix of normal forms -/
noncomputable def nfM (h : Int) (F : Nat → Nat → Int → Int) : Nat → Nat → Pol := fun i j => nf h (F i j)
theorem tabG_far2 {S T : TypeId} {C : Cont} {w w0 : World} {B : Nat} {v rv : Value} {M : List (List Pol)} (h : tabG S T C w0 B v M) (hr : ∀ k, rv.ownBlock = some k → w0.heap.size ≤ k) (hm : ∀ vs : List Value, w.ownsRow B S 1 v M.length vs → w0.ownsRow B S 1 v M.length vs) : ∀ k, rv.ownBlock = some k → ∀ vs : List Value, w.ownsRow B S 1 v M.length vs → ∀ i, i < M.length → (slot vs i).ownBlock ≠ some k := by
  intro k hk vs hvs i hi he
  have h1 := h.rows_lt (hm vs hvs) i hi k he
  have h2 := hr k hk
  omega
theorem wp_plus0 {P : Program} {c : Code} {Q : Exit → Act → World → Prop} {a : Act} {w : World} (h : c.wp P Q a (plus w [] w.drawn)) : c.wp P Q a w := by rw [plus_nil] at h; exact h
set_option maxRecDepth 20000 in
set_option maxHeartbeats 8000000 in
theorem l05Product_nf (va vb : Value) (m A B : Nat) (F G : Nat → Nat → Int → Int) (w : World) (ha : readsM w va m (nfM 9223372036854775808 F)) (hb : readsM w vb m (nfM 9223372036854775808 G)) (hm : m ≤ 8) (hF : supM m A F) (hG : supM m B G) (hAB : A + B ≤ 3000) : Calls Try.prog 43 #[va, vb] w (RetTabP 50 37 2 w (plT m m (nfM 9223372036854775808 fun x y => mmF A F G x y m))) := by
  obtain ⟨aa, ca, rfl, ha⟩ := ha
  obtain ⟨ab, cb, rfl, hb⟩ := hb
  have HA := Lib.hid ha
  have HB := Lib.hid hb
  have HF := Lib.hid hF
  have HG := Lib.hid hG
  clear ha hb hF hG
  unfold nfM at HA HB
  go_enter Try.func43, Try.ntmps43
  go_wp2
  go_loopw [5, 6, 7, 8, 9, 10] (fun so si s7 s8 s9 s10 wr => ∃ i : Nat, i ≤ m ∧ si = .int .i64 i ∧ tabG 50 37 (Co 2) wr w.heap.size so (plT m i (nfM 9223372036854775808 fun x y => mmF A F G x y m)) ∧ Below w.heap.size w wr) (fun _ si _ _ _ _ _ => m - (intOf si).toNat)
  case atStart => exact ⟨0, by omega, rfl, tabG_made rfl (Nat.le_refl _) (by decide) rfl, by (repeat (first | (with_reducible exact Below.refl _ _) | (with_reducible assumption) | (with_reducible refine below_plus' ?_ ?_; ((try simp only [plus_size, World.size_alloc, World.size_drew, World.size_setCell, size_setRow, World.heap_drewN, List.length_append]) <;> omega)) | (with_reducible refine below_alloc' ?_ ?_; ((try simp only [plus_size, World.size_alloc, World.size_drew, World.size_setCell, size_setRow, World.heap_drewN, List.length_append]) <;> omega)) | with_reducible refine Below.drew ?_ | (with_reducible refine below_drewN' ?_ _) | exact Below.refl _ _))⟩
  case round =>
    obtain ⟨i, hi, rfl, ht, hbel⟩ := hrel
    obtain ⟨WO, hWO⟩ : ∃ x, x = wr := ⟨_, rfl⟩
    subst hWO
    have hsz0 := hbel.size
    obtain ⟨ta, co, rfl⟩ := ht.len
    rcases Nat.lt_or_ge i m with hlt | hge
    · have hlt1 : (i : Int) < (m : Int) := by omega
      go_wp2
      go_loopw [7, 8, 9, 10] (fun s7 s8 s9 s10 wr => ∃ j : Nat, j ≤ m ∧ s8 = .int .i64 j ∧ rowG 37 (Co 2) wr WO.heap.size s7 (plL j fun y => nf 9223372036854775808 (mmF A F G i y m)) ∧ Below WO.heap.size WO wr) (fun _ s8 _ _ _ => m - (intOf s8).toNat)
      case atStart => exact ⟨0, by omega, rfl, rowG_made rfl (Nat.le_refl _) (by decide) rfl, by (repeat (first | (with_reducible exact Below.refl _ _) | (with_reducible assumption) | (with_reducible refine below_plus' ?_ ?_; ((try simp only [plus_size, World.size_alloc, World.size_drew, World.size_setCell, size_setRow, World.heap_drewN, List.length_append]) <;> omega)) | (with_reducible refine below_alloc' ?_ ?_; ((try simp only [plus_size, World.size_alloc, World.size_drew, World.size_setCell, size_setRow, World.heap_drewN, List.length_append]) <;> omega)) | with_reducible refine Below.drew ?_ | (with_reducible refine below_drewN' ?_ _) | exact Below.refl _ _))⟩
      case round =>
        obtain ⟨j, hj, rfl, hr, hbel2⟩ := hrel
        obtain ⟨WR, hWR⟩ : ∃ x, x = wr := ⟨_, rfl⟩
        subst hWR
        have hsz2 := hbel2.size
        obtain ⟨tr, cr, rfl⟩ := hr.len
        rcases Nat.lt_or_ge j m with hjt | hge
        · have hjt1 : (j : Int) < (m : Int) := by omega
          have hbW : Below w.heap.size w WR := hbel.trans (hbel2.mono hbel.size)
          go_wp2
          obtain ⟨bs, hbs⟩ : ∃ b, b = WR.heap.size := ⟨_, rfl⟩
          rw [← hbs]
          have HBS := Lib.hid hbs
          clear hbs
          go_loopw [10] (fun s10 wr => ∃ (k : Nat) (v : Value), k ≤ m ∧ s10 = .int .i64 k ∧ Hid (wr.heap[bs]? = some (.cells #[.int .i64 (nf 9223372036854775808 (mmF A F G i j k)).1, v] 37)) ∧ Hid (own 2 wr 0 v (nf 9223372036854775808 (mmF A F G i j k)).2) ∧ Below WR.heap.size WR wr) (fun s10 _ => m - (intOf s10).toNat)
          case atStart => exact ⟨0, .slice none 0 0, by omega, rfl, Lib.hid (by rw [HBS.out, mmF_zero, nf_zero]; exact heap_alloc_last _ _), Lib.hid (by rw [mmF_zero, nf_zero]; exact own_nil _ _ _), by (repeat (first | (with_reducible exact Below.refl _ _) | (with_reducible assumption) | (with_reducible refine below_plus' ?_ ?_; ((try simp only [plus_size, World.size_alloc, World.size_drew, World.size_setCell, size_setRow, World.heap_drewN, List.length_append]) <;> omega)) | (with_reducible refine below_alloc' ?_ ?_; ((try simp only [plus_size, World.size_alloc, World.size_drew, World.size_setCell, size_setRow, World.heap_drewN, List.length_append]) <;> omega)) | with_reducible refine Below.drew ?_ | (with_reducible refine below_drewN' ?_ _) | exact Below.refl _ _))⟩
          case round =>
            obtain ⟨k, v, hk, rfl, HBX, HO, hbel3⟩ := hrel
            have hbx := HBX.out
            have ho := HO.out
            clear HBX HO
            obtain ⟨av, cv, rfl⟩ := readsL_form ho.reads
            have hbW3 : Below w.heap.size w wr := hbW.trans (hbel3.mono hbW.size)
            have hsz3 := hbel3.size
            rcases Nat.lt_or_ge k m with hkt | hge
            · have hkt1 : (k : Int) < (m : Int) := by omega
              obtain ⟨ba, rfl, hba, hra⟩ := HA.out.resolve_left (by omega)
              obtain ⟨bb, rfl, hbb, hrb⟩ := HB.out.resolve_left (by omega)
              obtain ⟨ra, rca, g1, hra1, g2⟩ := hra i hlt
              obtain ⟨sa, sca, g3, g4, g5⟩ := g2 k hkt
              obtain ⟨rb, rcb, q1, hrb1, q2⟩ := hrb k hkt
              obtain ⟨sb, scb, q3, q4, q5⟩ := q2 j hjt
              replace g1 := (hbW3.cell (p := ⟨ba, i, none⟩) hba).trans g1
              replace g3 := (hbW3.cell (p := ⟨ra, k * 2, none⟩) hra1).trans g3
              replace g4 := (hbW3.cell (p := ⟨ra, k * 2 + 1, none⟩) hra1).trans g4
              replace q1 := (hbW3.cell (p := ⟨bb, k, none⟩) hbb).trans q1
              replace q3 := (hbW3.cell (p := ⟨rb, j * 2, none⟩) hrb1).trans q3
              replace q4 := (hbW3.cell (p := ⟨rb, j * 2 + 1, none⟩) hrb1).trans q4
              replace g5 := g5.kept hbW3
              replace q5 := q5.kept hbW3
              have hba2 : ba < wr.heap.size := by have := hbW3.size; omega
              have hbb2 : bb < wr.heap.size := by have := hbW3.size; omega
              have hra2 : ra < wr.heap.size := by have := hbW3.size; omega
              have hrb2 : rb < wr.heap.size := by have := hbW3.size; omega
              have hbs2 := heap_lt hbx
              have o1 := nf_is (h := 9223372036854775808) (by decide) (HF.out i hlt k hkt)
              have o2 := nf_is (h := 9223372036854775808) (by decide) (HG.out k hkt j hjt)
              have o3 := sup_cvf (A := A) (f := F i k) (HG.out k hkt j hjt)
              have o4 := nf_is (h := 9223372036854775808) (by decide) o3
              have o5 := sup_mmF (A := A) (F := F) (i := i) HG.out hjt k (by omega)
              have o6 := nf_is (h := 9223372036854775808) (by decide) o5
              have HST := Lib.hid (mmF_succ A F G i j k)
              have HSK := Lib.hid (mmF_skip (k := k) HF.out HG.out hlt hjt hkt)
              have hM9 := sup_add 1 o5 o3
              have HTM := Lib.hid (fun w' (hb : Below wr.heap.size wr w') => l05Times_nf (nf 9223372036854775808 (F i k)).1 (.slice sa (nf 9223372036854775808 (F i k)).2.length sca) (nf 9223372036854775808 (F i k)).2 (nf 9223372036854775808 (G k j)).1 (.slice sb (nf 9223372036854775808 (G k j)).2.length scb) (nf 9223372036854775808 (G k j)).2 (F i k) (G k j) A B _ w' (g5.kept hb) (q5.kept hb) o1 o2 (by omega) (by omega) o3)
              have HAD := Lib.hid (fun w' v2 (hb : Below wr.heap.size wr w') (h2 : reads w' v2 (nf 9223372036854775808 (cvf A (F i k) (G k j))).2) => l05Add_nf 1 (nf 9223372036854775808 (mmF A F G i j k)).1 (.slice av (nf 9223372036854775808 (mmF A F G i j k)).2.length cv) (nf 9223372036854775808 (mmF A F G i j k)).2 (nf 9223372036854775808 (cvf A (F i k) (G k j))).1 v2 (nf 9223372036854775808 (cvf A (F i k) (G k j))).2 (mmF A F G i j k) (cvf A (F i k) (G k j)) (A + B) w' (ho.reads.kept hb) h2 o6 o4 hAB hM9)
              clear g2 q2 hra hrb o1 o2 o3 o4 o5 o6 hM9 g5 q5
              rw [← HST.out] at HAD
              generalize nf 9223372036854775808 (F i k) = P at *
              generalize nf 9223372036854775808 (G k j) = Q at *
              generalize nf 9223372036854775808 (cvf A (F i k) (G k j)) = Z at *
              obtain ⟨A2, hA2⟩ : ∃ A2, nf 9223372036854775808 (mmF A F G i j (k + 1)) = A2 := ⟨_, rfl⟩
              rw [hA2] at HAD HSK
              have HNX := Lib.hid hA2
              clear hA2
              generalize nf 9223372036854775808 (mmF A F G i j k) = Ak at *
              have d0 : wr.cell? ⟨bs, 0, none⟩ = some (.int .i64 Ak.1) := cell_of (i := 0) hbx
              have d1 : wr.cell? ⟨bs, 1, none⟩ = some (.slice av Ak.2.length cv) := cell_of (i := 1) hbx
              by_cases hla : P.2.length = 0
              · have hcmp : ¬ (0 : Int) < (P.2.length : Int) := by omega
                have HS2 := Lib.hid (HSK.out (.inl hla))
                clear hla
                go_wp2
                go_roundw
                case rel => exact ⟨k + 1, _, by omega, by go_num, Lib.hid (by rw [HNX.out, HS2.out]; exact hbx), Lib.hid (by rw [HNX.out, HS2.out]; exact ho), hbel3⟩
                case measure => simp [intOf]; omega
              · have hcmp : (0 : Int) < (P.2.length : Int) := by omega
                by_cases hlb : Q.2.length = 0
                · have hcmq : ¬ (0 : Int) < (Q.2.length : Int) := by omega
                  have HS2 := Lib.hid (HSK.out (.inr hlb))
                  clear hla hlb
                  go_wp2
                  go_roundw
                  case rel => exact ⟨k + 1, _, by omega, by go_num, Lib.hid (by rw [HNX.out, HS2.out]; exact hbx), Lib.hid (by rw [HNX.out, HS2.out]; exact ho), hbel3⟩
                  case measure => simp [intOf]; omega
                · have hcmq : (0 : Int) < (Q.2.length : Int) := by omega
                  clear hla hlb
                  go_upto_region 14 with (fail)
                  refine wp_plus0 ?_
                  refine region_ghostW (W := wr) [15, 16, 17] (by kernel_rfl) (by kernel_rfl) (by kernel_rfl) ?_
                  repeat (refine wpPlain_step (fun K hK => ?_); go_simp; first | (refine hK _ ?_; clear hK K) | (apply Exists.intro; refine ⟨fun _ => ?_, hK _ ?_⟩; (fail); clear hK K))
                  refine wpPlain_nil ?_
                  intro j1 d1
                  rw [plus_plus]
                  refine gchain_cons _ rfl ?_
                  go_wp2_with (first | (go_at_call 64; (with_reducible refine Calls.mono (HTM.out _ ?_) ?_); (repeat (first | (with_reducible exact Below.refl _ _) | (with_reducible assumption) | (with_reducible refine below_plus' ?_ ?_; ((try simp only [plus_size, World.size_alloc, World.size_drew, World.size_setCell, size_setRow, World.heap_drewN, List.length_append]) <;> omega)) | (with_reducible refine below_alloc' ?_ ?_; ((try simp only [plus_size, World.size_alloc, World.size_drew, World.size_setCell, size_setRow, World.heap_drewN, List.length_append]) <;> omega)) | with_reducible refine Below.drew ?_ | (with_reducible refine below_drewN' ?_ _) | exact Below.refl _ _)); intro e w1 hh; obtain ⟨vT, rfl, hBT, hoT⟩ := retB_form hh; clear hh; obtain ⟨aT, cT, rfl⟩ := readsL_form hoT.reads))
                  have hB1 : Below wr.heap.size wr w1 := Below.trans (show Below wr.heap.size wr _ by (repeat (first | (with_reducible exact Below.refl _ _) | (with_reducible assumption) | (with_reducible refine below_plus' ?_ ?_; ((try simp only [plus_size, World.size_alloc, World.size_drew, World.size_setCell, size_setRow, World.heap_drewN, List.length_append]) <;> omega)) | (with_reducible refine below_alloc' ?_ ?_; ((try simp only [plus_size, World.size_alloc, World.size_drew, World.size_setCell, size_setRow, World.heap_drewN, List.length_append]) <;> omega)) | with_reducible refine Below.drew ?_ | (with_reducible refine below_drewN' ?_ _) | exact Below.refl _ _))) (hBT.mono (by ((try simp only [plus_size, World.size_alloc, World.size_drew, World.size_setCell, size_setRow, World.heap_drewN, List.length_append]) <;> omega)))
                  refine gExit_normal ⟨.inr (later_of_below hB1), fun j2 d2 => ?_⟩
                  have hB2 : Below wr.heap.size wr (plus w1 j2 d2) := hB1.trans (show Below wr.heap.size w1 (plus w1 j2 d2) from (show Below w1.heap.size w1 (plus w1 j2 d2) by (repeat (first | (with_reducible exact Below.refl _ _) | (with_reducible assumption) | (with_reducible refine below_plus' ?_ ?_; ((try simp only [plus_size, World.size_alloc, World.size_drew, World.size_setCell, size_setRow, World.heap_drewN, List.length_append]) <;> omega)) | (with_reducible refine below_alloc' ?_ ?_; ((try simp only [plus_size, World.size_alloc, World.size_drew, World.size_setCell, size_setRow, World.heap_drewN, List.length_append]) <;> omega)) | with_reducible refine Below.drew ?_ | (with_reducible refine below_drewN' ?_ _) | exact Below.refl _ _))).mono hB1.size)
                  have hrT := hoT.reads.kept (show Below w1.heap.size w1 (plus w1 j2 d2) by (repeat (first | (with_reducible exact Below.refl _ _) | (with_reducible assumption) | (with_reducible refine below_plus' ?_ ?_; ((try simp only [plus_size, World.size_alloc, World.size_drew, World.size_setCell, size_setRow, World.heap_drewN, List.length_append]) <;> omega)) | (with_reducible refine below_alloc' ?_ ?_; ((try simp only [plus_size, World.size_alloc, World.size_drew, World.size_setCell, size_setRow, World.heap_drewN, List.length_append]) <;> omega)) | with_reducible refine Below.drew ?_ | (with_reducible refine below_drewN' ?_ _) | exact Below.refl _ _)))
                  clear hoT hBT
                  generalize plus w1 j2 d2 = WT at hB2 hrT ⊢
                  refine gchain_cons _ rfl ?_
                  go_wp2_with (first | (go_at_call 35; (with_reducible refine Calls.mono (HAD.out _ _ ?_ ?_) ?_); (exact hB2); (exact hrT); intro e w2 hh; obtain ⟨vS, rfl, hBS, hoS⟩ := retB_form hh; clear hh; obtain ⟨aS, cS, rfl⟩ := readsL_form hoS.reads))
                  have hB3 : Below wr.heap.size wr w2 := hB2.trans (hBS.mono hB2.size)
                  refine gExit_normal ⟨.inr (later_of_below hB3), fun j3 d3 => ?_⟩
                  have hB4 : Below w2.heap.size w2 (plus w2 j3 d3) := by (repeat (first | (with_reducible exact Below.refl _ _) | (with_reducible assumption) | (with_reducible refine below_plus' ?_ ?_; ((try simp only [plus_size, World.size_alloc, World.size_drew, World.size_setCell, size_setRow, World.heap_drewN, List.length_append]) <;> omega)) | (with_reducible refine below_alloc' ?_ ?_; ((try simp only [plus_size, World.size_alloc, World.size_drew, World.size_setCell, size_setRow, World.heap_drewN, List.length_append]) <;> omega)) | with_reducible refine Below.drew ?_ | (with_reducible refine below_drewN' ?_ _) | exact Below.refl _ _))
                  have hB5 : Below wr.heap.size wr (plus w2 j3 d3) := hB3.trans (hB4.mono hB3.size)
                  have hoS2 := (hoS.kept hB4).mono (Nat.zero_le _)
                  have hbx5 := (hB5.block bs hbs2).trans hbx
                  clear hoS hBS hB4 hB3
                  generalize plus w2 j3 d3 = WS at hB5 hoS2 hbx5 ⊢
                  have e0 := heap_lt hbx5
                  have e1 : WS.cell? ⟨bs, 0, none⟩ = some (.int .i64 Ak.1) := cell_of (i := 0) hbx5
                  have e2 : WS.cell? ⟨bs, 1, none⟩ = some (.slice av Ak.2.length cv) := cell_of (i := 1) hbx5
                  have e3 := frozen_of_row WS bs 0 _ _ hbx5
                  have e4 := frozen_of_row WS bs 1 _ _ hbx5
                  refine gchain_cons _ rfl ?_
                  go_wp2
                  refine gExit_normal ⟨.inl (by kernel_rfl), fun j4 d4 => ?_⟩
                  refine gchain_nil ?_
                  have h1 := heap_setCell_same WS bs 0 _ _ (.int .i64 A2.1) hbx5
                  have h2 := heap_setCell_same _ bs 1 _ _ (.slice aS A2.2.length cS) h1
                  have gg := grownBy_trans (grownBy_setCell WS bs 0 (.int .i64 A2.1)) (grownBy_setCell (WS.setCell ⟨bs, 0, none⟩ (.int .i64 A2.1)) bs 1 (.slice aS A2.2.length cS))
                  have ho6 := Co_block (e := 2) (by decide) hbx5 gg _ _ hoS2
                  have hb6 : Below WR.heap.size WR _ := (hbel3.trans (hB5.mono hbel3.size)).trans (below_of_grown gg (Nat.le_trans hbel3.size hB5.size) (fun q hq => by cases hq; have := HBS.out; omega))
                  have hbx6 : ((WS.setCell ⟨bs, 0, none⟩ (.int .i64 A2.1)).setCell ⟨bs, 1, none⟩ (.slice aS A2.2.length cS)).heap[bs]? = some (.cells #[.int .i64 A2.1, .slice aS A2.2.length cS] 37) := by rw [h2]; simp
                  clear h1 h2 gg hoS2 hbx5 e0 e1 e2 e3 e4 hB5 hrT hB2
                  generalize (World.setCell (World.setCell WS _ _) _ _) = WY at ho6 hb6 hbx6 ⊢
                  have hb7 : Below WY.heap.size WY (plus WY j4 d4) := by (repeat (first | (with_reducible exact Below.refl _ _) | (with_reducible assumption) | (with_reducible refine below_plus' ?_ ?_; ((try simp only [plus_size, World.size_alloc, World.size_drew, World.size_setCell, size_setRow, World.heap_drewN, List.length_append]) <;> omega)) | (with_reducible refine below_alloc' ?_ ?_; ((try simp only [plus_size, World.size_alloc, World.size_drew, World.size_setCell, size_setRow, World.heap_drewN, List.length_append]) <;> omega)) | with_reducible refine Below.drew ?_ | (with_reducible refine below_drewN' ?_ _) | exact Below.refl _ _))
                  replace ho6 : own 2 (plus WY j4 d4) 0 _ _ := own.kept ho6 hb7
                  have hbx7 := (hb7.block bs (heap_lt hbx6)).trans hbx6
                  replace hb6 := hb6.trans (hb7.mono hb6.size)
                  clear hbx6 hb7
                  generalize plus WY j4 d4 = WZ at ho6 hb6 hbx7 ⊢
                  go_wp2
                  go_roundw
                  case rel => exact ⟨k + 1, _, by omega, by go_num, Lib.hid (by rw [HNX.out]; exact hbx7), Lib.hid (by rw [HNX.out]; exact ho6), hb6⟩
                  case measure => simp [intOf]; omega
            · obtain rfl : m = k := by omega
              have hge1 : ¬ ((m : Int) < (m : Int)) := by omega
              have d0 : wr.cell? ⟨bs, 0, none⟩ = some (.int .i64 (nf 9223372036854775808 (mmF A F G i j m)).1) := cell_of (i := 0) hbx
              have d1 : wr.cell? ⟨bs, 1, none⟩ = some (.slice av (nf 9223372036854775808 (mmF A F G i j m)).2.length cv) := cell_of (i := 1) hbx
              have hbs2 := heap_lt hbx
              have hr3 := hr.keep hbel3
              go_wp2_with (first | (at_builtin; go_loud (refine wpList_appendPol rfl _ _ 50 rfl 37 Try.underlying50 infoLt (Co 2) WO.heap.size (.slice tr (plL j fun y => nf 9223372036854775808 (mmF A F G i y m)).length cr) (plL j fun y => nf 9223372036854775808 (mmF A F G i y m)) rfl _ 1 rfl (nf 9223372036854775808 (mmF A F G i j m)).1 (.slice av (nf 9223372036854775808 (mmF A F G i j m)).2.length cv) (nf 9223372036854775808 (mmF A F G i j m)).2 rfl (by rw [World.cell?_alloc_at _ _ _ _ (by ((try simp only [plus_size, World.size_alloc, World.size_drew, World.size_setCell, size_setRow, World.heap_drewN, List.length_append]) <;> omega))]; rfl) (by rw [World.cell?_alloc_at _ _ _ _ (by ((try simp only [plus_size, World.size_alloc, World.size_drew, World.size_setCell, size_setRow, World.heap_drewN, List.length_append]) <;> omega))]; rfl) (hr3.keep (by (repeat (first | (with_reducible exact Below.refl _ _) | (with_reducible assumption) | (with_reducible refine below_plus' ?_ ?_; ((try simp only [plus_size, World.size_alloc, World.size_drew, World.size_setCell, size_setRow, World.heap_drewN, List.length_append]) <;> omega)) | (with_reducible refine below_alloc' ?_ ?_; ((try simp only [plus_size, World.size_alloc, World.size_drew, World.size_setCell, size_setRow, World.heap_drewN, List.length_append]) <;> omega)) | with_reducible refine Below.drew ?_ | (with_reducible refine below_drewN' ?_ _) | exact Below.refl _ _)))) (own.kept ho (by (repeat (first | (with_reducible exact Below.refl _ _) | (with_reducible assumption) | (with_reducible refine below_plus' ?_ ?_; ((try simp only [plus_size, World.size_alloc, World.size_drew, World.size_setCell, size_setRow, World.heap_drewN, List.length_append]) <;> omega)) | (with_reducible refine below_alloc' ?_ ?_; ((try simp only [plus_size, World.size_alloc, World.size_drew, World.size_setCell, size_setRow, World.heap_drewN, List.length_append]) <;> omega)) | with_reducible refine Below.drew ?_ | (with_reducible refine below_drewN' ?_ _) | exact Below.refl _ _)))) (fun w' x ys hg => Co_row (by decide) (hr3.keep (by (repeat (first | (with_reducible exact Below.refl _ _) | (with_reducible assumption) | (with_reducible refine below_plus' ?_ ?_; ((try simp only [plus_size, World.size_alloc, World.size_drew, World.size_setCell, size_setRow, World.heap_drewN, List.length_append]) <;> omega)) | (with_reducible refine below_alloc' ?_ ?_; ((try simp only [plus_size, World.size_alloc, World.size_drew, World.size_setCell, size_setRow, World.heap_drewN, List.length_append]) <;> omega)) | with_reducible refine Below.drew ?_ | (with_reducible refine below_drewN' ?_ _) | exact Below.refl _ _)))) hg x ys) (by rw [plL_length]; omega) (by ((try simp only [plus_size, World.size_alloc, World.size_drew, World.size_setCell, size_setRow, World.heap_drewN, List.length_append]) <;> omega)) ?_); intro v' w' hr' hB' hg'))
              go_roundw
              case rel => exact ⟨j + 1, by omega, by go_num, by rw [← plL_succ]; exact hr', Below.trans (hbel2.trans ((hbel3.mono hbel2.size).trans (show Below WO.heap.size wr _ from (show Below wr.heap.size wr (wr.alloc _) by (repeat (first | (with_reducible exact Below.refl _ _) | (with_reducible assumption) | (with_reducible refine below_plus' ?_ ?_; ((try simp only [plus_size, World.size_alloc, World.size_drew, World.size_setCell, size_setRow, World.heap_drewN, List.length_append]) <;> omega)) | (with_reducible refine below_alloc' ?_ ?_; ((try simp only [plus_size, World.size_alloc, World.size_drew, World.size_setCell, size_setRow, World.heap_drewN, List.length_append]) <;> omega)) | with_reducible refine Below.drew ?_ | (with_reducible refine below_drewN' ?_ _) | exact Below.refl _ _))).mono (by omega)))) hB'⟩
              case measure => simp [intOf]; omega
        · obtain rfl : m = j := by omega
          have hge1 : ¬ ((m : Int) < (m : Int)) := by omega
          have ht3 := ht.keep hbel2
          go_wp2_with (first | (at_builtin; go_loud (refine wpList_appendTab rfl _ _ 26 rfl 50 37 Try.underlying26 infoLS (by decide) (Co 2) w.heap.size (.slice ta (plT m i (nfM 9223372036854775808 fun x y => mmF A F G x y m)).length co) (plT m i (nfM 9223372036854775808 fun x y => mmF A F G x y m)) rfl _ rfl ((.slice tr (plL m (fun y => nf 9223372036854775808 (mmF A F G i y m))).length cr)) (plL m (fun y => nf 9223372036854775808 (mmF A F G i y m))) (by rw [World.cell?_alloc_at _ _ _ _ (by ((try simp only [plus_size, World.size_alloc, World.size_drew, World.size_setCell, size_setRow, World.heap_drewN, List.length_append]) <;> omega))]; rfl) (ht3.keep (by (repeat (first | (with_reducible exact Below.refl _ _) | (with_reducible assumption) | (with_reducible refine below_plus' ?_ ?_; ((try simp only [plus_size, World.size_alloc, World.size_drew, World.size_setCell, size_setRow, World.heap_drewN, List.length_append]) <;> omega)) | (with_reducible refine below_alloc' ?_ ?_; ((try simp only [plus_size, World.size_alloc, World.size_drew, World.size_setCell, size_setRow, World.heap_drewN, List.length_append]) <;> omega)) | with_reducible refine Below.drew ?_ | (with_reducible refine below_drewN' ?_ _) | exact Below.refl _ _)))) ((hr.keep (by (repeat (first | (with_reducible exact Below.refl _ _) | (with_reducible assumption) | (with_reducible refine below_plus' ?_ ?_; ((try simp only [plus_size, World.size_alloc, World.size_drew, World.size_setCell, size_setRow, World.heap_drewN, List.length_append]) <;> omega)) | (with_reducible refine below_alloc' ?_ ?_; ((try simp only [plus_size, World.size_alloc, World.size_drew, World.size_setCell, size_setRow, World.heap_drewN, List.length_append]) <;> omega)) | with_reducible refine Below.drew ?_ | (with_reducible refine below_drewN' ?_ _) | exact Below.refl _ _)))).mono hbel.size (fun x xs h => h)) (tabG_far2 ht (fun k hk => (hr.lt k hk).1) (fun vs hvs => row_back (Below.trans hbel2 ((show Below WR.heap.size WR _ by (repeat (first | (with_reducible exact Below.refl _ _) | (with_reducible assumption) | (with_reducible refine below_plus' ?_ ?_; ((try simp only [plus_size, World.size_alloc, World.size_drew, World.size_setCell, size_setRow, World.heap_drewN, List.length_append]) <;> omega)) | (with_reducible refine below_alloc' ?_ ?_; ((try simp only [plus_size, World.size_alloc, World.size_drew, World.size_setCell, size_setRow, World.heap_drewN, List.length_append]) <;> omega)) | with_reducible refine Below.drew ?_ | (with_reducible refine below_drewN' ?_ _) | exact Below.refl _ _))).mono hsz2)) (fun k hk => (ht.lt k hk).2) hvs)) (fun w' x ys hg => Co_tab (by decide) (ht3.keep (by (repeat (first | (with_reducible exact Below.refl _ _) | (with_reducible assumption) | (with_reducible refine below_plus' ?_ ?_; ((try simp only [plus_size, World.size_alloc, World.size_drew, World.size_setCell, size_setRow, World.heap_drewN, List.length_append]) <;> omega)) | (with_reducible refine below_alloc' ?_ ?_; ((try simp only [plus_size, World.size_alloc, World.size_drew, World.size_setCell, size_setRow, World.heap_drewN, List.length_append]) <;> omega)) | with_reducible refine Below.drew ?_ | (with_reducible refine below_drewN' ?_ _) | exact Below.refl _ _)))) hg x ys) (by rw [plT_length]; omega) (by ((try simp only [plus_size, World.size_alloc, World.size_drew, World.size_setCell, size_setRow, World.heap_drewN, List.length_append]) <;> omega)) ?_; intro v' w' ht' hg' hB')))
          go_roundw
          case rel => exact ⟨i + 1, by omega, by go_num, by rw [← plT_succ]; exact ht', Below.trans (hbel.trans ((hbel2.mono hbel.size).trans ((show Below WR.heap.size WR (WR.alloc _) by (repeat (first | (with_reducible exact Below.refl _ _) | (with_reducible assumption) | (with_reducible refine below_plus' ?_ ?_; ((try simp only [plus_size, World.size_alloc, World.size_drew, World.size_setCell, size_setRow, World.heap_drewN, List.length_append]) <;> omega)) | (with_reducible refine below_alloc' ?_ ?_; ((try simp only [plus_size, World.size_alloc, World.size_drew, World.size_setCell, size_setRow, World.heap_drewN, List.length_append]) <;> omega)) | with_reducible refine Below.drew ?_ | (with_reducible refine below_drewN' ?_ _) | exact Below.refl _ _))).mono (by omega)))) hB'⟩
          case measure => simp [intOf]; omega
    · obtain rfl : m = i := by omega
      have hge1 : ¬ ((m : Int) < (m : Int)) := by omega
      go_wp2
      go_ret
      exact ⟨_, rfl, hbel, ht⟩
end Go.Proofs.Ytikakoclmmmjdaa
