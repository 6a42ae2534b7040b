/- The unit matrix of polynomials, by the reference. Conditions: as each theorem says. -/
import Derived.Test.YtikakoclmmmjdaaMc
import Derived.Test.YtikakoclmmmjdaaMd
namespace Go.Proofs.Ytikakoclmmmjdaa
open Go.RowKit
set_option linter.unusedSimpArgs false
set_option linter.unusedVariables false
open Go.RowKit
theorem infoLS : (Try.prog.info? 50).map (fun i => (i.zero, i.size, i.bytes)) = some (some (.slice none 0 0), 1, 24) := by kernel_rfl
theorem infoLt : (Try.prog.info? 37).map (fun i => (i.zero, i.size, i.bytes)) = some (some (.agg #[.int .i64 0, .slice none 0 0]), 2, 32) := by kernel_rfl
theorem infoLt2 : (Try.prog.info? 37).map (·.size) = some 2 := by kernel_rfl
theorem pol_one (l : Int) (a : Option Addr) (n c : Nat) : (#[.int .i64 l, .slice a n c] : Array Value).all (·.oneCell') = true := by simp [Value.oneCell']
theorem at_le {B g : Nat} (h : B ≤ g) : ∀ k, some g = some k → B ≤ k := fun k e => by cases e; exact h
/-- the polynomials of a function of two places -/
def plL (m : Nat) (f : Nat → Pol) : List Pol := (List.range m).map f
def plT (m k : Nat) (F : Nat → Nat → Pol) : List (List Pol) := (List.range k).map fun i => plL m (F i)
theorem plL_length (m f) : (plL m f).length = m := by simp [plL]
theorem plT_length (m k F) : (plT m k F).length = k := by simp [plT]
theorem pAt_plL {m f i} (h : i < m) : pAt (plL m f) i = f i := by simp [pAt, plL, h]
theorem prow_plT {m k F i} (h : i < k) : prow (plT m k F) i = plL m (F i) := by simp [prow, plT, h]
theorem plT_succ (m k F) : plT m k F ++ [plL m (F k)] = plT m (k + 1) F := by simp [plT, List.range_succ]
theorem plL_succ (k f) : plL k f ++ [f k] = plL (k + 1) f := by simp [plL, List.range_succ]
theorem plL_zero (m : Nat) : List.replicate m ((0 : Int), ([] : List Int)) = plL m (fun _ => (0, [])) := by
  apply List.ext_getElem (by simp [plL])
  intro i h1 h2
  simp [plL]
def updP (f : Nat → Pol) (i : Nat) (q : Pol) : Nat → Pol := fun j => if j = i then q else f j
theorem plL_set {m f i} (q : Pol) : (plL m f).set i q = plL m (updP f i q) := by
  apply List.ext_getElem (by simp [plL])
  intro j h1 h2
  rw [List.getElem_set]
  by_cases e : i = j
  · subst e; simp [plL, updP]
  · have : ¬ j = i := fun h => e h.symm
    simp [plL, updP, e, this]
theorem plL_ext {m : Nat} {f g : Nat → Pol} (h : ∀ i, i < m → f i = g i) : plL m f = plL m g := by
  unfold plL
  apply List.map_congr_left
  intro i hi
  exact h i (by simpa using hi)
def setT (F : Nat → Nat → Pol) (i : Nat) (g : Nat → Pol) : Nat → Nat → Pol := fun a => if a = i then g else F a
theorem plT_set {m k F i g} : (plT m k F).set i (plL m g) = plT m k (setT F i g) := by
  apply List.ext_getElem (by simp [plT])
  intro j h1 h2
  rw [List.getElem_set]
  by_cases e : i = j
  · subst e; simp [plT, setT]
  · have : ¬ j = i := fun h => e h.symm
    simp [plT, setT, e, this]
/-- the unit matrix -/
def unitP : Nat → Nat → Pol := fun i j => if j = i then (0, [1]) else (0, [])
theorem unitP_row (m k : Nat) : (plL m (fun _ => (0, []))).set k (0, [1]) = plL m (unitP k) := by
  rw [plL_set]; rfl
theorem tabG_far {S T : TypeId} {C : Cont} {w w0 : World} {B b n c : Nat} {v : Value} {M : List (List Pol)} (h : tabG S T C w0 B v M) (hb : w0.heap.size ≤ b) (hm : ∀ vs : List Value, w.ownsRow B S 1 v M.length vs → w0.ownsRow B S 1 v M.length vs) : ∀ k, (Value.slice (some ⟨b, 0, none⟩) n c).ownBlock = some k → ∀ vs : List Value, w.ownsRow B S 1 v M.length vs → ∀ i, i < M.length → (slot vs i).ownBlock ≠ some k := by
  intro k hk vs hvs i hi he
  have := h.rows_lt (hm vs hvs) i hi k he
  have e : b = k := by simpa [Value.ownBlock] using hk
  omega
/-- what a function answers that hands a table of polynomials back -/
def RetTabP (S T e : TypeId) (w : World) (M : List (List Pol)) : Ending → World → Prop := fun en w' => ∃ v, en = .returned v ∧ Below w.heap.size w w' ∧ tabG S T (Co e) w' w.heap.size v M
set_option maxHeartbeats 1000000 in
theorem l05Unit_any (m : Nat) (w : World) (h8 : m ≤ 8) : Calls Try.prog 42 #[.int .i64 m] w (RetTabP 50 37 2 w (plT m m unitP)) := by
  go_enter Try.func42, Try.ntmps42
  go_wp2
  go_loopw [3, 4] (fun vo sl wr => ∃ (k : Nat), k ≤ m ∧ sl = .int .i64 k ∧ Below w.heap.size w wr ∧ tabG 50 37 (Co 2) wr w.heap.size vo (plT m k unitP)) (fun _ sl _ => m - (intOf sl).toNat)
  case atStart => exact ⟨0, by omega, rfl, by (repeat (first | (with_reducible exact Below.refl _ _) | (with_reducible assumption) | (with_reducible refine below_plus' ?_ ?_; ((try simp only [plus_size, World.size_alloc, World.size_drew, World.size_setCell, size_setRow, World.heap_drewN, List.length_append]) <;> omega)) | (with_reducible refine below_alloc' ?_ ?_; ((try simp only [plus_size, World.size_alloc, World.size_drew, World.size_setCell, size_setRow, World.heap_drewN, List.length_append]) <;> omega)) | with_reducible refine Below.drew ?_ | (with_reducible refine below_drewN' ?_ _) | exact Below.refl _ _)), tabG_made rfl (Nat.le_refl _) (by decide) rfl⟩
  case round =>
    obtain ⟨k, hk, rfl, hbel, ht⟩ := hrel
    have hsz0 := hbel.size
    by_cases hlt : k < m
    · obtain ⟨a, c, rfl⟩ := ht.len
      go_wp2_with (first | (at_make; go_loud (refine wpList_make_pols _ rfl _ _ 50 rfl 37 Try.underlying50 infoLt m rfl rfl (by omega) (Co 2) (Co_nil _) ?_); intro w1 hr1 hB1 hgX; clear hgX)
                                        | (go_at_call 63; go_loud ((with_reducible refine Calls.mono (l05Term_any (1) (0) _ (by decide) (by decide) (by decide)) ?_); rintro e w2 ⟨v2, rfl, hB2, ho2⟩; obtain ⟨a2, c2, rfl⟩ := readsL_form ho2.reads; obtain ⟨cur, hcur, hsz, hgr, hput⟩ := (hr1.keep hB2).put (t := k) (by rw [List.length_replicate]; exact hlt) 0 (.slice a2 1 c2) [1]; have hC3 := Co_block (e := 2) (by decide) hcur hgr; have hr3 := hput hC3 (hC3 _ _ (ho2.mono (Nat.zero_le _))); rw [plL_zero, unitP_row] at hr3; have hB3 : Below wr.heap.size wr _ := hB1.trans ((hB2.mono hB1.size).trans (below_of_grown hgr (Nat.le_trans hB1.size hB2.size) (at_le (Nat.le_refl _))))))
                                        | ((with_reducible apply wpList_store_sub rfl rfl 37 _ _ rfl (wr.heap.size) (k * 2) rfl _ rfl cur 37); (exact hcur); (exact infoLt2); (exact hsz); (exact pol_one _ _ _ _); revert hr3 hB3; generalize (World.setRow _ _ _) = w3; intro hr3 hB3; have ht3 := ht.keep hB3; have hz3 := hB3.size; have hbel3 := hbel.trans (hB3.mono hsz0); clear hput hC3 hgr hcur hsz)
                                        | (at_builtin; go_loud (refine wpList_appendTab rfl _ _ 26 rfl 50 37 Try.underlying26 infoLS (by decide) (Co 2) w.heap.size (.slice a (plT m k unitP).length c) ((plT m k unitP)) rfl _ rfl ((.slice (some ⟨wr.heap.size, 0, none⟩) m m)) ((plL m (unitP k))) (by rw [World.cell?_alloc_at _ _ _ _ (by ((try simp only [plus_size, World.size_alloc, World.size_drew, World.size_setCell, size_setRow, World.heap_drewN, List.length_append]) <;> omega))]; rfl) (ht3.keep (by (repeat (first | (with_reducible exact Below.refl _ _) | (with_reducible assumption) | (with_reducible refine below_plus' ?_ ?_; ((try simp only [plus_size, World.size_alloc, World.size_drew, World.size_setCell, size_setRow, World.heap_drewN, List.length_append]) <;> omega)) | (with_reducible refine below_alloc' ?_ ?_; ((try simp only [plus_size, World.size_alloc, World.size_drew, World.size_setCell, size_setRow, World.heap_drewN, List.length_append]) <;> omega)) | with_reducible refine Below.drew ?_ | (with_reducible refine below_drewN' ?_ _) | exact Below.refl _ _)))) ((hr3.keep (by (repeat (first | (with_reducible exact Below.refl _ _) | (with_reducible assumption) | (with_reducible refine below_plus' ?_ ?_; ((try simp only [plus_size, World.size_alloc, World.size_drew, World.size_setCell, size_setRow, World.heap_drewN, List.length_append]) <;> omega)) | (with_reducible refine below_alloc' ?_ ?_; ((try simp only [plus_size, World.size_alloc, World.size_drew, World.size_setCell, size_setRow, World.heap_drewN, List.length_append]) <;> omega)) | with_reducible refine Below.drew ?_ | (with_reducible refine below_drewN' ?_ _) | exact Below.refl _ _)))).mono hbel.size (fun x xs h => h)) (tabG_far ht (Nat.le_refl _) (fun vs hvs => row_back (by (repeat (first | (with_reducible exact Below.refl _ _) | (with_reducible assumption) | (with_reducible refine below_plus' ?_ ?_; ((try simp only [plus_size, World.size_alloc, World.size_drew, World.size_setCell, size_setRow, World.heap_drewN, List.length_append]) <;> omega)) | (with_reducible refine below_alloc' ?_ ?_; ((try simp only [plus_size, World.size_alloc, World.size_drew, World.size_setCell, size_setRow, World.heap_drewN, List.length_append]) <;> omega)) | with_reducible refine Below.drew ?_ | (with_reducible refine below_drewN' ?_ _) | exact Below.refl _ _))) (fun k hk => (ht.lt k hk).2) hvs)) (fun w' x ys hg => Co_tab (by decide) (ht3.keep (by (repeat (first | (with_reducible exact Below.refl _ _) | (with_reducible assumption) | (with_reducible refine below_plus' ?_ ?_; ((try simp only [plus_size, World.size_alloc, World.size_drew, World.size_setCell, size_setRow, World.heap_drewN, List.length_append]) <;> omega)) | (with_reducible refine below_alloc' ?_ ?_; ((try simp only [plus_size, World.size_alloc, World.size_drew, World.size_setCell, size_setRow, World.heap_drewN, List.length_append]) <;> omega)) | with_reducible refine Below.drew ?_ | (with_reducible refine below_drewN' ?_ _) | exact Below.refl _ _)))) hg x ys) (by rw [plT_length]; omega) (by ((try simp only [plus_size, World.size_alloc, World.size_drew, World.size_setCell, size_setRow, World.heap_drewN, List.length_append]) <;> omega)) ?_; intro v' w' ht' hg' hB')))
      go_roundw
      case rel => exact ⟨k + 1, by omega, by go_num, Below.trans (show Below w.heap.size w _ by (repeat (first | (with_reducible exact Below.refl _ _) | (with_reducible assumption) | (with_reducible refine below_plus' ?_ ?_; ((try simp only [plus_size, World.size_alloc, World.size_drew, World.size_setCell, size_setRow, World.heap_drewN, List.length_append]) <;> omega)) | (with_reducible refine below_alloc' ?_ ?_; ((try simp only [plus_size, World.size_alloc, World.size_drew, World.size_setCell, size_setRow, World.heap_drewN, List.length_append]) <;> omega)) | with_reducible refine Below.drew ?_ | (with_reducible refine below_drewN' ?_ _) | exact Below.refl _ _))) hB', by rw [← plT_succ]; exact ht'⟩
      case measure => simp [intOf]; omega
    · obtain rfl : m = k := by omega
      go_wp2
      go_ret
      exact ⟨_, rfl, hbel, ht⟩
end Go.Proofs.Ytikakoclmmmjdaa
