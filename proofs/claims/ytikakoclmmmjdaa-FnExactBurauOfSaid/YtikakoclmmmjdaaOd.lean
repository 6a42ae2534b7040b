/- The program's unit matrix of polynomials. Conditions: as each theorem says. -/
import Derived.Test.YtikakoclmmmjdaaOc
import Derived.Test.YtikakoclmmmjdaaYb
namespace Go.Proofs.Ytikakoclmmmjdaa
open Go.RowKit
set_option linter.unusedSimpArgs false
set_option linter.unusedVariables false
open Go.RowKit
def Cw (e : TypeId) : Cont := fun w v xs => rdW e w v xs
theorem Cw_nil (e : TypeId) : ∀ w, Cw e w (.slice none 0 0) [] := fun w => rdW_nil e w
theorem Cw_below {e : TypeId} {w w' : World} (hb : Below w.heap.size w w') : ∀ x xs, Cw e w x xs → Cw e w' x xs := fun _ _ h => rdW.kept h hb
theorem Cw_block {e T : TypeId} {w w' : World} {k : Nat} {c : Array Value} (hT : T ≠ e) (hk : w.heap[k]? = some (.cells c T (0, 0))) (hg : w.grownBy w' (some k)) : ∀ x xs, Cw e w x xs → Cw e w' x xs := fun _ _ h => rdW.block hT hk hg h
theorem rdW.none {e : TypeId} {w w' : World} (hg : w.grownBy w' none) {v : Value} {xs : List Int} (h : rdW e w v xs) : rdW e w' v xs := by
  obtain ⟨a, cp, hv, h⟩ := h
  refine ⟨a, cp, hv, h.imp id ?_⟩
  rintro ⟨b, o, ha, ⟨cur, hb⟩, hc⟩
  have e1 : w'.heap[b]? = w.heap[b]? := hg.block b (lt_of_block hb) (fun e => by cases e)
  refine ⟨b, o, ha, ⟨cur, e1.trans hb⟩, fun i hi j hj => ?_⟩
  have := hc i hi j hj
  simp only [World.cell?] at this ⊢
  rw [e1]; exact this
theorem Cw_row {e T : TypeId} {C : Cont} {w w' : World} {B : Nat} {v : Value} {ps : List Pol} (hT : T ≠ e) (h : rowG T C w B v ps) (hg : w.grownBy w' v.ownBlock) : ∀ x xs, Cw e w x xs → Cw e w' x xs := by
  cases hv : v.ownBlock with
  | none => rw [hv] at hg; exact fun x xs h => rdW.none hg h
  | some k => obtain ⟨c, hk⟩ := h.block hv; rw [hv] at hg; exact Cw_block hT hk hg
theorem Cw_tab {e S T : TypeId} {C : Cont} {w w' : World} {B : Nat} {v : Value} {M : List (List Pol)} (hS : S ≠ e) (h : tabG S T C w B v M) (hg : w.grownBy w' v.ownBlock) : ∀ x xs, Cw e w x xs → Cw e w' x xs := by
  cases hv : v.ownBlock with
  | none => rw [hv] at hg; exact fun x xs h => rdW.none hg h
  | some k => obtain ⟨c, hk⟩ := h.block hv; rw [hv] at hg; exact Cw_block hS hk hg
theorem rowG.keepW {T e : TypeId} {w w' : World} {B : Nat} {v : Value} {ps : List Pol} (h : rowG T (Cw e) w B v ps) (hb : Below w.heap.size w w') : rowG T (Cw e) w' B v ps := h.below hb (Cw_below hb)
theorem tabG.keepW {S T e : TypeId} {w w' : World} {B : Nat} {v : Value} {M : List (List Pol)} (h : tabG S T (Cw e) w B v M) (hb : Below w.heap.size w w') : tabG S T (Cw e) w' B v M := h.below hb (Cw_below hb)
/-- what a function answers that hands a table of polynomials modulo 2^256 back -/
def RetTabW (S T e : TypeId) (w : World) (M : List (List Pol)) : Ending → World → Prop := fun en w' => ∃ v, en = .returned v ∧ Below w.heap.size w w' ∧ tabG S T (Cw e) w' w.heap.size v M
theorem own_one9 {e : TypeId} {w : World} {B b : Nat} {x : Int} (hb : b = w.heap.size) (hB : B ≤ w.heap.size) : own e (w.alloc (.cells #[.int .i64 x] e)) B (.slice (some ⟨b, 0, none⟩) 1 1) [x] := by
  subst hb
  exact ⟨rfl, .inr ⟨w.heap.size, 1, _, rfl, hB, heap_alloc_last _ _, by simp, by decide, rfl, rfl⟩⟩
theorem infoPS : (Try.prog.info? 70).map (fun i => (i.zero, i.size, i.bytes)) = some (some (.slice none 0 0), 1, 24) := by kernel_rfl
theorem infoPt : (Try.prog.info? 57).map (fun i => (i.zero, i.size, i.bytes)) = some (some (.agg #[.int .i64 0, .slice none 0 0]), 2, 32) := by kernel_rfl
theorem infoPt2 : (Try.prog.info? 57).map (·.size) = some 2 := by kernel_rfl
theorem fits_one : Fits [1] := fun x hx => by simp at hx; subst hx; decide
set_option maxHeartbeats 1000000 in
theorem unitRows_any (m : Nat) (w : World) (h8 : m ≤ 8) : Calls Try.prog 49 #[.int .i64 m] w (RetTabW 70 57 78 w (plT m m unitP)) := by
  go_enter Try.func49, Try.ntmps49
  go_wp2
  go_loopw [3, 8] (fun vo sl wr => ∃ (k : Nat), k ≤ m ∧ sl = .int .i64 k ∧ Below w.heap.size w wr ∧ tabG 70 57 (Cw 78) wr w.heap.size vo (plT m k unitP)) (fun _ sl _ => m - (intOf sl).toNat)
  case atStart => exact ⟨0, by omega, rfl, by (repeat (first | (with_reducible exact Below.refl _ _) | (with_reducible assumption) | (with_reducible refine below_plus' ?_ ?_; ((try simp only [plus_size, World.size_alloc, World.size_drew, World.size_setCell, size_setRow, World.heap_drewN, List.length_append]) <;> omega)) | (with_reducible refine below_alloc' ?_ ?_; ((try simp only [plus_size, World.size_alloc, World.size_drew, World.size_setCell, size_setRow, World.heap_drewN, List.length_append]) <;> omega)) | with_reducible refine Below.drew ?_ | (with_reducible refine below_drewN' ?_ _) | exact Below.refl _ _)), tabG_made rfl (Nat.le_refl _) (by decide) rfl⟩
  case round =>
    obtain ⟨k, hk, rfl, hbel, ht⟩ := hrel
    have hsz0 := hbel.size
    by_cases hlt : k < m
    · obtain ⟨a, c, rfl⟩ := ht.len
      go_wp2_with (first | (at_make; go_loud (refine wpList_make_pols _ rfl _ _ 70 rfl 57 Try.underlying70 infoPt m rfl rfl (by omega) (Cw 78) (Cw_nil _) ?_); intro w1 hr1 hB1 hgX; clear hgX)
                                        | (go_at_call 38; go_loud ((with_reducible refine Calls.mono (polyOf_any 0 _ [1] _ (own.reads (own_one9 (B := 0) rfl (Nat.zero_le _))) (by decide) fits_one) ?_); rintro e w2 ⟨v2, rfl, hB2, ho2⟩; obtain ⟨a2, c2, rfl⟩ := rdW_form ho2.typed; have hB2 : Below w1.heap.size w1 w2 := Below.trans (show Below w1.heap.size w1 _ by (repeat (first | (with_reducible exact Below.refl _ _) | (with_reducible assumption) | (with_reducible refine below_plus' ?_ ?_; ((try simp only [plus_size, World.size_alloc, World.size_drew, World.size_setCell, size_setRow, World.heap_drewN, List.length_append]) <;> omega)) | (with_reducible refine below_alloc' ?_ ?_; ((try simp only [plus_size, World.size_alloc, World.size_drew, World.size_setCell, size_setRow, World.heap_drewN, List.length_append]) <;> omega)) | with_reducible refine Below.drew ?_ | (with_reducible refine below_drewN' ?_ _) | exact Below.refl _ _))) (hB2.mono (by ((try simp only [plus_size, World.size_alloc, World.size_drew, World.size_setCell, size_setRow, World.heap_drewN, List.length_append]) <;> omega))); obtain ⟨cur, hcur, hsz, hgr, hput⟩ := (hr1.keepW hB2).put (t := k) (by rw [List.length_replicate]; exact hlt) 0 (.slice a2 1 c2) [1]; have hC3 := Cw_block (e := 78) (by decide) hcur hgr; have hr3 := hput hC3 (hC3 _ _ ho2.typed); rw [plL_zero, unitP_row] at hr3; have hB3 : Below wr.heap.size wr _ := hB1.trans ((hB2.mono hB1.size).trans (below_of_grown hgr (Nat.le_trans hB1.size hB2.size) (at_le (Nat.le_refl _))))))
                                        | ((with_reducible apply wpList_store_sub rfl rfl 57 _ _ rfl (wr.heap.size) (k * 2) rfl _ rfl cur 57); (exact hcur); (exact infoPt2); (exact hsz); (exact pol_one _ _ _ _); revert hr3 hB3; generalize (World.setRow _ _ _) = w3; intro hr3 hB3; have ht3 := ht.keepW hB3; have hz3 := hB3.size; have hbel3 := hbel.trans (hB3.mono hsz0); clear hput hC3 hgr hcur hsz)
                                        | (at_builtin; go_loud (refine wpList_appendTab rfl _ _ 68 rfl 70 57 Try.underlying68 infoPS (by decide) (Cw 78) w.heap.size (.slice a (plT m k unitP).length c) ((plT m k unitP)) rfl _ rfl ((.slice (some ⟨wr.heap.size, 0, none⟩) m m)) ((plL m (unitP k))) (by rw [World.cell?_alloc_at _ _ _ _ (by ((try simp only [plus_size, World.size_alloc, World.size_drew, World.size_setCell, size_setRow, World.heap_drewN, List.length_append]) <;> omega))]; rfl) (ht3.keepW (by (repeat (first | (with_reducible exact Below.refl _ _) | (with_reducible assumption) | (with_reducible refine below_plus' ?_ ?_; ((try simp only [plus_size, World.size_alloc, World.size_drew, World.size_setCell, size_setRow, World.heap_drewN, List.length_append]) <;> omega)) | (with_reducible refine below_alloc' ?_ ?_; ((try simp only [plus_size, World.size_alloc, World.size_drew, World.size_setCell, size_setRow, World.heap_drewN, List.length_append]) <;> omega)) | with_reducible refine Below.drew ?_ | (with_reducible refine below_drewN' ?_ _) | exact Below.refl _ _)))) ((hr3.keepW (by (repeat (first | (with_reducible exact Below.refl _ _) | (with_reducible assumption) | (with_reducible refine below_plus' ?_ ?_; ((try simp only [plus_size, World.size_alloc, World.size_drew, World.size_setCell, size_setRow, World.heap_drewN, List.length_append]) <;> omega)) | (with_reducible refine below_alloc' ?_ ?_; ((try simp only [plus_size, World.size_alloc, World.size_drew, World.size_setCell, size_setRow, World.heap_drewN, List.length_append]) <;> omega)) | with_reducible refine Below.drew ?_ | (with_reducible refine below_drewN' ?_ _) | exact Below.refl _ _)))).mono hbel.size (fun x xs h => h)) (tabG_far ht (Nat.le_refl _) (fun vs hvs => row_back (by (repeat (first | (with_reducible exact Below.refl _ _) | (with_reducible assumption) | (with_reducible refine below_plus' ?_ ?_; ((try simp only [plus_size, World.size_alloc, World.size_drew, World.size_setCell, size_setRow, World.heap_drewN, List.length_append]) <;> omega)) | (with_reducible refine below_alloc' ?_ ?_; ((try simp only [plus_size, World.size_alloc, World.size_drew, World.size_setCell, size_setRow, World.heap_drewN, List.length_append]) <;> omega)) | with_reducible refine Below.drew ?_ | (with_reducible refine below_drewN' ?_ _) | exact Below.refl _ _))) (fun k hk => (ht.lt k hk).2) hvs)) (fun w' x ys hg => Cw_tab (by decide) (ht3.keepW (by (repeat (first | (with_reducible exact Below.refl _ _) | (with_reducible assumption) | (with_reducible refine below_plus' ?_ ?_; ((try simp only [plus_size, World.size_alloc, World.size_drew, World.size_setCell, size_setRow, World.heap_drewN, List.length_append]) <;> omega)) | (with_reducible refine below_alloc' ?_ ?_; ((try simp only [plus_size, World.size_alloc, World.size_drew, World.size_setCell, size_setRow, World.heap_drewN, List.length_append]) <;> omega)) | with_reducible refine Below.drew ?_ | (with_reducible refine below_drewN' ?_ _) | exact Below.refl _ _)))) hg x ys) (by rw [plT_length]; omega) (by ((try simp only [plus_size, World.size_alloc, World.size_drew, World.size_setCell, size_setRow, World.heap_drewN, List.length_append]) <;> omega)) ?_; intro v' w' ht' hg' hB')))
      go_roundw
      case rel => exact ⟨k + 1, by omega, by go_num, Below.trans (show Below w.heap.size w _ by (repeat (first | (with_reducible exact Below.refl _ _) | (with_reducible assumption) | (with_reducible refine below_plus' ?_ ?_; ((try simp only [plus_size, World.size_alloc, World.size_drew, World.size_setCell, size_setRow, World.heap_drewN, List.length_append]) <;> omega)) | (with_reducible refine below_alloc' ?_ ?_; ((try simp only [plus_size, World.size_alloc, World.size_drew, World.size_setCell, size_setRow, World.heap_drewN, List.length_append]) <;> omega)) | with_reducible refine Below.drew ?_ | (with_reducible refine below_drewN' ?_ _) | exact Below.refl _ _))) hB', by rw [← plT_succ]; exact ht'⟩
      case measure => simp [intOf]; omega
    · obtain rfl : m = k := by omega
      go_wp2
      go_ret
      exact ⟨_, rfl, hbel, ht⟩
end Go.Proofs.Ytikakoclmmmjdaa
