/- Tables of polynomials: what the laws ask. Conditions: as each theorem says. -/
import Derived.Test.YtikakoclmmmjdaaOv
import Derived.Test.YtikakoclmmmjdaaOn
import Derived.Test.YtikakoclmmmjdaaNl
import Derived.Test.YtikakoclmmmjdaaMd
import Derived.Deep.Cut
import Derived.Deep.CutRange
namespace Go.Proofs.Ytikakoclmmmjdaa
open Go.RowKit
set_option linter.unusedSimpArgs false
set_option linter.unusedVariables false
open Go.RowKit
theorem codL_len {red : Bool} {n : Int} {xs : List Int} (h : codL red n xs = 0) : ∀ i, i < dimL red n → ∀ j, j < dimL red n → (nfM 9223372036854775808 (lmF red (dimL red n) xs xs.length) i j).2.length ≤ 3000 := by
  intro i hi j hj
  by_cases hx : xs.length = 0
  · rw [hx]
    show (nfM 9223372036854775808 (fun i j => val (unitP i j)) i j).2.length ≤ 3000
    rw [nfM_unit]
    unfold unitP
    split <;> simp
  · obtain ⟨k, hk⟩ : ∃ k, xs.length = k + 1 := ⟨xs.length - 1, by omega⟩
    unfold codL at h
    split at h
    · split at h
      · rename_i h2
        simp only [preL, decide_eq_true_eq] at h2
        have h3 := h2 k (by omega)
        simp only [allM, decide_eq_true_eq] at h3
        have h4 := (okL_true (h3 i hi j hj)).1
        rw [hk]
        omega
      · cases h
    · cases h
/-- a table of the call's own whose lists lie apart, or an empty one -/
def OG (w : World) (B : Nat) (v : Value) (m : Nat) (G : Nat → Nat → Pol) : Prop := ∃ a c, v = .slice a m c ∧ (m = 0 ∨ ∃ g kb ck sv, a = some ⟨g, 0, none⟩ ∧ Grid w B m g kb ck sv G)
theorem OG.len {w : World} {B : Nat} {v : Value} {m : Nat} {G : Nat → Nat → Pol} (h : OG w B v m G) : ∃ a c, v = .slice a m c := by
  obtain ⟨a, c, rfl, _⟩ := h
  exact ⟨a, c, rfl⟩
theorem readsM.len {w : World} {v : Value} {m : Nat} {G : Nat → Nat → Pol} (h : readsM w v m G) : ∃ a c, v = .slice a m c := by
  obtain ⟨a, c, rfl, _⟩ := h
  exact ⟨a, c, rfl⟩
theorem OG.readsM {w : World} {B : Nat} {v : Value} {m : Nat} {G : Nat → Nat → Pol} (h : OG w B v m G) : readsM w v m G := by
  obtain ⟨a, c, rfl, h⟩ := h
  rcases h with h | ⟨g, kb, ck, sv, rfl, h⟩
  · exact ⟨a, c, rfl, .inl h⟩
  · exact grid_readsM h
theorem OG.same {w w' : World} {B : Nat} {v : Value} {m : Nat} {G : Nat → Nat → Pol} (h : OG w B v m G) (hs : ∀ b, B ≤ b → b < w.heap.size → w'.heap[b]? = w.heap[b]?) : OG w' B v m G := by
  obtain ⟨a, c, rfl, h⟩ := h
  rcases h with h | ⟨g, kb, ck, sv, rfl, h⟩
  · exact ⟨a, c, rfl, .inl h⟩
  · exact ⟨_, c, rfl, .inr ⟨g, kb, ck, sv, rfl, h.same hs⟩⟩
theorem OG.kept {w w' : World} {B : Nat} {v : Value} {m : Nat} {G : Nat → Nat → Pol} (h : OG w B v m G) (hb : Below w.heap.size w w') : OG w' B v m G := h.same fun b _ hl => hb.block b hl
set_option maxHeartbeats 400000 in
theorem markOG_any (w : World) (B m : Nat) (v : Value) (G : Nat → Nat → Pol) (h : OG w B v m G) (hB : B ≤ w.heap.size) (k0 : Int) (hm : m ≤ 8) (hk0 : 0 ≤ k0) (hk1 : k0 + offG m G m ≤ 1000000) : Calls Try.prog 13 #[v, .int .i64 k0] w fun e w' => e = .returned (.int .i64 (k0 + offG m G m)) ∧ OG w' B v m (mkT m G k0 m) ∧ Below B w w' := by
  obtain ⟨a, c, rfl, h⟩ := h
  rcases h with h | ⟨g, kb, ck, sv, rfl, h⟩
  · subst h
    have hk1' : k0 + (offG 0 G 0 : Nat) = k0 := by simp [offG]
    rw [hk1']
    go_enter Try.func13, Try.ntmps13
    go_wp2
    refine wp_loop_rounds 1 ?_
    rw [rounds_succ]
    go_wp2
    go_ret
    exact ⟨rfl, ⟨a, c, rfl, .inl rfl⟩, Below.refl _ _⟩
  · refine (markGrid_any w B m g c kb ck sv G h hB k0 hm hk0 hk1).mono ?_
    rintro e w' ⟨h1, h2, h3⟩
    exact ⟨h1, ⟨_, c, rfl, .inr ⟨g, kb, ck, sv, rfl, h2⟩⟩, h3⟩
set_option maxHeartbeats 400000 in
theorem heldOG_any (w : World) (B m : Nat) (v : Value) (G : Nat → Nat → Pol) (k0 : Int) (h : OG w B v m (mkT m G k0 m)) (hm : m ≤ 8) (hk0 : 0 ≤ k0) (hk1 : k0 + offG m G m ≤ 1000000) : Calls Try.prog 14 #[v, .int .i64 k0] w fun e w' => e = .returned (.int .i64 (k0 + offG m G m)) ∧ Below w.heap.size w w' := by
  obtain ⟨a, c, rfl, h⟩ := h
  rcases h with h | ⟨g, kb, ck, sv, rfl, h⟩
  · subst h
    have hk1' : k0 + (offG 0 G 0 : Nat) = k0 := by simp [offG]
    rw [hk1']
    go_enter Try.func14, Try.ntmps14
    go_wp2
    refine wp_loop_rounds 1 ?_
    rw [rounds_succ]
    go_wp2
    go_ret
    exact ⟨rfl, by (repeat (first | (with_reducible exact Below.refl _ _) | (with_reducible assumption) | (with_reducible refine below_plus' ?_ ?_; ((try simp only [plus_size, World.size_alloc, World.size_drew, World.size_setCell, size_setRow, World.heap_drewN, List.length_append]) <;> omega)) | (with_reducible refine below_alloc' ?_ ?_; ((try simp only [plus_size, World.size_alloc, World.size_drew, World.size_setCell, size_setRow, World.heap_drewN, List.length_append]) <;> omega)) | with_reducible refine Below.drew ?_ | (with_reducible refine below_drewN' ?_ _) | exact Below.refl _ _))⟩
  · exact heldGrid_any w B m g c kb ck sv G k0 h hm hk0 hk1
/-- what is known in the midst of a law whose answer is a table of polynomials -/
structure MidG (w wr : World) (n : Int) (v vw vx vg : Value) (m : Nat) (F : Nat → Nat → Pol) (xs : List Int) (G : Nat → Nat → Pol) (b1 b6 Tw Bx Tx Bg : Nat) : Prop where
  bel : Below w.heap.size w wr
  h1 : boxed wr b1 24 n v
  h6 : boxed wr b6 29 n vx
  ow : ∃ W0, readsM W0 vw m F ∧ W0.heap.size = Tw ∧ Below Tw W0 wr
  ox : own 2 wr Bx vx xs
  tx : ∀ k, vx.ownBlock = some k → k < Tx
  og : OG wr Bg vg m G
  r1 : b1 < Bx
  r2 : Tw ≤ Bx
  r3 : Tx ≤ b6
  r4 : b6 < Bg
  r5 : Bg ≤ wr.heap.size
  r6 : Tw ≤ Bg
  r7 : w.heap.size ≤ Bx
  r8 : b1 < Bg
  r9 : Tx ≤ Bg
  r10 : w.heap.size ≤ Bg
theorem MidG.rd {w wr n v vw vx vg m F xs G b1 b6 Tw Bx Tx Bg} (M : MidG w wr n v vw vx vg m F xs G b1 b6 Tw Bx Tx Bg) : readsM wr vw m F := by
  obtain ⟨W0, h1, rfl, h2⟩ := M.ow
  exact h1.kept h2
theorem MidG.kept {w wr w' n v vw vx vg m F xs G b1 b6 Tw Bx Tx Bg} (M : MidG w wr n v vw vx vg m F xs G b1 b6 Tw Bx Tx Bg) (hb : Below wr.heap.size wr w') : MidG w w' n v vw vx vg m F xs G b1 b6 Tw Bx Tx Bg := by
  obtain ⟨W0, o1, o2, o3⟩ := M.ow
  have t1 := M.r6; have t2 := M.r5
  exact ⟨M.bel.trans (hb.mono M.bel.size), M.h1.kept hb, M.h6.kept hb, ⟨W0, o1, o2, o3.trans (hb.mono (by omega))⟩, M.ox.kept hb, M.tx, M.og.kept hb, M.r1, M.r2, M.r3, M.r4, Nat.le_trans M.r5 hb.size, M.r6, M.r7, M.r8, M.r9, M.r10⟩
theorem MidG.markx {w wr w' n v vw vx vg m F xs G b1 b6 Tw Bx Tx Bg} {lq : List Int} (M : MidG w wr n v vw vx vg m F xs G b1 b6 Tw Bx Tx Bg) (hx : own 2 w' Bx vx lq) (hg : wr.grownBy w' vx.ownBlock) : MidG w w' n v vw vx vg m F lq G b1 b6 Tw Bx Tx Bg := by
  have hr : ∀ k, vx.ownBlock = some k → Bx ≤ k ∧ k < Tx := fun k hk => ⟨(M.ox.lt k hk).1, M.tx k hk⟩
  obtain ⟨W0, o1, o2, o3⟩ := M.ow
  have := M.r1; have := M.r2; have := M.r3; have := M.r4; have := M.r5; have := M.r6; have := M.r7; have := M.r8; have := M.r9
  exact ⟨M.bel.trans (below_of_grown hg M.bel.size fun k hk => by have := hr k hk; omega), M.h1.grown hg (ne_row fun k hk => by have := hr k hk; omega), M.h6.grown hg (ne_row fun k hk => by have := hr k hk; omega),
    ⟨W0, o1, o2, o3.trans (below_of_grown hg (by omega) fun k hk => by have := hr k hk; omega)⟩, hx, M.tx, M.og.same (fun b hb hl => hg.block b hl (fun e => by have := hr b e.symm; omega)), M.r1, M.r2, M.r3, M.r4, Nat.le_trans M.r5 hg.size, M.r6, M.r7, M.r8, M.r9, M.r10⟩
theorem MidG.markg {w wr w' n v vw vx vg m F xs G b1 b6 Tw Bx Tx Bg} {Gq : Nat → Nat → Pol} (M : MidG w wr n v vw vx vg m F xs G b1 b6 Tw Bx Tx Bg) (hx : OG w' Bg vg m Gq) (hb : Below Bg wr w') : MidG w w' n v vw vx vg m F xs Gq b1 b6 Tw Bx Tx Bg := by
  obtain ⟨W0, o1, o2, o3⟩ := M.ow
  have := M.r1; have := M.r2; have := M.r3; have := M.r4; have := M.r5; have := M.r6; have := M.r7; have := M.r8; have := M.r9
  exact ⟨M.bel.trans (hb.mono M.r10), by unfold boxed; rw [hb.block b1 M.r8]; exact M.h1, by unfold boxed; rw [hb.block b6 M.r4]; exact M.h6,
    ⟨W0, o1, o2, o3.trans (hb.mono M.r6)⟩, own_same M.ox (fun k hk => hb.block k (by have := M.tx k hk; omega)), M.tx, hx, M.r1, M.r2, M.r3, M.r4, Nat.le_trans M.r5 hb.size, M.r6, M.r7, M.r8, M.r9, M.r10⟩
/-- the size of the table that is handed back -/
noncomputable def mL (red : Bool) (n : Int) (xs : List Int) : Nat := if codL red n xs = 0 then dimL red n else 0
noncomputable def fL (red : Bool) (n : Int) (xs : List Int) : Nat → Nat → Pol := nfM 9223372036854775808 (lmF red (dimL red n) xs xs.length)
theorem mL_le {red : Bool} {n : Int} {xs : List Int} : mL red n xs ≤ 8 := by
  unfold mL
  split
  · rename_i h
    exact dimL_le (codL_ok h)
  · exact Nat.zero_le _
theorem mL_len {red : Bool} {n : Int} {xs : List Int} : ∀ i, i < mL red n xs → ∀ j, j < mL red n xs → (fL red n xs i j).2.length ≤ 3000 := by
  intro i hi j hj
  unfold mL at hi hj
  split at hi
  · rename_i h
    rw [if_pos h] at hj
    exact codL_len h i hi j hj
  · omega
theorem retP {red : Bool} {w : World} {n : Int} {xs : List Int} {P : Program} {f : Nat} {args : Array Value} (h : Calls P f args w (RetL red w n xs)) : Calls P f args w fun e w' => ∃ v', e = .returned (.tuple #[v', .int .i64 (codL red n xs)]) ∧ Below w.heap.size w w' ∧ readsM w' v' (mL red n xs) (fL red n xs) := by
  refine h.mono ?_
  rintro e w' ⟨v', h1, h2, h3, h4⟩
  refine ⟨v', h1, h2, ?_⟩
  unfold mL
  split
  · rename_i h5
    exact (h3 h5).readsM (by decide)
  · rename_i h5
    rw [h4 h5]
    exact ⟨none, 0, rfl, .inl rfl⟩
theorem retI {red : Bool} {w : World} {n : Int} {xs : List Int} {P : Program} {f : Nat} {args : Array Value} (h : Calls P f args w (RetLt red w n xs)) : Calls P f args w fun e w' => ∃ v', e = .returned (.tuple #[v', .int .i64 (codL red n xs)]) ∧ Below w.heap.size w w' ∧ OG w' w.heap.size v' (mL red n xs) (fL red n xs) := by
  refine h.mono ?_
  rintro e w' ⟨v', h1, h2, h3, h4⟩
  refine ⟨v', h1, h2, ?_⟩
  unfold mL
  split
  · rename_i h5
    obtain ⟨τ, h6, h7⟩ := h3 h5
    by_cases hm : dimL red n = 0
    · obtain ⟨a, c, h8⟩ := h6.len
      rw [plT_length] at h8
      exact ⟨a, c, h8, .inl hm⟩
    · obtain ⟨g, c, kb, ck, sv, h8, h9⟩ := grid_of h6 h7 (by omega)
      exact ⟨_, c, h8, .inr ⟨g, kb, ck, sv, rfl, h9⟩⟩
  · rename_i h5
    rw [h4 h5]
    exact ⟨none, 0, rfl, .inl rfl⟩
end Go.Proofs.Ytikakoclmmmjdaa
