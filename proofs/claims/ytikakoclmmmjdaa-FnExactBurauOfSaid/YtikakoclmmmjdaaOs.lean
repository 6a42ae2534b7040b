/- Tables of polynomials whose lists lie apart. Conditions: as each theorem says. -/
import Derived.Test.YtikakoclmmmjdaaOn
namespace Go.Proofs.Ytikakoclmmmjdaa
open Go.RowKit
set_option linter.unusedSimpArgs false
set_option linter.unusedVariables false
open Go.RowKit
/-- a square table of polynomials, all of whose blocks lie apart, from B on -/
structure Grid (w : World) (B m g : Nat) (kb ck : Nat → Nat) (sv : Nat → Nat → Value) (G : Nat → Nat → Pol) : Prop where
  tg : ∃ cg, w.heap[g]? = some (.cells cg 50 (0, 0))
  bg : B ≤ g
  cr : ∀ i, i < m → w.cell? ⟨g, i, none⟩ = some (.slice (some ⟨kb i, 0, none⟩) m (ck i))
  tk : ∀ i, i < m → ∃ cur, w.heap[kb i]? = some (.cells cur 37 (0, 0))
  bk : ∀ i, i < m → B ≤ kb i
  c0 : ∀ i, i < m → ∀ j, j < m → w.cell? ⟨kb i, j * 2, none⟩ = some (.int .i64 (G i j).1)
  c1 : ∀ i, i < m → ∀ j, j < m → w.cell? ⟨kb i, j * 2 + 1, none⟩ = some (sv i j)
  ow : ∀ i, i < m → ∀ j, j < m → own 2 w B (sv i j) (G i j).2
  dk : ∀ i, i < m → ∀ i', i' < m → kb i = kb i' → i = i'
  ds : ∀ i, i < m → ∀ j, j < m → ∀ i', i' < m → ∀ j', j' < m → ∀ k, (sv i j).ownBlock = some k → (sv i' j').ownBlock = some k → i = i' ∧ j = j'
theorem own_same {e : TypeId} {w w' : World} {B : Nat} {v : Value} {xs : List Int} (h : own e w B v xs) (hk : ∀ k, v.ownBlock = some k → w'.heap[k]? = w.heap[k]?) : own e w' B v xs := by
  obtain ⟨h1, h2⟩ := h
  refine ⟨h1, ?_⟩
  rcases h2 with h2 | ⟨g, cap, cur, hv, hg, hh, r⟩
  · exact .inl h2
  · exact .inr ⟨g, cap, cur, hv, hg, by rw [hk g (by rw [hv]; rfl)]; exact hh, r⟩
theorem cell_same {w w' : World} {b o : Nat} (h : w'.heap[b]? = w.heap[b]?) : w'.cell? ⟨b, o, none⟩ = w.cell? ⟨b, o, none⟩ := by simp only [World.cell?, h]
/-- blocks below B may turn -/
theorem Grid.same {w w' : World} {B m g : Nat} {kb ck : Nat → Nat} {sv : Nat → Nat → Value} {G : Nat → Nat → Pol} (h : Grid w B m g kb ck sv G) (hs : ∀ b, B ≤ b → b < w.heap.size → w'.heap[b]? = w.heap[b]?) : Grid w' B m g kb ck sv G := by
  obtain ⟨cg, hg⟩ := h.tg
  have e1 := hs g h.bg (lt_of_block hg)
  have e2 : ∀ i, i < m → w'.heap[kb i]? = w.heap[kb i]? := fun i hi => by
    obtain ⟨cur, hk⟩ := h.tk i hi
    exact hs _ (h.bk i hi) (lt_of_block hk)
  exact ⟨⟨cg, e1.trans hg⟩, h.bg, fun i hi => (cell_same e1).trans (h.cr i hi), fun i hi => by
    obtain ⟨cur, hk⟩ := h.tk i hi
    exact ⟨cur, (e2 i hi).trans hk⟩, h.bk, fun i hi j hj => (cell_same (e2 i hi)).trans (h.c0 i hi j hj), fun i hi j hj => (cell_same (e2 i hi)).trans (h.c1 i hi j hj), fun i hi j hj => own_same (h.ow i hi j hj) (fun k hk => hs k ((h.ow i hi j hj).lt k hk).1 ((h.ow i hi j hj).lt k hk).2), h.dk, h.ds⟩
theorem Grid.below {w w' : World} {B m g : Nat} {kb ck : Nat → Nat} {sv : Nat → Nat → Value} {G : Nat → Nat → Pol} (h : Grid w B m g kb ck sv G) (hb : Below w.heap.size w w') : Grid w' B m g kb ck sv G := h.same fun b _ hl => hb.block b hl
def updG (G : Nat → Nat → Pol) (i j : Nat) (q : Pol) : Nat → Nat → Pol := fun x y => if x = i ∧ y = j then q else G x y
theorem updG_at (G : Nat → Nat → Pol) (i j : Nat) (q : Pol) : updG G i j q i j = q := if_pos ⟨rfl, rfl⟩
theorem updG_ne (G : Nat → Nat → Pol) {i j x y : Nat} (q : Pol) (h : ¬ (x = i ∧ y = j)) : updG G i j q x y = G x y := if_neg h
/-- a number is written -/
theorem Grid.low {w : World} {B m g : Nat} {kb ck : Nat → Nat} {sv : Nat → Nat → Value} {G : Nat → Nat → Pol} (h : Grid w B m g kb ck sv G) {i j : Nat} (hi : i < m) (hj : j < m) (u : Int) : Grid (w.setCell ⟨kb i, j * 2, none⟩ (.int .i64 u)) B m g kb ck sv (updG G i j (u, (G i j).2)) := by
  obtain ⟨cur, hk⟩ := h.tk i hi
  obtain ⟨cg, hg⟩ := h.tg
  have hsame := heap_setCell_same w (kb i) (j * 2) cur 37 (.int .i64 u) hk
  have hoth : ∀ b, b ≠ kb i → (w.setCell ⟨kb i, j * 2, none⟩ (.int .i64 u)).heap[b]? = w.heap[b]? := fun b hb => heap_setCell_other _ _ _ _ hb
  have hgk : g ≠ kb i := block_ne (by decide) hg hk
  have hlist : ∀ x, x < m → ∀ y, y < m → ∀ k, (sv x y).ownBlock = some k → k ≠ kb i := fun x hx y hy k hk2 e => by
    obtain ⟨c2, h2⟩ := own_block (h.ow x hx y hy) hk2
    subst e
    exact block_ne (by decide) hk h2 rfl
  have hpair : ∀ x, x < m → ∀ y, y < m → (updG G i j (u, (G i j).2) x y).2 = (G x y).2 := fun x _ y _ => by
    by_cases e : x = i ∧ y = j
    · obtain ⟨rfl, rfl⟩ := e; rw [updG_at]
    · rw [updG_ne _ _ e]
  have hcell : ∀ o, o ≠ j * 2 → (w.setCell ⟨kb i, j * 2, none⟩ (.int .i64 u)).cell? ⟨kb i, o, none⟩ = w.cell? ⟨kb i, o, none⟩ := fun o ho => by
    simp only [World.cell?, hsame, hk]
    simp [Array.getElem?_setIfInBounds_ne (Ne.symm ho)]
  refine ⟨⟨cg, (hoth g hgk).trans hg⟩, h.bg, fun x hx => (cell_same (hoth g hgk)).trans (h.cr x hx), fun x hx => ?_, h.bk, fun x hx y hy => ?_, fun x hx y hy => ?_, fun x hx y hy => ?_, h.dk, h.ds⟩
  · by_cases e : kb x = kb i
    · rw [e]; exact ⟨_, hsame⟩
    · obtain ⟨c2, h2⟩ := h.tk x hx
      exact ⟨c2, (hoth _ e).trans h2⟩
  · by_cases e : kb x = kb i
    · obtain rfl := h.dk x hx i hi e
      by_cases e2 : y = j
      · subst e2
        rw [updG_at]
        have h3 := h.c0 x hx y hy
        simp only [World.cell?, hsame, hk] at h3 ⊢
        have hl : y * 2 < cur.size := by
          rcases Nat.lt_or_ge (y * 2) cur.size with h' | h'
          · exact h'
          · rw [Array.getElem?_eq_none h'] at h3; cases h3
        simp [hl]
      · rw [updG_ne _ _ (fun h => e2 h.2), hcell _ (by omega)]
        exact h.c0 x hx y hy
    · rw [updG_ne _ _ (fun h => e (by rw [h.1]))]
      exact (cell_same (hoth _ e)).trans (h.c0 x hx y hy)
  · by_cases e : kb x = kb i
    · rw [e, hcell _ (by omega), ← e]; exact h.c1 x hx y hy
    · exact (cell_same (hoth _ e)).trans (h.c1 x hx y hy)
  · rw [hpair x hx y hy]
    exact own_same (h.ow x hx y hy) (fun k hk2 => hoth k (hlist x hx y hy k hk2))
/-- a list is written -/
theorem Grid.list {w w' : World} {B m g : Nat} {kb ck : Nat → Nat} {sv : Nat → Nat → Value} {G : Nat → Nat → Pol} (h : Grid w B m g kb ck sv G) {i j : Nat} (hi : i < m) (hj : j < m) {ys : List Int} (ho : own 2 w' B (sv i j) ys) (hgr : w.grownBy w' (sv i j).ownBlock) : Grid w' B m g kb ck sv (updG G i j ((G i j).1, ys)) := by
  have hoth : ∀ b, b < w.heap.size → (∀ k, (sv i j).ownBlock = some k → b ≠ k) → w'.heap[b]? = w.heap[b]? := fun b hb hne => hgr.block b hb (fun e => hne b e.symm rfl)
  obtain ⟨cg, hg⟩ := h.tg
  have hblk : ∀ k, (sv i j).ownBlock = some k → ∃ c2, w.heap[k]? = some (.cells c2 2 (0, 0)) := fun k hk => own_block (h.ow i hi j hj) hk
  have eg := hoth g (lt_of_block hg) (fun k hk e => by
    obtain ⟨c2, h2⟩ := hblk k hk
    subst e; exact block_ne (by decide) hg h2 rfl)
  have ek : ∀ x, x < m → w'.heap[kb x]? = w.heap[kb x]? := fun x hx => by
    obtain ⟨cur, hk⟩ := h.tk x hx
    exact hoth _ (lt_of_block hk) (fun k hk2 e => by
      obtain ⟨c2, h2⟩ := hblk k hk2
      subst e; exact block_ne (by decide) hk h2 rfl)
  refine ⟨⟨cg, eg.trans hg⟩, h.bg, fun x hx => (cell_same eg).trans (h.cr x hx), fun x hx => ?_, h.bk, fun x hx y hy => ?_, fun x hx y hy => (cell_same (ek x hx)).trans (h.c1 x hx y hy), fun x hx y hy => ?_, h.dk, h.ds⟩
  · obtain ⟨cur, hk⟩ := h.tk x hx
    exact ⟨cur, (ek x hx).trans hk⟩
  · have : (updG G i j ((G i j).1, ys) x y).1 = (G x y).1 := by
      by_cases e : x = i ∧ y = j
      · obtain ⟨rfl, rfl⟩ := e; rw [updG_at]
      · rw [updG_ne _ _ e]
    rw [this]
    exact (cell_same (ek x hx)).trans (h.c0 x hx y hy)
  · by_cases e : x = i ∧ y = j
    · obtain ⟨rfl, rfl⟩ := e
      rw [updG_at]; exact ho
    · rw [updG_ne _ _ e]
      exact own_same (h.ow x hx y hy) (fun k hk => hoth k ((h.ow x hx y hy).lt k hk).2 (fun k' hk' e' => by
        subst e'
        exact e (h.ds x hx y hy i hi j hj k hk hk')))
theorem pickN {P : Nat → Nat → Prop} {m : Nat} (h : ∀ i, i < m → ∃ k, P i k) : ∃ f : Nat → Nat, ∀ i, i < m → P i (f i) :=
  ⟨fun i => if h' : i < m then Classical.choose (h i h') else 0, fun i hi => by simp only [dif_pos hi]; exact Classical.choose_spec (h i hi)⟩
/-- a table of the call's own with tags is a grid -/
theorem grid_of {w : World} {B n m : Nat} {v : Value} {τ : Nat → Nat → Int} {F : Nat → Nat → Pol} (h : tabG 50 37 (Ctag 2 B) w B v (plT m m (tgP τ F))) (ht : TagsOk m τ m 0 n) (hm : 0 < m) : ∃ g c kb ck sv, v = .slice (some ⟨g, 0, none⟩) m c ∧ Grid w B m g kb ck sv F := by
  obtain ⟨vs, hv⟩ := h.vs
  obtain ⟨g, c, rfl, hgB, hgl, hcg⟩ := hv.at (by rw [plT_length]; exact hm)
  rw [plT_length] at hcg ⊢
  have hrow : ∀ i, i < m → ∃ k c, slot vs i = .slice (some ⟨k, 0, none⟩) m c ∧ B ≤ k ∧ (∃ cur, w.heap[k]? = some (.cells cur 37 (0, 0))) ∧ ∀ j, j < m → ∃ s, w.cell? ⟨k, j * 2, none⟩ = some (.int .i64 (F i j).1) ∧ w.cell? ⟨k, j * 2 + 1, none⟩ = some s ∧ own 2 w B s (F i j).2 ∧ ∀ q, s.ownBlock = some q → τ i j = (q : Int) := fun i hi => by
    have hr := hv.2.2.1 i (by rw [plT_length]; exact hi)
    rw [prow_plT hi] at hr
    obtain ⟨k, c, s0, he, hB, hl, _⟩ := hr.at (i := 0) (by rw [plL_length]; exact hm)
    rw [plL_length] at he
    refine ⟨k, c, he, hB, hr.block (by rw [he]; rfl), fun j hj => ?_⟩
    obtain ⟨k', c', s, he', _, _, h3, h4, h5⟩ := hr.at (i := j) (by rw [plL_length]; exact hj)
    rw [plL_length, he] at he'
    cases he'
    rw [pAt_plL hj] at h3 h5
    obtain ⟨t, xs, h6, h7, h8⟩ := h5
    cases h6
    exact ⟨s, h3, h4, h7, h8⟩
  obtain ⟨kb, hkb⟩ : ∃ kb : Nat → Nat, ∀ i, i < m → ∃ c, slot vs i = .slice (some ⟨kb i, 0, none⟩) m c ∧ B ≤ kb i ∧ (∃ cur, w.heap[kb i]? = some (.cells cur 37 (0, 0))) ∧ ∀ j, j < m → ∃ s, w.cell? ⟨kb i, j * 2, none⟩ = some (.int .i64 (F i j).1) ∧ w.cell? ⟨kb i, j * 2 + 1, none⟩ = some s ∧ own 2 w B s (F i j).2 ∧ ∀ q, s.ownBlock = some q → τ i j = (q : Int) :=
    pickN hrow
  obtain ⟨ck, hck⟩ : ∃ ck : Nat → Nat, ∀ i, i < m → slot vs i = .slice (some ⟨kb i, 0, none⟩) m (ck i) :=
    pickN fun i hi => by
      obtain ⟨c, hc, _⟩ := hkb i hi
      exact ⟨c, hc⟩
  have hsv : ∀ i, i < m → ∀ j, j < m → w.cell? ⟨kb i, j * 2 + 1, none⟩ = some ((w.cell? ⟨kb i, j * 2 + 1, none⟩).getD (.slice none 0 0)) := fun i hi j hj => by
    obtain ⟨c, _, _, _, h4⟩ := hkb i hi
    obtain ⟨s, _, h6, _⟩ := h4 j hj
    rw [h6]; rfl
  have hown : ∀ i, i < m → ∀ j, j < m → own 2 w B ((w.cell? ⟨kb i, j * 2 + 1, none⟩).getD (.slice none 0 0)) (F i j).2 ∧ ∀ q, ((w.cell? ⟨kb i, j * 2 + 1, none⟩).getD (.slice none 0 0)).ownBlock = some q → τ i j = (q : Int) := fun i hi j hj => by
    obtain ⟨c, _, _, _, h4⟩ := hkb i hi
    obtain ⟨s, _, h6, h7, h8⟩ := h4 j hj
    rw [h6]; exact ⟨h7, h8⟩
  refine ⟨g, c, kb, ck, fun i j => (w.cell? ⟨kb i, j * 2 + 1, none⟩).getD (.slice none 0 0), rfl, row_block hv.2.1 rfl, hgB, fun i hi => by rw [hcg i hi, hck i hi], fun i hi => ?_, fun i hi => ?_, fun i hi j hj => ?_, hsv, fun i hi j hj => (hown i hi j hj).1, fun i hi i' hi' e => ?_, fun i hi j hj i' hi' j' hj' k h1 h2 => ?_⟩
  · obtain ⟨c, _, _, h3, _⟩ := hkb i hi
    exact h3
  · obtain ⟨c, _, h2, _⟩ := hkb i hi
    exact h2
  · obtain ⟨c, _, _, _, h4⟩ := hkb i hi
    obtain ⟨s, h5, _⟩ := h4 j hj
    exact h5
  · refine Decidable.byContradiction fun hne => hv.2.2.2 i i' (by rw [plT_length]; exact hi) (by rw [plT_length]; exact hi') hne (kb i) (by rw [hck i hi]; rfl) (by rw [hck i' hi', e]; rfl)
  · have e1 := (hown i hi j hj).2 k h1
    have e2 := (hown i' hi' j' hj').2 k h2
    exact ht.d i j i' j' hj (.inl hi) hj' (.inl hi') (by rw [e1, e2])
end Go.Proofs.Ytikakoclmmmjdaa
