/- A row of polynomials that is written. Conditions: as each theorem says. -/
import Derived.Test.YtikakoclmmmjdaaOd
namespace Go.Proofs.Ytikakoclmmmjdaa
open Go.RowKit
set_option linter.unusedSimpArgs false
set_option linter.unusedVariables false
open Go.RowKit
theorem grown_transR {w w1 w2 : World} {row row2 : Option Nat} (h : w.grownBy w1 row) (k : w1.grownBy w2 row2) (hr : ∀ b, row2 = some b → w.heap.size ≤ b) : w.grownBy w2 row :=
  ⟨k.os.trans h.os, k.tape.trans h.tape, k.output.trans h.output, Nat.le_trans h.size k.size, fun b hb hne => (k.block b (Nat.lt_of_lt_of_le hb h.size) (fun e => by have := hr b e.symm; omega)).trans (h.block b hb hne)⟩
theorem grown_belowW {w w1 w2 : World} {row : Option Nat} (h : w.grownBy w1 row) (hb : Below w1.heap.size w1 w2) : w.grownBy w2 row :=
  grownBy_trans h ⟨hb.os, hb.tape, hb.output, hb.size, fun k hk _ => hb.block k hk⟩
theorem grown_of_belowW {w w1 : World} (row : Option Nat) (hb : Below w.heap.size w w1) : w.grownBy w1 row := ⟨hb.os, hb.tape, hb.output, hb.size, fun k hk _ => hb.block k hk⟩
/-- a box that holds a polynomial -/
def pbx (T e : TypeId) (X : World) (b : Nat) (P : Pol) : Prop := ∃ a c, X.heap[b]? = some (.cells #[.int .i64 P.1, .slice a P.2.length c] T) ∧ rdW e X (.slice a P.2.length c) P.2
/-- a row that is being written, beside two boxes -/
structure RSt (T e : TypeId) (w : World) (B kb ck m b5 b6 : Nat) (X : World) (P5 P6 : Pol) (fs : Nat → Pol) : Prop where
  ne : T ≠ e
  row : rowG T (Cw e) X B (.slice (some ⟨kb, 0, none⟩) m ck) (plL m fs)
  gr : w.grownBy X (some kb)
  n5 : kb ≠ b5
  n6 : kb ≠ b6
  n56 : b5 ≠ b6
  s5 : w.heap.size ≤ b5
  s6 : w.heap.size ≤ b6
  x5 : pbx T e X b5 P5
  x6 : pbx T e X b6 P6
theorem pbx.below {T e : TypeId} {X Y : World} {b : Nat} {P : Pol} (h : pbx T e X b P) (hb : Below X.heap.size X Y) : pbx T e Y b P := by
  obtain ⟨a, c, h1, h2⟩ := h
  exact ⟨a, c, (hb.block _ (lt_of_block h1)).trans h1, h2.kept hb⟩
theorem pbx.block {T e : TypeId} {X Y : World} {b k : Nat} {P : Pol} {cur : Array Value} (hT : T ≠ e) (h : pbx T e X b P) (hk : X.heap[k]? = some (.cells cur T (0, 0))) (hg : X.grownBy Y (some k)) (hne : k ≠ b) : pbx T e Y b P := by
  obtain ⟨a, c, h1, h2⟩ := h
  exact ⟨a, c, (hg.block _ (lt_of_block h1) (fun e => hne (by cases e; rfl))).trans h1, rdW.block hT hk hg h2⟩
theorem RSt.below {T e : TypeId} {w : World} {B kb ck m b5 b6 : Nat} {X Y : World} {P5 P6 : Pol} {fs : Nat → Pol} (h : RSt T e w B kb ck m b5 b6 X P5 P6 fs) (hb : Below X.heap.size X Y) : RSt T e w B kb ck m b5 b6 Y P5 P6 fs :=
  ⟨h.ne, h.row.keepW hb, grown_belowW h.gr hb, h.n5, h.n6, h.n56, h.s5, h.s6, h.x5.below hb, h.x6.below hb⟩
theorem RSt.put {T e : TypeId} {w : World} {B kb ck m b5 b6 : Nat} {X Y : World} {P5 P6 : Pol} {fs : Nat → Pol} (h : RSt T e w B kb ck m b5 b6 X P5 P6 fs) (hb : Below X.heap.size X Y) {t : Nat} (ht : t < m) (l : Int) (sv : Value) (xs : List Int) (hx : rdW e Y sv xs) :
    ∃ cur, Y.heap[kb]? = some (.cells cur T (0, 0)) ∧ t * 2 + (#[.int .i64 l, sv] : Array Value).size ≤ cur.size ∧ RSt T e w B kb ck m b5 b6 (Y.setRow kb (putA cur (t * 2) #[.int .i64 l, sv])) P5 P6 (updP fs t (l, xs)) := by
  replace h := h.below hb
  obtain ⟨cur, hcur, hsz, hgr, hput⟩ := h.row.put (t := t) (by rw [plL_length]; exact ht) l sv xs
  have hC := Cw_block (e := e) h.ne hcur hgr
  have hr := hput hC (hC _ _ hx)
  rw [plL_set] at hr
  exact ⟨cur, hcur, hsz, h.ne, hr, grownBy_trans h.gr hgr, h.n5, h.n6, h.n56, h.s5, h.s6, h.x5.block h.ne hcur hgr h.n5, h.x6.block h.ne hcur hgr h.n6⟩
theorem boxSet {X : World} {b : Nat} {T : TypeId} {l0 : Int} {v0 : Value} {P : Pol} {a : Option Addr} {c : Nat} (h1 : X.heap[b]? = some (.cells #[.int .i64 l0, v0] T)) : ((X.setCell ⟨b, 0, none⟩ (.int .i64 P.1)).setCell ⟨b, 1, none⟩ (.slice a P.2.length c)).heap[b]? = some (.cells #[.int .i64 P.1, .slice a P.2.length c] T) ∧ X.grownBy ((X.setCell ⟨b, 0, none⟩ (.int .i64 P.1)).setCell ⟨b, 1, none⟩ (.slice a P.2.length c)) (some b) := by
  have g1 := heap_setCell_same X b 0 _ _ (.int .i64 P.1) h1
  have g2 := heap_setCell_same _ b 1 _ _ (.slice a P.2.length c) g1
  exact ⟨by rw [g2]; simp, grownBy_trans (grownBy_setCell X b 0 _) (grownBy_setCell _ b 1 _)⟩
theorem RSt.set5 {T e : TypeId} {w : World} {B kb ck m b5 b6 : Nat} {X : World} {P5 P6 P : Pol} {fs : Nat → Pol} (h : RSt T e w B kb ck m b5 b6 X P5 P6 fs) {a : Option Addr} {c : Nat} (hx : rdW e X (.slice a P.2.length c) P.2) : RSt T e w B kb ck m b5 b6 ((X.setCell ⟨b5, 0, none⟩ (.int .i64 P.1)).setCell ⟨b5, 1, none⟩ (.slice a P.2.length c)) P P6 fs := by
  obtain ⟨a5, c5, h1, h2⟩ := h.x5
  obtain ⟨g1, g2⟩ := boxSet (P := P) (a := a) (c := c) h1
  have hC := Cw_block (e := e) h.ne h1 g2
  exact ⟨h.ne, h.row.kept g2 (fun k hk e => by cases hk; cases e; exact h.n5 rfl) hC, grown_transR h.gr g2 (fun b hb => by cases hb; exact h.s5), h.n5, h.n6, h.n56, h.s5, h.s6, ⟨a, c, g1, hC _ _ hx⟩, h.x6.block h.ne h1 g2 h.n56⟩
theorem RSt.set6 {T e : TypeId} {w : World} {B kb ck m b5 b6 : Nat} {X : World} {P5 P6 P : Pol} {fs : Nat → Pol} (h : RSt T e w B kb ck m b5 b6 X P5 P6 fs) {a : Option Addr} {c : Nat} (hx : rdW e X (.slice a P.2.length c) P.2) : RSt T e w B kb ck m b5 b6 ((X.setCell ⟨b6, 0, none⟩ (.int .i64 P.1)).setCell ⟨b6, 1, none⟩ (.slice a P.2.length c)) P5 P fs := by
  obtain ⟨a6, c6, h1, h2⟩ := h.x6
  obtain ⟨g1, g2⟩ := boxSet (P := P) (a := a) (c := c) h1
  have hC := Cw_block (e := e) h.ne h1 g2
  exact ⟨h.ne, h.row.kept g2 (fun k hk e => by cases hk; cases e; exact h.n6 rfl) hC, grown_transR h.gr g2 (fun b hb => by cases hb; exact h.s6), h.n5, h.n6, h.n56, h.s5, h.s6, h.x5.block h.ne h1 g2 (fun e => h.n56 e.symm), ⟨a, c, g1, hC _ _ hx⟩⟩
theorem RSt.entry {T e : TypeId} {w : World} {B kb ck m b5 b6 : Nat} {X : World} {P5 P6 : Pol} {fs : Nat → Pol} (h : RSt T e w B kb ck m b5 b6 X P5 P6 fs) {t : Nat} (ht : t < m) : kb < X.heap.size ∧ ∃ a c, X.cell? ⟨kb, t * 2, none⟩ = some (.int .i64 (fs t).1) ∧ X.cell? ⟨kb, t * 2 + 1, none⟩ = some (.slice a (fs t).2.length c) ∧ rdW e X (.slice a (fs t).2.length c) (fs t).2 := by
  obtain ⟨g, c, sv, hv, _, h2, h3, h4, h5⟩ := h.row.at (i := t) (by rw [plL_length]; exact ht)
  rw [pAt_plL ht] at h3 h5
  rw [plL_length] at hv
  cases hv
  obtain ⟨a, c', rfl⟩ := rdW_form h5
  exact ⟨h2, a, c', h3, h4, h5⟩
theorem pbx.cells {T e : TypeId} {X : World} {b : Nat} {P : Pol} (h : pbx T e X b P) : b < X.heap.size ∧ ∃ a c, X.cell? ⟨b, 0, none⟩ = some (.int .i64 P.1) ∧ X.cell? ⟨b, 1, none⟩ = some (.slice a P.2.length c) ∧ rdW e X (.slice a P.2.length c) P.2 ∧ X.heap[b]? = some (.cells #[.int .i64 P.1, .slice a P.2.length c] T) := by
  obtain ⟨a, c, h1, h2⟩ := h
  exact ⟨lt_of_block h1, a, c, cell_of (i := 0) h1, cell_of (i := 1) h1, h2, h1⟩
theorem sizeZ_any (x : Int) (w : World) (h1 : -1000 ≤ x) (h2 : x ≤ 1000) : Calls Try.prog 51 #[.int .i64 x] w fun e w' => e = .returned (.int .i64 (x.natAbs : Int)) ∧ w = w' := by
  by_cases h : x < -x
  · have e := Lib.hid (show (x.natAbs : Int) = -x by omega)
    go_enter Try.func51, Try.ntmps51
    go_wp2
    go_ret
    exact ⟨by rw [e.out]; rfl, rfl⟩
  · have e := Lib.hid (show (x.natAbs : Int) = x by omega)
    have h' : -x ≤ x := by omega
    go_enter Try.func51, Try.ntmps51
    go_wp2
    go_ret
    exact ⟨by rw [e.out]; rfl, rfl⟩
end Go.Proofs.Ytikakoclmmmjdaa
