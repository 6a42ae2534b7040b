/- Words that serve all later texts: several texts in one. Conditions: as each theorem says. -/
import Derived.WalkKit
import Derived.WalkSpells
import Derived.WalkLawsBesides
import Derived.Deep.WholeRow
import Derived.Deep.QuietTactic
import Derived.BigQuiet
import Derived.Lib.Hide
import Derived.StillTailTactics
import Derived.Test.YtikakoclmmmjdaaProg
import Derived.KernelRfl
import Derived.ProofKit
import Derived.OpenShut
namespace Go.Proofs.Ytikakoclmmmjdaa
open Go.RowKit
set_option linter.unusedSimpArgs false
set_option linter.unusedVariables false

/-! ## The world with further blocks -/
def plus (w : World) (j : List Obj) (d : Nat) : World := { w with heap := w.heap ++ j.toArray, drawn := d }

theorem plus_size (w : World) (j : List Obj) (d : Nat) : (plus w j d).heap.size = w.heap.size + j.length := by simp [plus]
theorem plus_heap (w : World) (j : List Obj) (d b : Nat) (h : b < w.heap.size) : (plus w j d).heap[b]? = w.heap[b]? := by
  simp [plus, Array.getElem?_append, h]
theorem plus_cell (w : World) (j : List Obj) (d : Nat) (b o : Nat) (h : b < w.heap.size) : (plus w j d).cell? ⟨b, o, none⟩ = w.cell? ⟨b, o, none⟩ := by
  simp only [World.cell?, plus_heap w j d b h]
theorem plus_frozen (w : World) (j : List Obj) (d : Nat) (b o : Nat) (h : b < w.heap.size) : (plus w j d).frozen? ⟨b, o, none⟩ = w.frozen? ⟨b, o, none⟩ := by
  simp only [World.frozen?, plus_heap w j d b h]
theorem plus_setCell (w : World) (j : List Obj) (d : Nat) (b o : Nat) (v : Value) (h : b < w.heap.size) : (plus w j d).setCell ⟨b, o, none⟩ v = plus (w.setCell ⟨b, o, none⟩ v) j d := by
  unfold World.setCell plus
  congr 1
  apply Array.ext_getElem?
  intro k
  simp only [Array.getElem?_modify, Array.getElem?_append, Array.size_modify]
  by_cases hk : k < w.heap.size
  · simp [hk]
  · have : ¬ b = k := by omega
    simp [hk, this]
theorem plus_drew (w : World) (j : List Obj) (d : Nat) : (plus w j d).drew = plus w j (d + 1) := rfl
theorem plus_plus (w : World) (j j' : List Obj) (d d' : Nat) : plus (plus w j d) j' d' = plus w (j ++ j') d' := by
  simp [plus]
theorem plus_alloc (w : World) (j : List Obj) (d : Nat) (o : Obj) : (plus w j d).alloc o = plus w (j ++ [o]) d := by
  show ({ w with heap := (w.heap ++ j.toArray).push o, drawn := d } : World) = { w with heap := w.heap ++ (j ++ [o]).toArray, drawn := d }
  congr 1
  rw [← List.append_toArray, ← Array.append_assoc]
  rfl
theorem alloc_plus (w : World) (o : Obj) : w.alloc o = plus w [o] w.drawn := rfl
theorem below_plus {B : Nat} {a w : World} (h : Below B a w) (hB : B ≤ w.heap.size) (j : List Obj) (d : Nat) : Below B a (plus w j d) :=
  h.trans ⟨rfl, rfl, rfl, by simp [plus], fun k hk => plus_heap w j d k (by omega)⟩
theorem plus_of_below {w w' : World} (h : Below w.heap.size w w') : ∃ j d, w' = plus w j d := by
  refine ⟨(w'.heap.toList.drop w.heap.size), w'.drawn, ?_⟩
  obtain ⟨h1, h2, h3, h4, h5⟩ := h
  cases w'; cases w
  simp only [plus] at *
  subst h1 h2 h3
  congr 1
  apply Array.ext_getElem?
  intro k
  rw [Array.getElem?_append]
  split
  · exact h5 k (by assumption)
  · rename_i hk
    simp only [List.getElem?_toArray, List.getElem?_drop, Array.getElem?_toList]
    congr 1; omega

/-! ## An array of numbers -/
def arrF (k : IntKind) (n : Nat) (a : Nat → Int) : Array Value := ((List.range n).map fun i => Value.int k (a i)).toArray
def upd (a : Nat → Int) (i : Nat) (v : Int) : Nat → Int := fun j => if j = i then v else a j

theorem arrF_size (k n a) : (arrF k n a).size = n := by simp [arrF]
theorem arrF_get (k n a i) (h : i < n) : (arrF k n a)[i]? = some (.int k (a i)) := by simp [arrF, h]
theorem arrF_getElem (k n a i) (h : i < (arrF k n a).size) : (arrF k n a)[i] = .int k (a i) := by simp [arrF]
theorem arrF_set (k n a i v) : (arrF k n a).setIfInBounds i (.int k v) = arrF k n (upd a i v) := by
  apply Array.ext_getElem?
  intro j
  simp only [arrF, List.setIfInBounds_toArray, List.getElem?_toArray, List.getElem?_set, List.getElem?_map, List.length_map, List.length_range]
  by_cases hj : j < n
  · by_cases hij : i = j
    · subst hij; simp [hj, upd]
    · have hji : ¬ j = i := fun e => hij e.symm
      simp [hj, hij, upd, hji]
  · by_cases hij : i = j
    · subst hij; simp [hj]
    · simp [hj, hij]
theorem arrF_ext {k n a b} (h : ∀ i, i < n → a i = b i) : arrF k n a = arrF k n b := by
  unfold arrF
  congr 1
  apply List.map_congr_left
  intro i hi
  rw [h i (by simpa using hi)]
theorem arrF_one (k n a) : (arrF k n a).all (·.oneCell') = true := by
  rw [Array.all_eq_true_iff_forall_mem]
  intro v hv
  simp only [arrF, List.mem_toArray, List.mem_map, List.mem_range] at hv
  obtain ⟨i, _, rfl⟩ := hv
  rfl
def zeroF : Nat → Int := fun _ => 0

/-! ## An array of truth values -/
def arrO (n : Nat) (a : Nat → Bool) : Array Value := ((List.range n).map fun i => Value.bool (a i)).toArray
def updO (a : Nat → Bool) (i : Nat) (v : Bool) : Nat → Bool := fun j => if j = i then v else a j
theorem arrO_size (n a) : (arrO n a).size = n := by simp [arrO]
theorem arrO_get (n a i) (h : i < n) : (arrO n a)[i]? = some (.bool (a i)) := by simp [arrO, h]
theorem arrO_getElem (n a i) (h : i < (arrO n a).size) : (arrO n a)[i] = .bool (a i) := by simp [arrO]
theorem arrO_set (n a i v) : (arrO n a).setIfInBounds i (.bool v) = arrO n (updO a i v) := by
  apply Array.ext_getElem?
  intro j
  simp only [arrO, List.setIfInBounds_toArray, List.getElem?_toArray, List.getElem?_set, List.getElem?_map, List.length_map, List.length_range]
  by_cases hj : j < n
  · by_cases hij : i = j
    · subst hij; simp [hj, updO]
    · have hji : ¬ j = i := fun e => hij e.symm
      simp [hj, hij, updO, hji]
  · by_cases hij : i = j
    · subst hij; simp [hj]
    · simp [hj, hij]
theorem arrO_ext {n a b} (h : ∀ i, i < n → a i = b i) : arrO n a = arrO n b := by
  unfold arrO
  congr 1
  apply List.map_congr_left
  intro i hi
  rw [h i (by simpa using hi)]
theorem arrO_one (n a) : (arrO n a).all (·.oneCell') = true := by
  rw [Array.all_eq_true_iff_forall_mem]
  intro v hv
  simp only [arrO, List.mem_toArray, List.mem_map, List.mem_range] at hv
  obtain ⟨i, _, rfl⟩ := hv
  rfl
def noneO : Nat → Bool := fun _ => false
theorem arrO_none8 : (#[.bool false, .bool false, .bool false, .bool false, .bool false, .bool false, .bool false, .bool false] : Array Value) = arrO 8 noneO := by
  simp [arrO, noneO, List.range_succ]

/-! ## An array of natural numbers, read as whole numbers -/
def up (s : Nat → Nat) : Nat → Int := fun i => (s i : Int)
def updN (s : Nat → Nat) (i v : Nat) : Nat → Nat := fun j => if j = i then v else s j
theorem up_apply (s i) : up s i = (s i : Int) := rfl
theorem upd_up (s : Nat → Nat) (i v : Nat) : upd (up s) i (v : Int) = up (updN s i v) := by
  funext j
  simp only [upd, up, updN]
  split <;> rfl
theorem upd_up_zero (s : Nat → Nat) (i : Nat) : upd (up s) i 0 = up (updN s i 0) := upd_up s i 0
theorem updN_same (s i v) : updN s i v i = v := by simp [updN]
theorem updN_other (s i v j) (h : j ≠ i) : updN s i v j = s j := by simp [updN, h]
def zeroN : Nat → Nat := fun _ => 0
theorem zeroF_up : zeroF = up zeroN := rfl

/-! ## A block's cells, whole -/
theorem wpList_load_arr {P : Program} {ops : Array Oper} {rest : List Oper} {o : Oper} {a : Act} {w : World} {Q : Exit → Act → World → Prop} (hgd : o.guard = none) (ty : TypeId) (x : Operand) (ho : o.op = .load ty x)
    (b : Nat) (hx : a.eval x = .pointer (some ⟨b, 0, none⟩)) (n : Nat) (e : TypeId) (hu : P.underlying ty = some (.array n e)) (hi : (P.info? ty).map (·.size) = some n)
    (c : Array Value) (t : TypeId) (fr : Nat × Nat) (hb : w.heap[b]? = some (.cells c t fr)) (hc : c.size = n)
    (h : wpList P ops Q rest (a.put o.dst (.agg c)) w) : wpList P ops Q (o :: rest) a w :=
  wpList_load_row hgd ty x ho b hx t c fr _ hb hu rfl (by rw [hi, hc]) h

theorem wpList_store_arr {P : Program} {ops : Array Oper} {rest : List Oper} {o : Oper} {a : Act} {w : World} {Q : Exit → Act → World → Prop} (hgd : o.guard = none) (hdst : o.dst = none) (ty : TypeId) (x y : Operand) (ho : o.op = .store ty x y)
    (b : Nat) (hx : a.eval x = .pointer (some ⟨b, 0, none⟩)) (cells : Array Value) (hy : a.eval y = .agg cells) (n : Nat) (hi : (P.info? ty).map (·.size) = some n)
    (c : Array Value) (t : TypeId) (hb : w.heap[b]? = some (.cells c t (0, 0))) (hc : c.size = n) (hn : cells.size = n) (h1 : cells.all (·.oneCell') = true)
    (w' : World) (hw : w.setRow b cells = w')
    (h : wpList P ops Q rest a w') : wpList P ops Q (o :: rest) a w := by
  subst hw
  refine wpList_store_row hgd ty x y ho b cells hx hy t c hb (by rw [hi, hn]) (by rw [hc, hn]) h1 ?_
  rw [hdst]; exact h

theorem heap_at (w : World) (o : Obj) (b : Nat) (h : b = w.heap.size) : (w.alloc o).heap[b]? = some o := by subst h; exact heap_alloc_last w o
theorem heap_past (w : World) (o : Obj) (b : Nat) (h : b < w.heap.size) : (w.alloc o).heap[b]? = w.heap[b]? := Below.heap_alloc w o b h
theorem heap_past' {w : World} {o : Obj} {b : Nat} {x : Option Obj} (h : b < w.heap.size) (hx : w.heap[b]? = x) : (w.alloc o).heap[b]? = x := (heap_past w o b h).trans hx
theorem heap_plus' {w : World} {j : List Obj} {d b : Nat} {x : Option Obj} (h : b < w.heap.size) (hx : w.heap[b]? = x) : (plus w j d).heap[b]? = x := (plus_heap w j d b h).trans hx
theorem below_alloc' {B : Nat} {a w : World} {o : Obj} (hB : B ≤ w.heap.size) (h : Below B a w) : Below B a (w.alloc o) := h.alloc hB o
theorem below_plus' {B : Nat} {a w : World} {j : List Obj} {d : Nat} (hB : B ≤ w.heap.size) (h : Below B a w) : Below B a (plus w j d) := below_plus h hB j d
theorem setRow_at (w : World) (c c' : Array Value) (t : TypeId) (b : Nat) (h : b = w.heap.size) : (w.alloc (.cells c t)).setRow b c' = w.alloc (.cells c' t) := by subst h; exact World.setRow_alloc_new w c c' t
theorem setRow_past (w : World) (o : Obj) (b : Nat) (c' : Array Value) (h : b < w.heap.size) : (w.alloc o).setRow b c' = (w.setRow b c').alloc o := by
  show ({ (w.alloc o) with heap := _ } : World) = _
  unfold World.setRow
  show ({ w with heap := _ } : World) = { w with heap := _ }
  congr 1
  apply Array.ext_getElem?
  intro k
  show ((w.heap.push o).modify b _)[k]? = ((w.heap.modify b _).push o)[k]?
  simp only [Array.getElem?_modify, Array.getElem?_push, Array.size_modify]
  by_cases hk : k = w.heap.size
  · subst hk
    have : ¬ b = w.heap.size := by omega
    simp [this]
  · simp [hk]
theorem setRow_plus (w : World) (j : List Obj) (d b : Nat) (c' : Array Value) (h : b < w.heap.size) : (plus w j d).setRow b c' = plus (w.setRow b c') j d := by
  unfold World.setRow plus
  congr 1
  apply Array.ext_getElem?
  intro k
  simp only [Array.getElem?_modify, Array.getElem?_append, Array.size_modify]
  by_cases hk : k < w.heap.size
  · simp [hk]
  · have : ¬ b = k := by omega
    simp [hk, this]
/-- a result that lies in a cell: an array -/
theorem ret_arr {P : Program} {fn : Func} {R : Ending → World → Prop} {a : Act} {w : World} {ty : TypeId} {p : Tmp} (h : fn.results = #[.cell p ty])
    (n : Nat) (e : TypeId) (hu : P.underlying ty = some (.array n e)) (hi : (P.info? ty).map (·.size) = some n)
    (b : Nat) (c : Array Value) (t : TypeId) (fr : Nat × Nat) (hp : a.tmps.getD p undef = .pointer (some ⟨b, 0, none⟩)) (hg : w.heap[b]? = some (.cells c t fr)) (hc : c.size = n)
    (hd : a.defers = []) (hR : R (.returned (.agg c)) w) : bodyPost P fn R .ret a w :=
  bodyPost_ret (results_cell_row h _ _ b t c fr _ hp hg hu rfl (by rw [hi, hc])) hd hR

/-- two results, the first an array in a cell, the second in a slot -/
theorem ret_arr2 {P : Program} {fn : Func} {R : Ending → World → Prop} {a : Act} {w : World} {ty : TypeId} {p q : Tmp} (h : fn.results = #[.cell p ty, .tmp q])
    (n : Nat) (e : TypeId) (hu : P.underlying ty = some (.array n e)) (hi : (P.info? ty).map (·.size) = some n)
    (b : Nat) (c : Array Value) (t : TypeId) (fr : Nat × Nat) (hp : a.tmps.getD p undef = .pointer (some ⟨b, 0, none⟩)) (hg : w.heap[b]? = some (.cells c t fr)) (hc : c.size = n)
    (hd : a.defers = []) (hR : R (.returned (.tuple #[.agg c, a.tmps.getD q undef])) w) : bodyPost P fn R .ret a w := by
  have hp' : a.tmps[p]?.getD undef = .pointer (some ⟨b, 0, none⟩) := by simpa using hp
  refine bodyPost_ret ?_ hd hR
  simp [results, h, hp', asAddr, run_loadVar_row w b t ty c fr _ hg hu rfl (by rw [hi, hc])]

theorem plus_drewN (w : World) (j : List Obj) (d n : Nat) : (plus w j d).drewN n = plus w j (d + n) := rfl
theorem plus_nil (w : World) : plus w [] w.drawn = w := by simp [plus]
theorem setRow_at' {w : World} {c c' : Array Value} {t : TypeId} {b : Nat} (h : b = w.heap.size) : (w.alloc (.cells c t)).setRow b c' = w.alloc (.cells c' t) := setRow_at w c c' t b h
theorem setRow_past' {w w1 : World} {o : Obj} {b : Nat} {c' : Array Value} (h : b < w.heap.size) (h1 : w.setRow b c' = w1) : (w.alloc o).setRow b c' = w1.alloc o := by rw [setRow_past w o b c' h, h1]
theorem setRow_plus' {w w1 : World} {j : List Obj} {d b : Nat} {c' : Array Value} (h : b < w.heap.size) (h1 : w.setRow b c' = w1) : (plus w j d).setRow b c' = plus w1 j d := by rw [setRow_plus w j d b c' h, h1]
attribute [go_sem] plus_drewN setRow_at setRow_past setRow_plus plus_size plus_cell plus_frozen plus_setCell plus_drew arrF_size arrF_get arrF_getElem arrF_set
/-! the numbers of blocks: simp's own steps are too few for sums of many parts -/
@[go_sem] theorem lt_sum0 (a : Nat) : a < a + 1 := by omega
@[go_sem] theorem lt_sum1 (a x : Nat) : a < a + 1 + x := by omega
@[go_sem] theorem lt_sum2 (a x y : Nat) : a < a + 1 + x + y := by omega
@[go_sem] theorem lt_sum3 (a x y : Nat) : a < a + 1 + x + y + 1 := by omega
@[go_sem] theorem lt_sum4 (a x y : Nat) : a < a + 1 + x + y + 1 + 1 := by omega
@[go_sem] theorem lt_sum5 (a x : Nat) : a < a + 1 + x + 1 := by omega
@[go_sem] theorem lt_sum6 (a x y : Nat) : a < a + 1 + x + 1 + y := by omega
@[go_sem] theorem lt_sum7 (a x y : Nat) : a < a + 1 + x + 1 + y + 1 := by omega
@[go_sem] theorem lt_sum8 (a x y : Nat) : a < a + 1 + x + 1 + y + 1 + 1 := by omega
@[go_sem] theorem lt_sum9 (a x : Nat) : a < a + 1 + x + 1 + 1 := by omega
@[go_sem] theorem lt_sum10 (a x y : Nat) : a < a + 1 + x + 1 + 1 + y := by omega
@[go_sem] theorem lt_sum11 (a x y : Nat) : a < a + 1 + x + 1 + 1 + y + 1 := by omega
@[go_sem] theorem lt_sum12 (a x y : Nat) : a < a + 1 + x + 1 + 1 + y + 1 + 1 := by omega
@[go_sem] theorem lt_sum13 (a x : Nat) : a < a + 1 + x + 1 + 1 + 1 := by omega
@[go_sem] theorem lt_sum14 (a x y : Nat) : a < a + 1 + x + 1 + 1 + 1 + y := by omega
@[go_sem] theorem lt_sum15 (a x y : Nat) : a < a + 1 + x + 1 + 1 + 1 + y + 1 := by omega
@[go_sem] theorem lt_sum16 (a x y : Nat) : a < a + 1 + x + 1 + 1 + 1 + y + 1 + 1 := by omega
@[go_sem] theorem lt_sum17 (a : Nat) : a < a + 1 + 1 := by omega
@[go_sem] theorem lt_sum18 (a x : Nat) : a < a + 1 + 1 + x := by omega
@[go_sem] theorem lt_sum19 (a x y : Nat) : a < a + 1 + 1 + x + y := by omega
@[go_sem] theorem lt_sum20 (a x y : Nat) : a < a + 1 + 1 + x + y + 1 := by omega
@[go_sem] theorem lt_sum21 (a x y : Nat) : a < a + 1 + 1 + x + y + 1 + 1 := by omega
@[go_sem] theorem lt_sum22 (a x : Nat) : a < a + 1 + 1 + x + 1 := by omega
@[go_sem] theorem lt_sum23 (a x y : Nat) : a < a + 1 + 1 + x + 1 + y := by omega
@[go_sem] theorem lt_sum24 (a x y : Nat) : a < a + 1 + 1 + x + 1 + y + 1 := by omega
@[go_sem] theorem lt_sum25 (a x y : Nat) : a < a + 1 + 1 + x + 1 + y + 1 + 1 := by omega
@[go_sem] theorem lt_sum26 (a x : Nat) : a < a + 1 + 1 + x + 1 + 1 := by omega
@[go_sem] theorem lt_sum27 (a x y : Nat) : a < a + 1 + 1 + x + 1 + 1 + y := by omega
@[go_sem] theorem lt_sum28 (a x y : Nat) : a < a + 1 + 1 + x + 1 + 1 + y + 1 := by omega
@[go_sem] theorem lt_sum29 (a x y : Nat) : a < a + 1 + 1 + x + 1 + 1 + y + 1 + 1 := by omega
@[go_sem] theorem lt_more2 (a x0 x1 : Nat) : a < a + 1 + x0 + x1 := by omega
@[go_sem] theorem lt_more3 (a x0 x1 x2 : Nat) : a < a + 1 + x0 + x1 + x2 := by omega
@[go_sem] theorem lt_more4 (a x0 x1 x2 x3 : Nat) : a < a + 1 + x0 + x1 + x2 + x3 := by omega
@[go_sem] theorem lt_more5 (a x0 x1 x2 x3 x4 : Nat) : a < a + 1 + x0 + x1 + x2 + x3 + x4 := by omega
@[go_sem] theorem lt_more6 (a x0 x1 x2 x3 x4 x5 : Nat) : a < a + 1 + x0 + x1 + x2 + x3 + x4 + x5 := by omega
@[go_sem] theorem lt_more7 (a x0 x1 x2 x3 x4 x5 x6 : Nat) : a < a + 1 + x0 + x1 + x2 + x3 + x4 + x5 + x6 := by omega
@[go_sem] theorem lt_more8 (a x0 x1 x2 x3 x4 x5 x6 x7 : Nat) : a < a + 1 + x0 + x1 + x2 + x3 + x4 + x5 + x6 + x7 := by omega
@[go_sem] theorem lt_more9 (a x0 x1 x2 x3 x4 x5 x6 x7 x8 : Nat) : a < a + 1 + x0 + x1 + x2 + x3 + x4 + x5 + x6 + x7 + x8 := by omega
@[go_sem] theorem lt_more10 (a x0 x1 x2 x3 x4 x5 x6 x7 x8 x9 : Nat) : a < a + 1 + x0 + x1 + x2 + x3 + x4 + x5 + x6 + x7 + x8 + x9 := by omega
@[go_sem] theorem lt_more11 (a x0 x1 x2 x3 x4 x5 x6 x7 x8 x9 x10 : Nat) : a < a + 1 + x0 + x1 + x2 + x3 + x4 + x5 + x6 + x7 + x8 + x9 + x10 := by omega
@[go_sem] theorem lt_more12 (a x0 x1 x2 x3 x4 x5 x6 x7 x8 x9 x10 x11 : Nat) : a < a + 1 + x0 + x1 + x2 + x3 + x4 + x5 + x6 + x7 + x8 + x9 + x10 + x11 := by omega
@[go_sem] theorem lt_more13 (a x0 x1 x2 x3 x4 x5 x6 x7 x8 x9 x10 x11 x12 : Nat) : a < a + 1 + x0 + x1 + x2 + x3 + x4 + x5 + x6 + x7 + x8 + x9 + x10 + x11 + x12 := by omega
@[go_sem] theorem lt_more14 (a x0 x1 x2 x3 x4 x5 x6 x7 x8 x9 x10 x11 x12 x13 : Nat) : a < a + 1 + x0 + x1 + x2 + x3 + x4 + x5 + x6 + x7 + x8 + x9 + x10 + x11 + x12 + x13 := by omega
@[go_sem] theorem lt_more15 (a x0 x1 x2 x3 x4 x5 x6 x7 x8 x9 x10 x11 x12 x13 x14 : Nat) : a < a + 1 + x0 + x1 + x2 + x3 + x4 + x5 + x6 + x7 + x8 + x9 + x10 + x11 + x12 + x13 + x14 := by omega
@[go_sem] theorem lt_more16 (a x0 x1 x2 x3 x4 x5 x6 x7 x8 x9 x10 x11 x12 x13 x14 x15 : Nat) : a < a + 1 + x0 + x1 + x2 + x3 + x4 + x5 + x6 + x7 + x8 + x9 + x10 + x11 + x12 + x13 + x14 + x15 := by omega
@[go_sem] theorem lt_more17 (a x0 x1 x2 x3 x4 x5 x6 x7 x8 x9 x10 x11 x12 x13 x14 x15 x16 : Nat) : a < a + 1 + x0 + x1 + x2 + x3 + x4 + x5 + x6 + x7 + x8 + x9 + x10 + x11 + x12 + x13 + x14 + x15 + x16 := by omega
@[go_sem] theorem lt_more18 (a x0 x1 x2 x3 x4 x5 x6 x7 x8 x9 x10 x11 x12 x13 x14 x15 x16 x17 : Nat) : a < a + 1 + x0 + x1 + x2 + x3 + x4 + x5 + x6 + x7 + x8 + x9 + x10 + x11 + x12 + x13 + x14 + x15 + x16 + x17 := by omega
@[go_sem] theorem lt_sum30 (a x : Nat) : a < a + 1 + 1 + x + 1 + 1 + 1 := by omega
@[go_sem] theorem lt_sum31 (a x y : Nat) : a < a + 1 + 1 + x + 1 + 1 + 1 + y := by omega
@[go_sem] theorem lt_sum32 (a x y : Nat) : a < a + 1 + 1 + x + 1 + 1 + 1 + y + 1 := by omega
@[go_sem] theorem lt_sum33 (a x y : Nat) : a < a + 1 + 1 + x + 1 + 1 + 1 + y + 1 + 1 := by omega
@[go_sem] theorem lt_sum34 (a : Nat) : a < a + 1 + 1 + 1 := by omega
@[go_sem] theorem lt_sum35 (a x : Nat) : a < a + 1 + 1 + 1 + x := by omega
@[go_sem] theorem lt_sum36 (a x y : Nat) : a < a + 1 + 1 + 1 + x + y := by omega
@[go_sem] theorem lt_sum37 (a x y : Nat) : a < a + 1 + 1 + 1 + x + y + 1 := by omega
@[go_sem] theorem lt_sum38 (a x y : Nat) : a < a + 1 + 1 + 1 + x + y + 1 + 1 := by omega
@[go_sem] theorem lt_sum39 (a x : Nat) : a < a + 1 + 1 + 1 + x + 1 := by omega
@[go_sem] theorem lt_sum40 (a x y : Nat) : a < a + 1 + 1 + 1 + x + 1 + y := by omega
@[go_sem] theorem lt_sum41 (a x y : Nat) : a < a + 1 + 1 + 1 + x + 1 + y + 1 := by omega
@[go_sem] theorem lt_sum42 (a x y : Nat) : a < a + 1 + 1 + 1 + x + 1 + y + 1 + 1 := by omega
@[go_sem] theorem lt_sum43 (a x : Nat) : a < a + 1 + 1 + 1 + x + 1 + 1 := by omega
@[go_sem] theorem lt_sum44 (a x y : Nat) : a < a + 1 + 1 + 1 + x + 1 + 1 + y := by omega
@[go_sem] theorem lt_sum45 (a x y : Nat) : a < a + 1 + 1 + 1 + x + 1 + 1 + y + 1 := by omega
@[go_sem] theorem lt_sum46 (a x y : Nat) : a < a + 1 + 1 + 1 + x + 1 + 1 + y + 1 + 1 := by omega
@[go_sem] theorem lt_sum47 (a x : Nat) : a < a + 1 + 1 + 1 + x + 1 + 1 + 1 := by omega
@[go_sem] theorem lt_sum48 (a x y : Nat) : a < a + 1 + 1 + 1 + x + 1 + 1 + 1 + y := by omega
@[go_sem] theorem lt_sum49 (a x y : Nat) : a < a + 1 + 1 + 1 + x + 1 + 1 + 1 + y + 1 := by omega
@[go_sem] theorem lt_sum50 (a x y : Nat) : a < a + 1 + 1 + 1 + x + 1 + 1 + 1 + y + 1 + 1 := by omega
@[go_sem] theorem lt_sum51 (a : Nat) : a < a + 1 + 1 + 1 + 1 := by omega
@[go_sem] theorem lt_sum52 (a x : Nat) : a < a + 1 + 1 + 1 + 1 + x := by omega
@[go_sem] theorem lt_sum53 (a x y : Nat) : a < a + 1 + 1 + 1 + 1 + x + y := by omega
@[go_sem] theorem lt_sum54 (a x y : Nat) : a < a + 1 + 1 + 1 + 1 + x + y + 1 := by omega
@[go_sem] theorem lt_sum55 (a x y : Nat) : a < a + 1 + 1 + 1 + 1 + x + y + 1 + 1 := by omega
@[go_sem] theorem lt_sum56 (a x : Nat) : a < a + 1 + 1 + 1 + 1 + x + 1 := by omega
@[go_sem] theorem lt_sum57 (a x y : Nat) : a < a + 1 + 1 + 1 + 1 + x + 1 + y := by omega
@[go_sem] theorem lt_sum58 (a x y : Nat) : a < a + 1 + 1 + 1 + 1 + x + 1 + y + 1 := by omega
@[go_sem] theorem lt_sum59 (a x y : Nat) : a < a + 1 + 1 + 1 + 1 + x + 1 + y + 1 + 1 := by omega
@[go_sem] theorem lt_sum60 (a x : Nat) : a < a + 1 + 1 + 1 + 1 + x + 1 + 1 := by omega
@[go_sem] theorem lt_sum61 (a x y : Nat) : a < a + 1 + 1 + 1 + 1 + x + 1 + 1 + y := by omega
@[go_sem] theorem lt_sum62 (a x y : Nat) : a < a + 1 + 1 + 1 + 1 + x + 1 + 1 + y + 1 := by omega
@[go_sem] theorem lt_sum63 (a x y : Nat) : a < a + 1 + 1 + 1 + 1 + x + 1 + 1 + y + 1 + 1 := by omega
@[go_sem] theorem lt_sum64 (a x : Nat) : a < a + 1 + 1 + 1 + 1 + x + 1 + 1 + 1 := by omega
@[go_sem] theorem lt_sum65 (a x y : Nat) : a < a + 1 + 1 + 1 + 1 + x + 1 + 1 + 1 + y := by omega
@[go_sem] theorem lt_sum66 (a x y : Nat) : a < a + 1 + 1 + 1 + 1 + x + 1 + 1 + 1 + y + 1 := by omega
@[go_sem] theorem lt_sum67 (a x y : Nat) : a < a + 1 + 1 + 1 + 1 + x + 1 + 1 + 1 + y + 1 + 1 := by omega
@[go_sem] theorem lt_sum68 (a : Nat) : a < a + 1 + 1 + 1 + 1 + 1 := by omega
@[go_sem] theorem lt_sum69 (a x : Nat) : a < a + 1 + 1 + 1 + 1 + 1 + x := by omega
@[go_sem] theorem lt_sum70 (a x y : Nat) : a < a + 1 + 1 + 1 + 1 + 1 + x + y := by omega
@[go_sem] theorem lt_sum71 (a x y : Nat) : a < a + 1 + 1 + 1 + 1 + 1 + x + y + 1 := by omega
@[go_sem] theorem lt_sum72 (a x y : Nat) : a < a + 1 + 1 + 1 + 1 + 1 + x + y + 1 + 1 := by omega
@[go_sem] theorem lt_sum73 (a x : Nat) : a < a + 1 + 1 + 1 + 1 + 1 + x + 1 := by omega
@[go_sem] theorem lt_sum74 (a x y : Nat) : a < a + 1 + 1 + 1 + 1 + 1 + x + 1 + y := by omega
@[go_sem] theorem lt_sum75 (a x y : Nat) : a < a + 1 + 1 + 1 + 1 + 1 + x + 1 + y + 1 := by omega
@[go_sem] theorem lt_sum76 (a x y : Nat) : a < a + 1 + 1 + 1 + 1 + 1 + x + 1 + y + 1 + 1 := by omega
@[go_sem] theorem lt_sum77 (a x : Nat) : a < a + 1 + 1 + 1 + 1 + 1 + x + 1 + 1 := by omega
@[go_sem] theorem lt_sum78 (a x y : Nat) : a < a + 1 + 1 + 1 + 1 + 1 + x + 1 + 1 + y := by omega
@[go_sem] theorem lt_sum79 (a x y : Nat) : a < a + 1 + 1 + 1 + 1 + 1 + x + 1 + 1 + y + 1 := by omega
@[go_sem] theorem lt_sum80 (a x y : Nat) : a < a + 1 + 1 + 1 + 1 + 1 + x + 1 + 1 + y + 1 + 1 := by omega
@[go_sem] theorem lt_sum81 (a x : Nat) : a < a + 1 + 1 + 1 + 1 + 1 + x + 1 + 1 + 1 := by omega
@[go_sem] theorem lt_sum82 (a x y : Nat) : a < a + 1 + 1 + 1 + 1 + 1 + x + 1 + 1 + 1 + y := by omega
@[go_sem] theorem lt_sum83 (a x y : Nat) : a < a + 1 + 1 + 1 + 1 + 1 + x + 1 + 1 + 1 + y + 1 := by omega
@[go_sem] theorem lt_sum84 (a x y : Nat) : a < a + 1 + 1 + 1 + 1 + 1 + x + 1 + 1 + 1 + y + 1 + 1 := by omega
@[go_sem] theorem lt_sum85 (a : Nat) : a < a + 1 + 1 + 1 + 1 + 1 + 1 := by omega
@[go_sem] theorem lt_sum86 (a x : Nat) : a < a + 1 + 1 + 1 + 1 + 1 + 1 + x := by omega
@[go_sem] theorem lt_sum87 (a x y : Nat) : a < a + 1 + 1 + 1 + 1 + 1 + 1 + x + y := by omega
@[go_sem] theorem lt_sum88 (a x y : Nat) : a < a + 1 + 1 + 1 + 1 + 1 + 1 + x + y + 1 := by omega
@[go_sem] theorem lt_sum89 (a x y : Nat) : a < a + 1 + 1 + 1 + 1 + 1 + 1 + x + y + 1 + 1 := by omega
@[go_sem] theorem lt_sum90 (a x : Nat) : a < a + 1 + 1 + 1 + 1 + 1 + 1 + x + 1 := by omega
@[go_sem] theorem lt_sum91 (a x y : Nat) : a < a + 1 + 1 + 1 + 1 + 1 + 1 + x + 1 + y := by omega
@[go_sem] theorem lt_sum92 (a x y : Nat) : a < a + 1 + 1 + 1 + 1 + 1 + 1 + x + 1 + y + 1 := by omega
@[go_sem] theorem lt_sum93 (a x y : Nat) : a < a + 1 + 1 + 1 + 1 + 1 + 1 + x + 1 + y + 1 + 1 := by omega
@[go_sem] theorem lt_sum94 (a x : Nat) : a < a + 1 + 1 + 1 + 1 + 1 + 1 + x + 1 + 1 := by omega
@[go_sem] theorem lt_sum95 (a x y : Nat) : a < a + 1 + 1 + 1 + 1 + 1 + 1 + x + 1 + 1 + y := by omega
@[go_sem] theorem lt_sum96 (a x y : Nat) : a < a + 1 + 1 + 1 + 1 + 1 + 1 + x + 1 + 1 + y + 1 := by omega
@[go_sem] theorem lt_sum97 (a x y : Nat) : a < a + 1 + 1 + 1 + 1 + 1 + 1 + x + 1 + 1 + y + 1 + 1 := by omega
@[go_sem] theorem lt_sum98 (a x : Nat) : a < a + 1 + 1 + 1 + 1 + 1 + 1 + x + 1 + 1 + 1 := by omega
@[go_sem] theorem lt_sum99 (a x y : Nat) : a < a + 1 + 1 + 1 + 1 + 1 + 1 + x + 1 + 1 + 1 + y := by omega
@[go_sem] theorem lt_sum100 (a x y : Nat) : a < a + 1 + 1 + 1 + 1 + 1 + 1 + x + 1 + 1 + 1 + y + 1 := by omega
@[go_sem] theorem lt_sum101 (a x y : Nat) : a < a + 1 + 1 + 1 + 1 + 1 + 1 + x + 1 + 1 + 1 + y + 1 + 1 := by omega
@[go_sem] theorem lt_sum102 (a x y z : Nat) : a < a + 1 + x + y + z := by omega
@[go_sem] theorem lt_sum103 (a x y z : Nat) : a < a + 1 + x + y + z + 1 := by omega
@[go_sem] theorem lt_sum104 (a x y z : Nat) : a < a + 1 + x + y + 1 + z := by omega
@[go_sem] theorem lt_sum105 (a x y z : Nat) : a < a + 1 + x + y + 1 + z + 1 := by omega
@[go_sem] theorem lt_sum106 (a x y z : Nat) : a < a + 1 + x + y + 1 + 1 + z := by omega
@[go_sem] theorem lt_sum107 (a x y z : Nat) : a < a + 1 + x + y + 1 + 1 + z + 1 := by omega
@[go_sem] theorem lt_sum108 (a x y z : Nat) : a < a + 1 + x + 1 + y + z := by omega
@[go_sem] theorem lt_sum109 (a x y z : Nat) : a < a + 1 + x + 1 + y + z + 1 := by omega
@[go_sem] theorem lt_sum110 (a x y z : Nat) : a < a + 1 + x + 1 + y + 1 + z := by omega
@[go_sem] theorem lt_sum111 (a x y z : Nat) : a < a + 1 + x + 1 + y + 1 + z + 1 := by omega
@[go_sem] theorem lt_sum112 (a x y z : Nat) : a < a + 1 + x + 1 + y + 1 + 1 + z := by omega
@[go_sem] theorem lt_sum113 (a x y z : Nat) : a < a + 1 + x + 1 + y + 1 + 1 + z + 1 := by omega
@[go_sem] theorem lt_sum114 (a x y z : Nat) : a < a + 1 + x + 1 + 1 + y + z := by omega
@[go_sem] theorem lt_sum115 (a x y z : Nat) : a < a + 1 + x + 1 + 1 + y + z + 1 := by omega
@[go_sem] theorem lt_sum116 (a x y z : Nat) : a < a + 1 + x + 1 + 1 + y + 1 + z := by omega
@[go_sem] theorem lt_sum117 (a x y z : Nat) : a < a + 1 + x + 1 + 1 + y + 1 + z + 1 := by omega
@[go_sem] theorem lt_sum118 (a x y z : Nat) : a < a + 1 + x + 1 + 1 + y + 1 + 1 + z := by omega
@[go_sem] theorem lt_sum119 (a x y z : Nat) : a < a + 1 + x + 1 + 1 + y + 1 + 1 + z + 1 := by omega
@[go_sem] theorem lt_sum120 (a x y z : Nat) : a < a + 1 + 1 + x + y + z := by omega
@[go_sem] theorem lt_sum121 (a x y z : Nat) : a < a + 1 + 1 + x + y + z + 1 := by omega
@[go_sem] theorem lt_sum122 (a x y z : Nat) : a < a + 1 + 1 + x + y + 1 + z := by omega
@[go_sem] theorem lt_sum123 (a x y z : Nat) : a < a + 1 + 1 + x + y + 1 + z + 1 := by omega
@[go_sem] theorem lt_sum124 (a x y z : Nat) : a < a + 1 + 1 + x + y + 1 + 1 + z := by omega
@[go_sem] theorem lt_sum125 (a x y z : Nat) : a < a + 1 + 1 + x + y + 1 + 1 + z + 1 := by omega
@[go_sem] theorem lt_sum126 (a x y z : Nat) : a < a + 1 + 1 + x + 1 + y + z := by omega
@[go_sem] theorem lt_sum127 (a x y z : Nat) : a < a + 1 + 1 + x + 1 + y + z + 1 := by omega
@[go_sem] theorem lt_sum128 (a x y z : Nat) : a < a + 1 + 1 + x + 1 + y + 1 + z := by omega
@[go_sem] theorem lt_sum129 (a x y z : Nat) : a < a + 1 + 1 + x + 1 + y + 1 + z + 1 := by omega
@[go_sem] theorem lt_sum130 (a x y z : Nat) : a < a + 1 + 1 + x + 1 + y + 1 + 1 + z := by omega
@[go_sem] theorem lt_sum131 (a x y z : Nat) : a < a + 1 + 1 + x + 1 + y + 1 + 1 + z + 1 := by omega
@[go_sem] theorem lt_sum132 (a x y z : Nat) : a < a + 1 + 1 + x + 1 + 1 + y + z := by omega
@[go_sem] theorem lt_sum133 (a x y z : Nat) : a < a + 1 + 1 + x + 1 + 1 + y + z + 1 := by omega
@[go_sem] theorem lt_sum134 (a x y z : Nat) : a < a + 1 + 1 + x + 1 + 1 + y + 1 + z := by omega
@[go_sem] theorem lt_sum135 (a x y z : Nat) : a < a + 1 + 1 + x + 1 + 1 + y + 1 + z + 1 := by omega
@[go_sem] theorem lt_sum136 (a x y z : Nat) : a < a + 1 + 1 + x + 1 + 1 + y + 1 + 1 + z := by omega
@[go_sem] theorem lt_sum137 (a x y z : Nat) : a < a + 1 + 1 + x + 1 + 1 + y + 1 + 1 + z + 1 := by omega
@[go_sem] theorem lt_sum138 (a x y z : Nat) : a < a + 1 + 1 + 1 + x + y + z := by omega
@[go_sem] theorem lt_sum139 (a x y z : Nat) : a < a + 1 + 1 + 1 + x + y + z + 1 := by omega
@[go_sem] theorem lt_sum140 (a x y z : Nat) : a < a + 1 + 1 + 1 + x + y + 1 + z := by omega
@[go_sem] theorem lt_sum141 (a x y z : Nat) : a < a + 1 + 1 + 1 + x + y + 1 + z + 1 := by omega
@[go_sem] theorem lt_sum142 (a x y z : Nat) : a < a + 1 + 1 + 1 + x + y + 1 + 1 + z := by omega
@[go_sem] theorem lt_sum143 (a x y z : Nat) : a < a + 1 + 1 + 1 + x + y + 1 + 1 + z + 1 := by omega
@[go_sem] theorem lt_sum144 (a x y z : Nat) : a < a + 1 + 1 + 1 + x + 1 + y + z := by omega
@[go_sem] theorem lt_sum145 (a x y z : Nat) : a < a + 1 + 1 + 1 + x + 1 + y + z + 1 := by omega
@[go_sem] theorem lt_sum146 (a x y z : Nat) : a < a + 1 + 1 + 1 + x + 1 + y + 1 + z := by omega
@[go_sem] theorem lt_sum147 (a x y z : Nat) : a < a + 1 + 1 + 1 + x + 1 + y + 1 + z + 1 := by omega
@[go_sem] theorem lt_sum148 (a x y z : Nat) : a < a + 1 + 1 + 1 + x + 1 + y + 1 + 1 + z := by omega
@[go_sem] theorem lt_sum149 (a x y z : Nat) : a < a + 1 + 1 + 1 + x + 1 + y + 1 + 1 + z + 1 := by omega
@[go_sem] theorem lt_sum150 (a x y z : Nat) : a < a + 1 + 1 + 1 + x + 1 + 1 + y + z := by omega
@[go_sem] theorem lt_sum151 (a x y z : Nat) : a < a + 1 + 1 + 1 + x + 1 + 1 + y + z + 1 := by omega
@[go_sem] theorem lt_sum152 (a x y z : Nat) : a < a + 1 + 1 + 1 + x + 1 + 1 + y + 1 + z := by omega
@[go_sem] theorem lt_sum153 (a x y z : Nat) : a < a + 1 + 1 + 1 + x + 1 + 1 + y + 1 + z + 1 := by omega
@[go_sem] theorem lt_sum154 (a x y z : Nat) : a < a + 1 + 1 + 1 + x + 1 + 1 + y + 1 + 1 + z := by omega
@[go_sem] theorem lt_sum155 (a x y z : Nat) : a < a + 1 + 1 + 1 + x + 1 + 1 + y + 1 + 1 + z + 1 := by omega
attribute [go_sem] arrO_size arrO_get arrO_getElem arrO_set up_apply upd_up upd_up_zero
theorem arrF_zero8 (k : IntKind) : (#[.int k 0, .int k 0, .int k 0, .int k 0, .int k 0, .int k 0, .int k 0, .int k 0] : Array Value) = arrF k 8 zeroF := by
  simp [arrF, zeroF, List.range_succ]
@[go_sem] theorem arrF_zero8_u8 : (#[.int .u8 0, .int .u8 0, .int .u8 0, .int .u8 0, .int .u8 0, .int .u8 0, .int .u8 0, .int .u8 0] : Array Value) = arrF .u8 8 (up zeroN) := arrF_zero8 _
attribute [go_sem] arrO_none8
/-- a block that holds so many cells and may be written -/
def rowFree (w : World) (b m : Nat) : Bool := match w.heap[b]? with | some (.cells c _ (0, 0)) => c.size == m | _ => false
theorem rowFree_at {w : World} {c : Array Value} {t : TypeId} {b m : Nat} (h : b = w.heap.size) : rowFree (w.alloc (.cells c t)) b m = (c.size == m) := by
  simp only [rowFree, heap_at w _ b h]
theorem rowFree_past {w : World} {o : Obj} {b m : Nat} (h : b < w.heap.size) : rowFree (w.alloc o) b m = rowFree w b m := by
  simp only [rowFree, heap_past w o b h]
theorem rowFree_plus {w : World} {j : List Obj} {d b m : Nat} (h : b < w.heap.size) : rowFree (plus w j d) b m = rowFree w b m := by
  simp only [rowFree, plus_heap w j d b h]
theorem rowFree_drew (w : World) (b m : Nat) : rowFree w.drew b m = rowFree w b m := rfl
theorem storeCells_row {P : Program} {w : World} {b m : Nat} (cs : Array Value) (h : rowFree w b m = true) (hm : cs.size = m) (h1 : cs.all (·.oneCell') = true) :
    (storeCells ⟨b, 0, none⟩ cs.toList).run P w = .ok () (w.setRow b cs) := by
  unfold rowFree at h
  split at h
  · rename_i c t hb
    have := run_storeCells_from (P := P) b t cs.toList 0 c w hb (by simp at h ⊢; omega) (fun v hv => (Array.all_eq_true_iff_forall_mem.1 h1) v (by simpa using hv))
    simpa using this
  · cases h
theorem storeCells_arrF {P : Program} {w : World} {b m : Nat} {k : IntKind} {f : Nat → Int} (h : rowFree w b m = true) : (storeCells ⟨b, 0, none⟩ (arrF k m f).toList).run P w = .ok () (w.setRow b (arrF k m f)) :=
  storeCells_row _ h (arrF_size _ _ _) (arrF_one _ _ _)
theorem storeCells_arrO {P : Program} {w : World} {b m : Nat} {f : Nat → Bool} (h : rowFree w b m = true) : (storeCells ⟨b, 0, none⟩ (arrO m f).toList).run P w = .ok () (w.setRow b (arrO m f)) :=
  storeCells_row _ h (arrO_size _ _) (arrO_one _ _)
attribute [go_sem] rowFree_at rowFree_past rowFree_plus rowFree_drew storeCells_arrF storeCells_arrO
/-- eight cells that were read one by one -/
@[go_sem] theorem arr_fold8 (k : IntKind) (s : Nat → Nat) : (#[.int k (s 0 : Int), .int k (s 1 : Int), .int k (s 2 : Int), .int k (s 3 : Int), .int k (s 4 : Int), .int k (s 5 : Int), .int k (s 6 : Int), .int k (s 7 : Int)] : Array Value) = arrF k 8 (up s) := by
  simp [arrF, up, List.range_succ]
@[go_sem] theorem arrF_fold8 (k : IntKind) (f : Nat → Int) : (#[.int k (f 0), .int k (f 1), .int k (f 2), .int k (f 3), .int k (f 4), .int k (f 5), .int k (f 6), .int k (f 7)] : Array Value) = arrF k 8 f := by
  simp [arrF, List.range_succ]
end Go.Proofs.Ytikakoclmmmjdaa
namespace Go.Proofs.Ytikakoclmmmjdaa
def inB (n lo hi : Int) : Bool := decide (lo ≤ n ∧ n ≤ hi)
theorem inB_true {n lo hi : Int} (h : inB n lo hi = true) : lo ≤ n ∧ n ≤ hi := by simpa [inB] using h
theorem inB_false {n lo hi : Int} (h : inB n lo hi = false) : ¬ (lo ≤ n ∧ n ≤ hi) := by simpa [inB] using h

/-- the first k numbers of the half turn of n strands -/
def halfN (n k : Nat) : Nat → Nat := fun i => if i < k then n - 1 - i else 0
theorem halfN_zero (n : Nat) : halfN n 0 = zeroN := by funext i; simp [halfN, zeroN]
theorem halfN_succ (n k : Nat) : updN (halfN n k) k (n - 1 - k) = halfN n (k + 1) := by
  funext i
  simp only [updN, halfN]
  by_cases h : i = k
  · subst h; simp
  · by_cases h2 : i < k
    · have : i < k + 1 := by omega
      simp [h, h2, this]
    · have : ¬ i < k + 1 := by omega
      simp [h, h2, this]
/-- the numbers 0 to k - 1 -/
def idK (k : Nat) : Nat → Nat := fun i => if i < k then i else 0
theorem idK_zero : idK 0 = zeroN := by funext i; simp [idK, zeroN]
theorem idK_succ (k : Nat) : updN (idK k) k k = idK (k + 1) := by
  funext i
  simp only [updN, idK]
  by_cases h : i = k
  · subst h; simp
  · by_cases h2 : i < k
    · have : i < k + 1 := by omega
      simp [h, h2, this]
    · have : ¬ i < k + 1 := by omega
      simp [h, h2, this]
/-- the first k numbers of a, then b -/
def thenK (a b : Nat → Nat) (k : Nat) : Nat → Nat := fun i => if i < k then b (a i) else 0
theorem thenK_zero (a b) : thenK a b 0 = zeroN := by funext i; simp [thenK, zeroN]
theorem thenK_succ (a b : Nat → Nat) (k : Nat) : updN (thenK a b k) k (b (a k)) = thenK a b (k + 1) := by
  funext i
  simp only [updN, thenK]
  by_cases h : i = k
  · subst h; simp
  · by_cases h2 : i < k
    · have : i < k + 1 := by omega
      simp [h, h2, this]
    · have : ¬ i < k + 1 := by omega
      simp [h, h2, this]
/-- the way back from the first k numbers -/
def backK (s : Nat → Nat) : Nat → Nat → Nat
  | 0 => zeroN
  | k + 1 => updN (backK s k) (s k) k
theorem backK_zero (s) : backK s 0 = zeroN := rfl
theorem backK_succ (s : Nat → Nat) (k : Nat) : updN (backK s k) (s k) k = backK s (k + 1) := rfl
theorem halfN_lt {n : Nat} (h2 : n ≤ 8) : ∀ i, i < n → halfN n n i < 8 := by
  intro i hi; simp only [halfN, if_pos hi]; omega
theorem halfN_ltn {n : Nat} : ∀ i, i < n → halfN n n i < n := by
  intro i hi; simp only [halfN, if_pos hi]; omega
theorem thenK_lt {n m : Nat} {a b : Nat → Nat} (ha : ∀ i, i < n → a i < n) (hb : ∀ i, i < n → b i < m) : ∀ i, i < n → thenK a b n i < m := by
  intro i hi; simp only [thenK, if_pos hi]; exact hb _ (ha i hi)
/-- the first k numbers are those of a permutation of n numbers, and 0 behind them -/
def GoodK (n : Nat) (s : Nat → Nat) (k : Nat) : Prop := ∀ x, x < k → (n ≤ x → s x = 0) ∧ (x < n → s x < n ∧ ∀ y, y < x → s y ≠ s x)
instance (n s k) : Decidable (GoodK n s k) := by unfold GoodK; infer_instance
/-- which numbers are among the first k ones -/
def seenK (n : Nat) (s : Nat → Nat) : Nat → Nat → Bool
  | 0 => noneO
  | k + 1 => if k < n then updO (seenK n s k) (s k) true else seenK n s k
theorem seenK_zero (n s) : seenK n s 0 = noneO := rfl
theorem seenK_lt {n s k} (h : k < n) : updO (seenK n s k) (s k) true = seenK n s (k + 1) := by simp [seenK, h]
theorem seenK_ge {n s k} (h : n ≤ k) : seenK n s k = seenK n s (k + 1) := by
  have : ¬ k < n := by omega
  simp [seenK, this]
theorem seenK_iff (n s) : ∀ k v, seenK n s k v = true ↔ ∃ x, x < k ∧ x < n ∧ s x = v
  | 0, v => by simp [seenK, noneO]
  | k + 1, v => by
    have ih := seenK_iff n s k v
    simp only [seenK]
    by_cases h : k < n
    · rw [if_pos h]
      simp only [updO]
      by_cases hv : v = s k
      · simp only [hv, if_true, true_iff]
        exact ⟨k, by omega, h, rfl⟩
      · rw [if_neg hv, ih]
        constructor
        · rintro ⟨x, h1, h2, h3⟩; exact ⟨x, by omega, h2, h3⟩
        · rintro ⟨x, h1, h2, h3⟩
          have : x ≠ k := fun e => hv (by rw [← h3, e])
          exact ⟨x, by omega, h2, h3⟩
    · rw [if_neg h, ih]
      constructor
      · rintro ⟨x, h1, h2, h3⟩; exact ⟨x, by omega, h2, h3⟩
      · rintro ⟨x, h1, h2, h3⟩; exact ⟨x, by omega, h2, h3⟩
theorem good_zero (n s) : GoodK n s 0 := fun x h => by omega
theorem good_ge {n s k} (h : n ≤ k) (hg : GoodK n s k) (h0 : s k = 0) : GoodK n s (k + 1) := by
  intro x hx
  by_cases e : x = k
  · subst e; exact ⟨fun _ => h0, fun h' => by omega⟩
  · exact hg x (by omega)
theorem good_lt {n s k} (h : k < n) (hg : GoodK n s k) (h0 : s k < n) (h1 : seenK n s k (s k) = false) : GoodK n s (k + 1) := by
  intro x hx
  by_cases e : x = k
  · subst e
    refine ⟨fun h' => by omega, fun _ => ⟨h0, fun y hy he => ?_⟩⟩
    have := (seenK_iff n s x (s x)).2 ⟨y, hy, by omega, he⟩
    rw [h1] at this; cases this
  · exact hg x (by omega)
theorem bad_ge {n s k} (hk : k < 8) (h : n ≤ k) (h0 : ¬ s k = 0) : ¬ GoodK n s 8 := fun hg => h0 ((hg k hk).1 h)
theorem bad_big {n s k} (hk : k < 8) (h : k < n) (h0 : n ≤ s k) : ¬ GoodK n s 8 := fun hg => by have := ((hg k hk).2 h).1; omega
theorem bad_twice {n s k} (hk : k < 8) (h : k < n) (h0 : seenK n s k (s k) = true) : ¬ GoodK n s 8 := fun hg => by
  obtain ⟨y, hy, hyn, he⟩ := (seenK_iff n s k (s k)).1 h0
  exact ((hg k hk).2 h).2 y hy he
/-- is s a simple braid of n strands? -/
def okB (n : Int) (s : Nat → Nat) : Bool := inB n 1 8 && decide (GoodK n.toNat s 8)
theorem okB_out {n s} (h : inB n 1 8 = false) : okB n s = false := by simp [okB, h]
theorem okB_bad {n : Nat} {s} (h : ¬ GoodK n s 8) : okB n s = false := by simp [okB, h]
theorem okB_good {n : Nat} {s} (h : inB n 1 8 = true) (hg : GoodK n s 8) : okB n s = true := by simp [okB, h, hg]
theorem okB_true {n : Int} {s} (h : okB n s = true) : ∃ m : Nat, n = m ∧ 1 ≤ m ∧ m ≤ 8 ∧ GoodK m s 8 := by
  simp only [okB, Bool.and_eq_true, decide_eq_true_eq] at h
  have := inB_true h.1
  exact ⟨n.toNat, by omega, by omega, by omega, h.2⟩
theorem good_le {n s} (h2 : n ≤ 8) (hg : GoodK n s 8) : ∀ i, i < n → s i < n := fun i hi => ((hg i (by omega)).2 hi).1
theorem good_inj {n s} (h2 : n ≤ 8) (hg : GoodK n s 8) : ∀ i j, i < n → j < n → s i = s j → i = j := by
  intro i j hi hj e
  rcases Nat.lt_trichotomy i j with h | h | h
  · exact absurd e (((hg j (by omega)).2 hj).2 i h)
  · exact h
  · exact absurd e.symm (((hg i (by omega)).2 hi).2 j h)
theorem good_zero_of {n s} (hg : GoodK n s 8) : ∀ i, n ≤ i → i < 8 → s i = 0 := fun i h h8 => (hg i h8).1 h
/-- the first k numbers of s -/
def copyK (s : Nat → Nat) (k : Nat) : Nat → Nat := fun i => if i < k then s i else 0
theorem copyK_zero (s) : copyK s 0 = zeroN := by funext i; simp [copyK, zeroN]
theorem copyK_succ (s : Nat → Nat) (k : Nat) : updN (copyK s k) k (s k) = copyK s (k + 1) := by
  funext i
  simp only [updN, copyK]
  by_cases h : i = k
  · subst h; simp
  · by_cases h2 : i < k
    · have : i < k + 1 := by omega
      simp [h, h2, this]
    · have : ¬ i < k + 1 := by omega
      simp [h, h2, this]
theorem copyK_all (s : Nat → Nat) : arrF .u8 8 (up (copyK s 8)) = arrF .u8 8 (up s) := arrF_ext fun i hi => by simp [up, copyK, hi]
theorem backK_lt (s : Nat → Nat) : ∀ k i, backK s k i < k ∨ backK s k i = 0
  | 0, i => .inr rfl
  | k + 1, i => by
    simp only [backK, updN]
    split
    · left; omega
    · rcases backK_lt s k i with h | h
      · left; omega
      · right; exact h
theorem backK_lt8 {n : Nat} (h2 : n ≤ 8) (s : Nat → Nat) : ∀ i, i < n → backK s n i < 8 := by
  intro i hi
  rcases backK_lt s n i with h | h <;> omega
theorem backK_ltn {n : Nat} (s : Nat → Nat) : ∀ i, i < n → backK s n i < n := by
  intro i hi
  rcases backK_lt s n i with h | h <;> omega
/-- the letters below k that begin s -/
def begK (s : Nat → Nat) (k : Nat) : List Int := ((List.range k).filter fun i => decide (1 ≤ i ∧ s i < s (i - 1))).map fun (i : Nat) => (i : Int)
theorem begK_one (s) : begK s 1 = [] := by simp [begK]
theorem begK_yes {s : Nat → Nat} {k : Nat} (h1 : 1 ≤ k) (h : s k < s (k - 1)) : begK s k ++ [(k : Int)] = begK s (k + 1) := by
  simp [begK, List.range_succ, List.filter_append, h1, h]
theorem begK_no {s : Nat → Nat} {k : Nat} (h : ¬ s k < s (k - 1)) : begK s k = begK s (k + 1) := by
  simp [begK, List.range_succ, List.filter_append, h]
theorem begK_length (s : Nat → Nat) (k : Nat) : (begK s k).length ≤ k := by
  simp only [begK, List.length_map]
  have := List.length_filter_le (fun i => decide (1 ≤ i ∧ s i < s (i - 1))) (List.range k)
  simpa using this
/-- an array beside a code -/
def rArr (b : Bool) (f : Nat → Nat) : Value := .tuple #[.agg (arrF .u8 8 (up (if b then f else zeroN))), .int .i64 (if b then 0 else 1)]
theorem rArr_no (f) : rArr false f = .tuple #[.agg (arrF .u8 8 (up zeroN)), .int .i64 1] := rfl
theorem rArr_yes (f) : rArr true f = .tuple #[.agg (arrF .u8 8 (up f)), .int .i64 0] := rfl
/-- a number beside a code -/
def rInt (b : Bool) (x : Int) : Value := .tuple #[.int .i64 (if b then x else 0), .int .i64 (if b then 0 else 1)]
theorem rInt_no (x) : rInt false x = .tuple #[.int .i64 0, .int .i64 1] := rfl
theorem rInt_yes (x) : rInt true x = .tuple #[.int .i64 x, .int .i64 0] := rfl
/-- a truth value beside a code -/
def rBool (b : Bool) (x : Bool) : Value := .tuple #[.bool (b && x), .int .i64 (if b then 0 else 1)]
theorem rBool_no (x) : rBool false x = .tuple #[.bool false, .int .i64 1] := rfl
theorem rBool_yes (x) : rBool true x = .tuple #[.bool x, .int .i64 0] := rfl
end Go.Proofs.Ytikakoclmmmjdaa
namespace Go.Proofs.Ytikakoclmmmjdaa
open Go.RowKit
set_option linter.unusedVariables false
section
variable {P : Program} {ops : Array Oper} {C : World → Prop}

/-- the head's operations, quiet in the class, in whatever order; L: what holds when they are all done -/
def headAny (P : Program) (ops : Array Oper) (C : World → Prop) (n : Nat) (L : Array Bool → Act → Prop) : Nat → Array Bool → Act → Prop
  | 0, done, a => L done a
  | f + 1, done, a => Region.ready .any ops done ≠ [] ∧ ∀ i ∈ Region.ready .any ops done, i < n ∧ qOp P ops C i (headAny P ops C n L f (done.setIfInBounds i true)) a

theorem any_of_head {n g : Nat} {L : Array Bool → Act → Prop} {Q : Exit → Act → World → Prop} (hL : ∀ done a w, C w → L done a → wpAny P .any ops Q g done a w) :
    ∀ (f : Nat) (done : Array Bool) (a : Act) (w : World), C w → headAny P ops C n L f done a → wpAny P .any ops Q (f + g) done a w := by
  intro f
  induction f with
  | zero => intro done a w hw h; rw [Nat.zero_add]; exact hL _ _ _ hw h
  | succ f ih =>
    intro done a w hw h
    rw [Nat.succ_add]
    refine ⟨fun h0 => absurd h0 h.1, fun i hi => ?_⟩
    exact wpOp_of_qOp hw (fun a' w' hw' h' => ih _ a' w' hw' h') (h.2 i hi).2

theorem head_first {n i : Nat} {oi : Oper} {v : Value} {L : Array Bool → Act → Prop} (hi : ops[i]? = some oi) (hsel : Region.noSelect ops = true)
    (hs : Region.sinkB .any ops n = true) (hc : Region.chainB .any ops n = true) (hn : n < ops.size) (hin : i < n)
    (hend : ∀ done a, L done a → ∀ j ∈ Region.ready .any ops done, n ≤ j) :
    ∀ (f : Nat) (done : Array Bool) (a : Act), HeadInv .any ops n done →
      (∀ j oj, ops[j]? = some oj → j ≠ i → done.getD j true = false → (∀ e ∈ oj.after, Region.binds .any e = true → e.on ≠ i) → oi.apart ops oj = true) →
      i ∈ Region.ready .any ops done → YieldsIn P ops C oi v a →
      headAny P ops C n L f (done.setIfInBounds i true) (a.put oi.dst v) → headAny P ops C n L (f + 1) done a := by
  have sel := Region.noSelect_spec hsel
  intro f
  induction f with
  | zero =>
    intro done a inv _ hr hy H
    have hun := (mem_ready.1 hr).1
    constructor
    · intro h; rw [h] at hr; cases hr
    · intro j hj
      have hjn : j < n := Nat.lt_of_not_le fun h => tail_waits hs hc hn inv _ i rfl hin hun j h hj
      refine ⟨hjn, ?_⟩
      by_cases hji : j = i
      · subst hji; exact hy.qOp hi H
      · have := hend _ _ H j (ready_mono hj hji)
        omega
  | succ f ih =>
    intro done a inv hfree hr hy H
    have hun := (mem_ready.1 hr).1
    constructor
    · intro h; rw [h] at hr; cases hr
    · intro j hj
      have hjn : j < n := Nat.lt_of_not_le fun h => tail_waits hs hc hn inv _ i rfl hin hun j h hj
      refine ⟨hjn, ?_⟩
      by_cases hji : j = i
      · subst hji; exact hy.qOp hi H
      · obtain ⟨hjun, oj, hoj, hall⟩ := mem_ready.1 hj
        have hno : ∀ e ∈ oj.after, Region.binds .any e = true → e.on ≠ i := by
          intro e he hb heq
          have h1 := hall e he hb
          rw [heq, getD_both hun] at h1
          cases h1
        have h2 := qOp_put hoj (hfree j oj hoj hji hjun hno) (fun cs b => sel i oi cs b hi) (fun cs b => sel j oj cs b hoj) hy (H.2 j (ready_mono hj hji)).2
        refine qOp_mono (fun a' h3 => ?_) h2
        refine ih (done.setIfInBounds j true) a' (inv.set hj hjn) ?_ (ready_mono hr (Ne.symm hji)) h3.1 ?_
        · intro k ok hk hki hun' hno'
          refine hfree k ok hk hki ?_ hno'
          by_cases hjk : j = k
          · subst hjk; exact hjun
          · rw [getD_set_ne true hjk] at hun'; exact hun'
        · rw [Array.setIfInBounds_comm _ _ hji]
          exact h3.2

theorem head_lex {n g : Nat} {E : Act → Prop} (hsel : Region.noSelect ops = true) (hs : Region.sinkB .any ops n = true) (hc : Region.chainB .any ops n = true) (hn : n < ops.size) :
    ∀ (l : List Oper) (k : Nat) (done : Array Bool) (a : Act), (∀ j, j < l.length → l[j]? = ops[k + j]?) → k + l.length = n → HeadInv .any ops n done →
      Region.lexHead .any ops g l.length k done = true → wpQuiet P ops C E l a →
      headAny P ops C n (fun done' a' => Region.seqB .any ops g n done' = true ∧ E a') l.length done a := by
  intro l
  induction l with
  | nil =>
    intro k done a _ hk _ hB h
    obtain rfl : k = n := by simpa using hk
    exact ⟨by simpa [Region.lexHead] using hB, h⟩
  | cons o l ih =>
    intro k done a hl hk inv hB h
    have h0 : ops[k]? = some o := by simpa using (hl 0 (by simp)).symm
    simp only [List.length_cons, Region.lexHead, Bool.and_eq_true] at hB
    obtain ⟨⟨hr, hf⟩, hB'⟩ := hB
    simp only [List.length_cons] at hk
    have hr' : k ∈ Region.ready .any ops done := by simpa using hr
    have hq : qOp P ops C k (wpQuiet P ops C E l) a := by unfold qOp; simp only [h0]; exact h
    obtain ⟨v, hy, hK⟩ := yieldsIn_of_qOp h0 hq
    refine head_first h0 hsel hs hc hn (by omega) (fun done' a' hL => seqB_ready hL.1) l.length done a inv (Region.free_spec h0 hf) hr' hy ?_
    refine ih (k + 1) _ _ (fun j hj => ?_) (by omega) (inv.set hr' (by omega)) hB' hK
    have := hl (j + 1) (by simp; omega)
    simpa [Nat.add_assoc, Nat.add_comm 1 j] using this

theorem region_quiet_tail {id : Nat} {Q : Exit → Act → World → Prop} {a : Act} {w : World} {l : List Oper} (n : Nat) (hm : P.follows .mixedOrders = true) (hB : Region.lexTailB .any l.toArray n = true) (hC : C w.drew)
    (h : wpQuiet P l.toArray C (fun a' => ∀ w', C w' → wpList P l.toArray Q (l.drop n) a' w') (l.take n) a) : (Code.region id l.toArray true).wp P Q a w := by
  simp only [Region.lexTailB, Bool.and_eq_true, decide_eq_true_eq] at hB
  obtain ⟨⟨⟨⟨hsel, hn⟩, hs⟩, hc⟩, hlex⟩ := hB
  have hn' : n < l.length := by simpa using hn
  have htl : (l.take n).length = n := by simp; omega
  have hdl : (l.drop n).length = l.toArray.size - n := by simp
  have inv0 : HeadInv .any l.toArray n (Array.replicate l.toArray.size false) :=
    ⟨by simp, fun j oj _ hl => (by rw [getD_replicate_false] at hl; cases hl), fun t _ ht => getD_in (by simpa using ht) (getD_replicate_false _ _)⟩
  have H := head_lex (P := P) (C := C) (g := l.toArray.size - n) hsel hs hc hn (l.take n) 0 _ a (fun j hj => by rw [htl] at hj; simp [hj]) (by simpa using htl) inv0 (by rw [htl]; exact hlex) h
  refine wp_region_any hm ?_
  have := any_of_head (Q := Q) (g := l.toArray.size - n) (fun done a' w' hw' hL => by
    have := wpAny_of_seq (md := .any) (Q' := Q) (l.drop n) n done a' w' (fun j => by simp [List.getElem?_drop]) (by rw [hdl]; exact hL.1) (hL.2 w' hw')
    rwa [hdl] at this) _ _ _ _ hC H
  rw [htl, show n + (l.toArray.size - n) = l.toArray.size by omega] at this
  exact this
end

/-- the worlds that are W with further blocks -/
structure Later where
  j : List Obj
  d : Nat
instance : Inhabited Later := ⟨⟨[], 0⟩⟩
def plusq (w : World) (q : Later) : World := plus w q.j q.d
theorem plusq_eq (w : World) (q : Later) : plusq w q = plus w q.j q.d := rfl
theorem plusq_cell (w : World) (q : Later) (b o : Nat) (h : b < w.heap.size) : (plusq w q).cell? ⟨b, o, none⟩ = w.cell? ⟨b, o, none⟩ := plus_cell w _ _ b o h
theorem plusq_frozen (w : World) (q : Later) (b o : Nat) (h : b < w.heap.size) : (plusq w q).frozen? ⟨b, o, none⟩ = w.frozen? ⟨b, o, none⟩ := plus_frozen w _ _ b o h
attribute [go_sem] plusq_cell plusq_frozen
theorem later_start (W : World) : ∃ q, W.drew = plusq W q := ⟨⟨[], W.drawn + 1⟩, by rw [plusq_eq, ← plus_drew, plus_nil]⟩
theorem later_below {W w' : World} {q : Later} (h : Below (plusq W q).heap.size (plusq W q) w') : ∃ q', w' = plusq W q' := by
  obtain ⟨j', d', rfl⟩ := plus_of_below h
  exact ⟨⟨q.j ++ j', d'⟩, by rw [plusq_eq, plusq_eq, plus_plus]⟩

theorem region_plus_tail {P : Program} {id : Nat} {Q : Exit → Act → World → Prop} {a : Act} {w : World} {l : List Oper} (n : Nat) (hm : P.follows .mixedOrders = true) (hB : Region.lexTailB .any l.toArray n = true)
    (h : wpQuiet P l.toArray (fun w' => ∃ q, w' = plusq w q) (fun a' => ∀ w', (∃ q, w' = plusq w q) → wpList P l.toArray Q (l.drop n) a' w') (l.take n) a) : (Code.region id l.toArray true).wp P Q a w :=
  region_quiet_tail (C := fun w' => ∃ q, w' = plusq w q) n hm hB (later_start w) h
theorem region_plus {P : Program} {id : Nat} {Q : Exit → Act → World → Prop} {a : Act} {w : World} {l : List Oper} (hm : P.follows .mixedOrders = true) (hB : Region.lexB .any l.toArray = true)
    (h : wpQuiet P l.toArray (fun w' => ∃ q, w' = plusq w q) (fun a' => ∀ w', (∃ q, w' = plusq w q) → Q .normal a' w') l a) : (Code.region id l.toArray true).wp P Q a w :=
  wp_region_quiet (C := fun w' => ∃ q, w' = plusq w q) hm hB (later_start w) (by simpa using h)
/-- a call in such a region -/
theorem calls_plus {P : Program} {f : FuncId} {args : Array Value} {W : World} {q : Later} {v : Value}
    (h : Calls P f args (plusq W q) fun e w' => e = .returned v ∧ Below (plusq W q).heap.size (plusq W q) w') : Calls P f args (plusq W q) fun e w'' => e = .returned v ∧ ∃ q', w'' = plusq W q' :=
  h.mono fun _ _ ⟨he, hb⟩ => ⟨he, later_below hb⟩
theorem calls_plus0 {P : Program} {f : FuncId} {args : Array Value} {W : World} {q : Later} {v : Value}
    (h : Calls P f args (plusq W q) fun e w' => e = .returned v ∧ plusq W q = w') : Calls P f args (plusq W q) fun e w'' => e = .returned v ∧ ∃ q', w'' = plusq W q' :=
  h.mono fun _ _ ⟨he, hb⟩ => ⟨he, q, hb.symm⟩
end Go.Proofs.Ytikakoclmmmjdaa
namespace Go.Proofs.Ytikakoclmmmjdaa
open Go.RowKit
set_option linter.unusedVariables false
section
variable {P : Program} {ops : Array Oper} {C : World → Prop} {gh : Nat → Bool}

/-- one value in every world of the class; all that was there stays -/
def plainOp (P : Program) (C : World → Prop) (o : Oper) (a : Act) (next : Act → Prop) : Prop :=
  ∃ v, (∀ w, C w → o.quietAt P a (fun w'' => Below w.heap.size w w'') w v) ∧ next (a.put o.dst v)
/-- the walk of the operations that are no ghosts, in the text's order -/
def wpPlain (P : Program) (ops : Array Oper) (C : World → Prop) (gh : Nat → Bool) (E : Act → Prop) : List Oper → Nat → Act → Prop
  | [], _, a => E a
  | o :: l, k, a => if gh k then wpPlain P ops C gh E l (k + 1) a else if Region.wanted o (yielded ops a.tmps) then plainOp P C o a (wpPlain P ops C gh E l (k + 1)) else wpPlain P ops C gh E l (k + 1) (a.put o.dst undef)
def pOp (P : Program) (ops : Array Oper) (C : World → Prop) (gh : Nat → Bool) (i : Nat) (K : Act → Prop) (a : Act) : Prop :=
  match ops[i]? with
  | none => K a
  | some o => if gh i then K a else if Region.wanted o (yielded ops a.tmps) then plainOp P C o a K else K (a.put o.dst undef)
def YieldsP (P : Program) (ops : Array Oper) (C : World → Prop) (gh : Nat → Bool) (i : Nat) (o : Oper) (v : Value) (a : Act) : Prop :=
  gh i = true ∨ (gh i = false ∧ ((Region.wanted o (yielded ops a.tmps) = true ∧ ∀ w, C w → o.quietAt P a (fun w'' => Below w.heap.size w w'') w v) ∨ (Region.wanted o (yielded ops a.tmps) = false ∧ v = undef)))
def pd (gh : Nat → Bool) (i : Nat) (o : Oper) : Option Tmp := if gh i then none else o.dst

theorem plainOp_mono {o : Oper} {a : Act} {K K' : Act → Prop} (h : ∀ a, K a → K' a) (hh : plainOp P C o a K) : plainOp P C o a K' :=
  let ⟨v, h1, h2⟩ := hh
  ⟨v, h1, h _ h2⟩
theorem pOp_mono {i : Nat} {a : Act} {K K' : Act → Prop} (h : ∀ a, K a → K' a) (hh : pOp P ops C gh i K a) : pOp P ops C gh i K' a := by
  unfold pOp at *
  cases ho : ops[i]? with
  | none => simp only [ho] at hh; exact h _ hh
  | some o =>
    simp only [ho] at hh ⊢
    split
    · rename_i hg; simp only [hg, if_true] at hh; exact h _ hh
    · rename_i hg
      simp only [hg] at hh
      split
      · rename_i hw; simp only [hw, if_true] at hh; exact plainOp_mono h hh
      · rename_i hw; simp only [hw] at hh; exact h _ hh
theorem pOp_of {i : Nat} {o : Oper} {v : Value} {a : Act} {K : Act → Prop} (hi : ops[i]? = some o) (hy : YieldsP P ops C gh i o v a) (h : K (a.put (pd gh i o) v)) : pOp P ops C gh i K a := by
  unfold pOp
  simp only [hi]
  rcases hy with hg | ⟨hg, hy⟩
  · simp only [hg, if_true]; simpa [pd, hg, Act.put] using h
  · simp only [hg, pd, Bool.false_eq_true, if_false] at h ⊢
    rcases hy with ⟨hw, hv⟩ | ⟨hw, rfl⟩
    · simp only [hw, if_true]; exact ⟨v, hv, h⟩
    · simp only [hw, Bool.false_eq_true, if_false]; exact h
theorem yields_of {i : Nat} {o : Oper} {a : Act} {K : Act → Prop} (hi : ops[i]? = some o) (h : pOp P ops C gh i K a) : ∃ v, YieldsP P ops C gh i o v a ∧ K (a.put (pd gh i o) v) := by
  unfold pOp at h
  simp only [hi] at h
  cases hg : gh i with
  | true => simp only [hg, if_true] at h; exact ⟨undef, .inl hg, by simpa [pd, hg, Act.put] using h⟩
  | false =>
    simp only [hg, Bool.false_eq_true, if_false] at h
    by_cases hw : Region.wanted o (yielded ops a.tmps) = true
    · simp only [hw, if_true] at h
      obtain ⟨v, h1, h2⟩ := h
      exact ⟨v, .inr ⟨hg, .inl ⟨hw, h1⟩⟩, by simpa [pd, hg] using h2⟩
    · simp only [hw] at h
      exact ⟨undef, .inr ⟨hg, .inr ⟨by simpa using hw, rfl⟩⟩, by simpa [pd, hg] using h⟩

theorem pd_looks {i : Nat} {o x : Oper} (h : ∀ d, o.dst = some d → d ∉ x.looksAt ops) : ∀ d, pd gh i o = some d → d ∉ x.looksAt ops := by
  intro d hd
  unfold pd at hd
  split at hd
  · cases hd
  · exact h d hd
theorem pd_dst {i j : Nat} {o x : Oper} (h : ∀ d, o.dst = some d → x.dst ≠ some d) : ∀ d, pd gh i o = some d → pd gh j x ≠ some d := by
  intro d hd
  unfold pd at hd ⊢
  split at hd
  · cases hd
  · split
    · intro e; cases e
    · exact h d hd
theorem yields_put {i : Nat} {o : Oper} {v : Value} {a : Act} (hs : ∀ cs b, o.op ≠ .select cs b) {x : Option Tmp} {u : Value} (h : ∀ d, x = some d → d ∉ o.looksAt ops)
    (hy : YieldsP P ops C gh i o v a) : YieldsP P ops C gh i o v (a.put x u) := by
  rcases hy with hg | ⟨hg, hy⟩
  · exact .inl hg
  · refine .inr ⟨hg, ?_⟩
    rw [wanted_put o a x u h]
    unfold Oper.quietAt
    rw [execOp_put o hs a x u h]
    exact hy

theorem pOp_put {i j : Nat} {oi oj : Oper} {v : Value} (hj : ops[j]? = some oj) (hap : oi.apart ops oj = true)
    (hsi : ∀ cs b, oi.op ≠ .select cs b) (hsj : ∀ cs b, oj.op ≠ .select cs b) {K : Act → Prop} {a : Act}
    (hy : YieldsP P ops C gh i oi v a) (h : pOp P ops C gh j K (a.put (pd gh i oi) v)) :
    pOp P ops C gh j (fun a' => YieldsP P ops C gh i oi v a' ∧ K (a'.put (pd gh i oi) v)) a := by
  obtain ⟨h1, h2, h3⟩ := Oper.apart_spec hap
  obtain ⟨u, hu, hk⟩ := yields_of hj h
  have hu' : YieldsP P ops C gh j oj u a := by
    rcases hu with hg | ⟨hg, hy'⟩
    · exact .inl hg
    · refine .inr ⟨hg, ?_⟩
      rw [wanted_put oj a _ v (pd_looks h1)] at hy'
      unfold Oper.quietAt at hy'
      rw [execOp_put oj hsj a _ v (pd_looks h1)] at hy'
      exact hy'
  refine pOp_of hj hu' ⟨yields_put hsi (pd_looks h3) hy, ?_⟩
  rw [← Act.put_comm a v u (pd_dst h2)]
  exact hk

/-- the others in whatever order, the ghosts passed over -/
def anyP (P : Program) (ops : Array Oper) (C : World → Prop) (gh : Nat → Bool) (L : Array Bool → Act → Prop) : Nat → Array Bool → Act → Prop
  | 0, done, a => L done a
  | f + 1, done, a => Region.ready .any ops done ≠ [] ∧ ∀ i ∈ Region.ready .any ops done, pOp P ops C gh i (anyP P ops C gh L f (done.setIfInBounds i true)) a

theorem both_done {done : Array Bool} {i : Nat} (h : done.getD i true = false) : done.getD i false = false := getD_both h

theorem anyP_first {i : Nat} {oi : Oper} {v : Value} {L : Array Bool → Act → Prop} (hi : ops[i]? = some oi) (hsel : Region.noSelect ops = true) (hend : ∀ done a, L done a → Region.ready .any ops done = []) :
    ∀ (f : Nat) (done : Array Bool) (a : Act),
      (∀ j oj, ops[j]? = some oj → j ≠ i → done.getD j true = false → (∀ e ∈ oj.after, Region.binds .any e = true → e.on ≠ i) → oi.apart ops oj = true) →
      i ∈ Region.ready .any ops done → YieldsP P ops C gh i oi v a →
      anyP P ops C gh L f (done.setIfInBounds i true) (a.put (pd gh i oi) v) → anyP P ops C gh L (f + 1) done a := by
  have sel := Region.noSelect_spec hsel
  intro f
  induction f with
  | zero =>
    intro done a _ hr hy H
    constructor
    · intro h; rw [h] at hr; cases hr
    · intro j hj
      by_cases hji : j = i
      · subst hji; exact pOp_of hi hy H
      · have := ready_mono hj hji
        rw [hend _ _ H] at this
        cases this
  | succ f ih =>
    intro done a hfree hr hy H
    constructor
    · intro h; rw [h] at hr; cases hr
    · intro j hj
      by_cases hji : j = i
      · subst hji; exact pOp_of hi hy H
      · obtain ⟨hjun, oj, hoj, hall⟩ := mem_ready.1 hj
        have hun := (mem_ready.1 hr).1
        have hno : ∀ e ∈ oj.after, Region.binds .any e = true → e.on ≠ i := by
          intro e he hb heq
          have h1 := hall e he hb
          rw [heq, both_done hun] at h1
          cases h1
        have h2 := pOp_put hoj (hfree j oj hoj hji hjun hno) (fun cs b => sel i oi cs b hi) (fun cs b => sel j oj cs b hoj) hy (H.2 j (ready_mono hj hji))
        refine pOp_mono (fun a' h3 => ?_) h2
        refine ih (done.setIfInBounds j true) a' ?_ (ready_mono hr (Ne.symm hji)) h3.1 ?_
        · intro k ok hk hki hun' hno'
          refine hfree k ok hk hki ?_ hno'
          by_cases hjk : j = k
          · subst hjk; exact hjun
          · rw [getD_set_ne true hjk] at hun'; exact hun'
        · rw [Array.setIfInBounds_comm _ _ hji]
          exact h3.2

theorem anyP_lex {E : Act → Prop} (hsel : Region.noSelect ops = true) : ∀ (l : List Oper) (k : Nat) (done : Array Bool) (a : Act), (∀ j, l[j]? = ops[k + j]?) → done.size = ops.size → (∀ i, i < k → done.getD i false = true) →
    Region.lexFrom .any ops l.length k done = true → wpPlain P ops C gh E l k a →
    anyP P ops C gh (fun done' a' => (done'.size = ops.size ∧ Region.ready .any ops done' = [] ∧ ∀ i, i < ops.size → done'.getD i false = true) ∧ E a') l.length done a := by
  intro l
  induction l with
  | nil =>
    intro k done a hl hsz hin hB h
    refine ⟨⟨hsz, by simpa [Region.lexFrom] using hB, fun i hi => hin i ?_⟩, h⟩
    rcases Nat.lt_or_ge i k with h' | h'
    · exact h'
    · have := hl (i - k)
      rw [show k + (i - k) = i by omega, Array.getElem?_eq_getElem hi] at this
      simp at this
  | cons o l ih =>
    intro k done a hl hsz hin hB h
    have h0 : ops[k]? = some o := by simpa using (hl 0).symm
    have hk : k < ops.size := (Array.getElem?_eq_some_iff.1 h0).1
    simp only [List.length_cons, Region.lexFrom, Bool.and_eq_true] at hB
    obtain ⟨⟨hr, hf⟩, hB'⟩ := hB
    have hr' : k ∈ Region.ready .any ops done := by simpa using hr
    have hq : pOp P ops C gh k (wpPlain P ops C gh E l (k + 1)) a := by unfold pOp; simp only [h0]; exact h
    obtain ⟨v, hy, hK⟩ := yields_of h0 hq
    refine anyP_first h0 hsel (fun done' a' hL => hL.1.2.1) l.length done a (Region.free_spec h0 hf) hr' hy ?_
    refine ih (k + 1) _ _ (fun j => ?_) (by simp [hsz]) (fun i hi => ?_) hB' hK
    · have := hl (j + 1)
      simpa [Nat.add_assoc, Nat.add_comm 1 j] using this
    · by_cases e : i = k
      · subst e; simp [hsz, hk]
      · exact getD_set_true (hin i (by omega))

/-- the walk ends in one frame -/
theorem wpPlain_end {E : Act → Prop} : ∀ (l : List Oper) (k : Nat) (a : Act), wpPlain P ops C gh E l k a → ∃ aF, E aF ∧ wpPlain P ops C gh (fun a' => a' = aF) l k a := by
  intro l
  induction l with
  | nil => intro k a h; exact ⟨a, h, rfl⟩
  | cons o l ih =>
    intro k a h
    unfold wpPlain at h
    split at h
    · rename_i hg
      obtain ⟨aF, h1, h2⟩ := ih _ _ h
      exact ⟨aF, h1, by unfold wpPlain; rw [if_pos hg]; exact h2⟩
    · rename_i hg
      split at h
      · rename_i hw
        obtain ⟨v, hv, h⟩ := h
        obtain ⟨aF, h1, h2⟩ := ih _ _ h
        exact ⟨aF, h1, by unfold wpPlain; rw [if_neg hg, if_pos hw]; exact ⟨v, hv, h2⟩⟩
      · rename_i hw
        obtain ⟨aF, h1, h2⟩ := ih _ _ h
        exact ⟨aF, h1, by unfold wpPlain; rw [if_neg hg, if_neg hw]; exact h2⟩
end
end Go.Proofs.Ytikakoclmmmjdaa
namespace Go.Proofs.Ytikakoclmmmjdaa
open Go.RowKit
set_option linter.unusedVariables false
section
variable {P : Program} {ops : Array Oper} {C : World → Prop} {gh : Nat → Bool}

/-- where a ghost may come out -/
def gExit (Q : Exit → Act → World → Prop) (K : Act → World → Prop) : Exit → Act → World → Prop
  | .normal, a, w => K a w
  | .outgrown, a, w => Q .outgrown a w
  | _, _, _ => False
/-- an operation that waits for all others, but for the ghosts that come behind it -/
def lastB (ops : Array Oper) (i : Nat) (r : List Nat) : Bool := (List.range ops.size).all fun j => j == i || Region.waitsFor .any ops i j || r.contains j
/-- the ghosts, one behind the other; between two of them further blocks may come -/
def gchain (P : Program) (ops : Array Oper) (C : World → Prop) (Q : Exit → Act → World → Prop) : List Nat → Act → World → Prop
  | [], a, w => Q .normal a w
  | i :: r, a, w => ∃ o, ops[i]? = some o ∧ wpList P ops (gExit Q fun a' w' => (lastB ops i r = true ∨ C w') ∧ ∀ j d, gchain P ops C Q r a' (plus w' j d)) [o] a w

/-- what the ghosts do to a frame -/
structure Trans (ops : Array Oper) (gh : Nat → Bool) (T : Act → Act) : Prop where
  put : ∀ (j : Nat) (o : Oper) (v : Value) (b : Act), ops[j]? = some o → gh j = false → T (b.put o.dst v) = (T b).put o.dst v
  exec : ∀ (j : Nat) (o : Oper) (b : Act), ops[j]? = some o → gh j = false → execOp (T b).eval o = execOp b.eval o ∧ Region.wanted o (yielded ops (T b).tmps) = Region.wanted o (yielded ops b.tmps)
  same : ∀ (b c : Act) (x : Operand), b.tmps.size = c.tmps.size → b.eval x = c.eval x → (T b).eval x = (T c).eval x
  size : ∀ b, (T b).tmps.size = b.tmps.size
theorem Trans.id : Trans ops gh (fun b => b) := ⟨fun _ _ _ _ _ _ => rfl, fun _ _ _ _ _ => ⟨rfl, rfl⟩, fun _ _ _ _ h => h, fun _ => rfl⟩
theorem size_put (b : Act) (x : Option Tmp) (v : Value) : (b.put x v).tmps.size = b.tmps.size := by cases x <;> simp [Act.put]
theorem eval_put_same {b c : Act} {x : Operand} (y : Option Tmp) (v : Value) (hs : b.tmps.size = c.tmps.size) (h : b.eval x = c.eval x) : (b.put y v).eval x = (c.put y v).eval x := by
  cases y with
  | none => exact h
  | some d =>
    cases x with
    | tmp t =>
      by_cases e : d = t
      · subst e
        simp only [Act.eval, Act.put, Array.getD_eq_getD_getElem?, Array.getElem?_setIfInBounds_self, hs] at h ⊢
      · simp only [Act.eval, Act.put, Array.getD_eq_getD_getElem?, Array.getElem?_setIfInBounds_ne e] at h ⊢
        exact h
    | _ => exact h
/-- the conditions that an operation's slot meets of all that are no ghosts -/
def farFrom (ops : Array Oper) (gh : Nat → Bool) (x : Option Tmp) : Prop := ∀ (j : Nat) (o : Oper), ops[j]? = some o → gh j = false → (∀ d, x = some d → d ∉ o.looksAt ops) ∧ (∀ d, x = some d → o.dst ≠ some d)
theorem Trans.then {T : Act → Act} (hT : Trans ops gh T) (hsel : Region.noSelect ops = true) {x : Option Tmp} (hx : farFrom ops gh x) (v : Value) : Trans ops gh (fun b => (T b).put x v) where
  put j o u b hj hg := by rw [hT.put j o u b hj hg, Act.put_comm _ v u (hx j o hj hg).2]
  exec j o b hj hg := by
    have h1 := (hx j o hj hg).1
    rw [execOp_put o (fun cs c => Region.noSelect_spec hsel j o cs c hj) (T b) x v h1, wanted_put o (T b) x v h1]
    exact hT.exec j o b hj hg
  same b c y hs h := eval_put_same x v (by rw [hT.size, hT.size, hs]) (hT.same b c y hs h)
  size b := by rw [size_put, hT.size]
theorem Trans.defers {T : Act → Act} (hT : Trans ops gh T) (d : Deferred) : Trans ops gh (fun b => { T b with defers := d :: (T b).defers }) where
  put j o u b hj hg := by
    have := hT.put j o u b hj hg
    show ({ T (b.put o.dst u) with defers := d :: (T (b.put o.dst u)).defers } : Act) = _
    rw [this]
    exact Act.put_defers (T b) o.dst u d
  exec j o b hj hg := hT.exec j o b hj hg
  same b c y hs h := hT.same b c y hs h
  size b := hT.size b

theorem agree {aF : Act} {L : Array Bool → Prop} : ∀ (f : Nat) (done : Array Bool) (a : Act), anyP P ops C gh (fun d' a' => L d' ∧ a' = aF) f done a →
    a.tmps.size = aF.tmps.size ∧ ∀ t, (∀ (j : Nat) (o : Oper), ops[j]? = some o → gh j = false → done.getD j true = false → o.dst ≠ some t) → a.eval (.tmp t) = aF.eval (.tmp t) := by
  intro f
  induction f with
  | zero => intro done a h; rw [h.2]; exact ⟨rfl, fun _ _ => rfl⟩
  | succ f ih =>
    intro done a h
    obtain ⟨i, hi⟩ := List.exists_mem_of_ne_nil _ h.1
    obtain ⟨hun, o, ho, _⟩ := mem_ready.1 hi
    obtain ⟨v, _, hn⟩ := yields_of ho (h.2 i hi)
    obtain ⟨h1, h2⟩ := ih _ _ hn
    refine ⟨by rw [← h1, size_put], fun t ht => ?_⟩
    rw [← h2 t (fun j x hj hg hd => ?_)]
    · refine (Act.eval_put fun d hd => ?_).symm
      intro e
      cases e
      unfold pd at hd
      split at hd
      · cases hd
      · rename_i hg
        exact ht i o ho (by simpa using hg) hun hd
    · by_cases e : i = j
      · subst e
        have hlt : i < done.size := by
          rcases Nat.lt_or_ge i done.size with h' | h'
          · exact h'
          · simp [Array.getElem?_eq_none h'] at hun
        simp [hlt] at hd
      · rw [getD_set_ne true e] at hd
        exact ht j x hj hg hd

theorem letsOut_g {Q : Exit → Act → World → Prop} {K : Act → World → Prop} (h : LetsOut (gExit Q K)) : LetsOut Q := by
  obtain ⟨a, w, h⟩ := h
  exact ⟨a, w, h⟩
theorem wp_conv {Q : Exit → Act → World → Prop} {K K2 : Act → World → Prop} {o : Oper} {a1 a2 : Act} {w : World} (he : execOp a1.eval o = execOp a2.eval o)
    (hput : ∀ v w', K (a1.put o.dst v) w' → K2 (a2.put o.dst v) w')
    (hdef : ∀ d w', K ({ a1 with defers := d :: a1.defers }.put o.dst undef) w' → K2 ({ a2 with defers := d :: a2.defers }.put o.dst undef) w')
    (h : o.wp P a1 w K (gExit Q K)) : o.wp P a2 w K2 Q := by
  unfold Oper.wp at *
  rw [he] at h
  generalize (execOp a2.eval o).run P w = r at *
  cases r with
  | ok n w' =>
    cases n <;> simp only [Oper.upon] at h ⊢
    case value u => exact hput _ _ h
    case skip => exact hput _ _ h
    case defer d => exact hdef _ _ h
    case enter f args =>
      refine Calls.mono h (fun e w'' he' => ?_)
      cases e with
      | returned v => exact hput _ _ he'
      | panicked c => exact False.elim he'
      | outgrown => exact letsOut_g he'
    case row => exact Rows.mono h (fun _ _ he' => hput _ _ he')
  | halt x w' => cases x <;> simp only [Oper.upon] at h ⊢ <;> exact False.elim h

theorem asks_conv {o : Oper} {a1 a2 : Act} {w : World} (he : execOp a1.eval o = execOp a2.eval o) (h : o.asks P a1 w) : o.asks P a2 w := by
  unfold Oper.asks at *
  rw [← he]
  exact h

def chainG (ops : Array Oper) : List Nat → Bool
  | x :: y :: l => Region.waitsFor .any ops y x && chainG ops (y :: l)
  | _ => true
theorem chain_waits : ∀ (l : List Nat) (x : Nat), chainG ops (x :: l) = true → ∀ i ∈ l, ∃ p ∈ x :: l, Region.waitsFor .any ops i p = true
  | [], _, _, i, hi => by cases hi
  | y :: l, x, h, i, hi => by
    simp only [chainG, Bool.and_eq_true] at h
    rcases List.mem_cons.1 hi with e | e
    · subst e; exact ⟨x, by simp, h.1⟩
    · obtain ⟨p, hp, hw⟩ := chain_waits l y h.2 i e
      exact ⟨p, List.mem_cons_of_mem _ hp, hw⟩
theorem chain_tail {x : Nat} {l : List Nat} (h : chainG ops (x :: l) = true) : chainG ops l = true := by
  cases l with
  | nil => rfl
  | cons y l => simp only [chainG, Bool.and_eq_true] at h; exact h.2

/-- what the closed fact says of one ghost -/
structure GhostOk (ops : Array Oper) (gh : Nat → Bool) (i : Nat) (o : Oper) : Prop where
  guard : o.guard = none
  far : farFrom ops gh o.dst
  reads : ∀ (j : Nat) (x : Oper) (t : Tmp), ops[j]? = some x → gh j = false → x.dst = some t → t ∈ o.looksAt ops → Region.waitsFor .any ops i j = true
def ghostB (ops : Array Oper) (g : List Nat) : Bool :=
  decide g.Nodup && chainG ops g && g.all fun i => match ops[i]? with
    | none => false
    | some o => o.guard.isNone && (List.range ops.size).all fun j => g.contains j || match ops[j]? with
      | none => true
      | some x => (match o.dst with | some d => !(x.looksAt ops).contains d && x.dst != some d | none => true) && (match x.dst with | some t => !(o.looksAt ops).contains t || Region.waitsFor .any ops i j | none => true)
theorem ghostB_spec {g : List Nat} (h : ghostB ops g = true) : g.Nodup ∧ chainG ops g = true ∧ ∀ i ∈ g, ∃ o, ops[i]? = some o ∧ GhostOk ops (fun j => g.contains j) i o := by
  simp only [ghostB, Bool.and_eq_true, decide_eq_true_eq, List.all_eq_true] at h
  obtain ⟨⟨h1, h2⟩, h3⟩ := h
  refine ⟨h1, h2, fun i hi => ?_⟩
  have h4 := h3 i hi
  cases ho : ops[i]? with
  | none => simp [ho] at h4
  | some o =>
    simp only [ho, Bool.and_eq_true, Option.isNone_iff_eq_none, List.all_eq_true, List.mem_range] at h4
    obtain ⟨h5, h6⟩ := h4
    have key : ∀ (j : Nat) (x : Oper), ops[j]? = some x → g.contains j = false → (∀ d, o.dst = some d → d ∉ x.looksAt ops ∧ x.dst ≠ some d) ∧ (∀ t, x.dst = some t → t ∈ o.looksAt ops → Region.waitsFor .any ops i j = true) := by
      intro j x hj hg
      have h7 := h6 j (Array.getElem?_eq_some_iff.1 hj).1
      simp only [hj, hg, Bool.false_or, Bool.and_eq_true] at h7
      refine ⟨fun d hd => ?_, fun t ht hm => ?_⟩
      · have := h7.1; simp only [hd, Bool.and_eq_true, Bool.not_eq_true', bne_iff_ne, ne_eq] at this
        exact ⟨by simpa using this.1, this.2⟩
      · have := h7.2; simp only [ht, Bool.or_eq_true, Bool.not_eq_true'] at this
        rcases this with h8 | h8
        · have : (o.looksAt ops).contains t = true := by simpa using hm
          rw [h8] at this; cases this
        · exact h8
    exact ⟨o, rfl, h5, fun j x hj hg => ⟨fun d hd => ((key j x hj hg).1 d hd).1, fun d hd => ((key j x hj hg).1 d hd).2⟩, fun j x t hj hg ht hm => (key j x hj hg).2 t ht hm⟩

theorem waits_done {i p : Nat} {o : Oper} {done : Array Bool} (ho : ops[i]? = some o) (hall : ∀ e ∈ o.after, Region.binds .any e = true → done.getD e.on false = true) (h : Region.waitsFor .any ops i p = true) : done.getD p false = true := by
  obtain ⟨o', ho', e, he, hb, hon⟩ := Region.waitsFor_spec h
  rw [ho] at ho'
  cases ho'
  rw [← hon]
  exact hall e he hb

theorem sim {Q : Exit → Act → World → Prop} {aF : Act} {g : List Nat} (hsel : Region.noSelect ops = true) (hok : ∀ i ∈ g, ∃ o, ops[i]? = some o ∧ GhostOk ops (fun j => g.contains j) i o)
    (hext : ∀ w w' : World, C w → Below w.heap.size w w' → C w') :
    ∀ (f : Nat) (done : Array Bool) (a : Act) (w : World) (r : List Nat) (T : Act → Act), done.size = ops.size →
      anyP P ops C (fun j => g.contains j) (fun d' a' => (d'.size = ops.size ∧ Region.ready .any ops d' = [] ∧ ∀ i, i < ops.size → d'.getD i false = true) ∧ a' = aF) f done a →
      (C w ∨ ∀ k, k < ops.size → k ∉ r → done.getD k false = true) → Trans ops (fun j => g.contains j) T → r.Nodup → chainG ops r = true → (∀ i ∈ r, i ∈ g ∧ done.getD i true = false) → (∀ i ∈ g, i ∉ r → done.getD i false = true) →
      (∀ j d, gchain P ops C Q r (T aF) (plus w j d)) → wpAny P .any ops Q f done (T a) w := by
  intro f
  induction f with
  | zero =>
    intro done a w r T hsz hX hC hT hnd hch hr1 hr2 H
    obtain ⟨⟨_, hre, hall⟩, rfl⟩ := hX
    refine ⟨hre, ?_⟩
    cases r with
    | nil => have := H [] w.drawn; rw [plus_nil] at this; exact this
    | cons x r =>
      exfalso
      have h1 := (hr1 x (by simp)).2
      have hlt : x < done.size := by
        rcases Nat.lt_or_ge x done.size with h' | h'
        · exact h'
        · simp [Array.getElem?_eq_none h'] at h1
      have h2 := hall x (by omega)
      rw [both_done h1] at h2
      cases h2
  | succ f ih =>
    intro done a w r T hsz hX hC hT hnd hch hr1 hr2 H
    refine ⟨fun h0 => absurd h0 hX.1, fun i hi => ?_⟩
    obtain ⟨hun, o, ho, hall⟩ := mem_ready.1 hi
    obtain ⟨v, hy, hn⟩ := yields_of ho (hX.2 i hi)
    have hlt : i < done.size := by
      rcases Nat.lt_or_ge i done.size with h' | h'
      · exact h'
      · simp [Array.getElem?_eq_none h'] at hun
    cases hg : g.contains i with
    | false =>
      have epd : pd (fun j => g.contains j) i o = o.dst := by
        show (if g.contains i = true then none else o.dst) = o.dst
        rw [hg]; rfl
      have hir : i ∉ r := fun h => by have := (hr1 i h).1; rw [← List.contains_iff_mem, hg] at this; cases this
      replace hC : C w := hC.resolve_right fun h => by
        have := h i (by omega) hir
        rw [both_done hun] at this; cases this
      have go : ∀ (u : Value) (w' : World), u = v → Below w.heap.size w w' → wpAny P .any ops Q f (done.setIfInBounds i true) ((T a).put o.dst u) w' := by
        intro u w' hu hb
        subst hu
        rw [← hT.put i o u a ho hg]
        refine ih _ _ w' r T (by simp [hsz]) (by rw [epd] at hn; exact hn) (.inl (hext _ _ hC hb)) hT hnd hch (fun x hx => ⟨(hr1 x hx).1, ?_⟩) (fun x hx hxr => getD_set_true (hr2 x hx hxr)) ?_
        · rw [getD_set_ne true (fun e => hir (by rw [e]; exact hx))]; exact (hr1 x hx).2
        · intro j d
          obtain ⟨j', d', rfl⟩ := plus_of_below hb
          rw [plus_plus]
          exact H _ _
      unfold wpOp
      simp only [ho]
      rw [(hT.exec i o a ho hg).2]
      rcases hy with h' | ⟨_, hy⟩
      · have h2 : g.contains i = true := h'
        rw [hg] at h2; cases h2
      · rcases hy with ⟨hw, hq⟩ | ⟨hw, hv⟩
        · rw [if_pos hw]
          refine .inl ?_
          have hq' := hq w hC
          unfold Oper.quietAt at hq'
          unfold Oper.wp
          rw [(hT.exec i o a ho hg).1]
          generalize (execOp a.eval o).run P w = res at hq'
          cases res with
          | ok n w' =>
            cases n <;> simp only [Oper.quietUpon] at hq' <;> simp only [Oper.upon]
            case value u => obtain ⟨e1, e2⟩ := hq'; subst e1; exact go u _ e2 (Below.refl _ _)
            case skip => obtain ⟨e1, e2⟩ := hq'; subst e1; exact go undef _ e2.symm (Below.refl _ _)
            case enter fn args =>
              obtain ⟨e1, hc⟩ := hq'
              subst e1
              exact hc.mono fun e w'' ⟨he, hw''⟩ => by subst he; exact go v _ rfl hw''
          | halt x w' => simp only [Oper.quietUpon] at hq'
        · rw [hw, if_neg (by simp)]
          exact go undef w hv.symm (Below.refl _ _)
    | true =>
      have hig : i ∈ g := by simpa using hg
      have hir : i ∈ r := by
        refine Classical.byContradiction fun h => ?_
        have := hr2 i hig h
        rw [both_done hun] at this
        cases this
      cases r with
      | nil => cases hir
      | cons x r =>
        obtain rfl : i = x := by
          rcases List.mem_cons.1 hir with e | e
          · exact e
          · obtain ⟨p, hp, hw⟩ := chain_waits r x hch i e
            have h1 := waits_done ho hall hw
            rw [both_done (hr1 p hp).2] at h1
            cases h1
        obtain ⟨o', ho', hO⟩ := hok i hig
        rw [ho] at ho'
        cases ho'
        have H0 := H [] w.drawn
        rw [plus_nil] at H0
        obtain ⟨o2, ho2, H1⟩ := H0
        rw [ho] at ho2
        cases ho2
        obtain ⟨hsame, hag⟩ := agree (L := fun d' => d'.size = ops.size ∧ Region.ready .any ops d' = [] ∧ ∀ i, i < ops.size → d'.getD i false = true) _ _ _ hX
        have hex : execOp (T aF).eval o = execOp (T a).eval o := by
          refine execOp_congr o (fun cs b => Region.noSelect_spec hsel i o cs b ho) (fun y hy' => ?_)
          refine hT.same aF a y hsame.symm ?_
          cases y with
          | tmp t =>
            refine (hag t (fun j x' hj hgj hd he => ?_)).symm
            have hl : t ∈ o.looksAt ops := List.mem_append_left _ (List.mem_filterMap.2 ⟨.tmp t, by simpa using hy', rfl⟩)
            have h1 := waits_done ho hall (hO.reads j x' t hj hgj he hl)
            rw [both_done hd] at h1
            cases h1
          | _ => rfl
        have hwant : ∀ b : Act, Region.wanted o (yielded ops b.tmps) = true := fun b => by simp [Region.wanted, hO.guard]
        have hn' : anyP P ops C (fun j => g.contains j) (fun d' a' => (d'.size = ops.size ∧ Region.ready .any ops d' = [] ∧ ∀ i, i < ops.size → d'.getD i false = true) ∧ a' = aF) f (done.setIfInBounds i true) a := by
          have epd : pd (fun j => g.contains j) i o = none := by
            show (if g.contains i = true then none else o.dst) = none
            rw [hg]; rfl
          rw [epd] at hn; exact hn
        have next : ∀ (T' : Act → Act) (w' : World), Trans ops (fun j => g.contains j) T' → ((lastB ops i r = true ∨ C w') ∧ ∀ j d, gchain P ops C Q r (T' aF) (plus w' j d)) → wpAny P .any ops Q f (done.setIfInBounds i true) (T' a) w' := by
          intro T' w' hT' hK
          have hnd' := List.nodup_cons.1 hnd
          have hC' : C w' ∨ ∀ k, k < ops.size → k ∉ r → (done.setIfInBounds i true).getD k false = true := by
            rcases hK.1 with hlast | hC'
            · refine .inr fun k hk hkr => ?_
              by_cases e : i = k
              · subst e; simp [hlt]
              · have h1 := List.all_eq_true.1 hlast k (List.mem_range.2 hk)
                have h2 : Region.waitsFor .any ops i k = true := by
                  simp only [Bool.or_eq_true, beq_iff_eq, List.contains_iff_mem] at h1
                  rcases h1 with (h3 | h3) | h3
                  · exact absurd h3.symm e
                  · exact h3
                  · exact absurd h3 hkr
                exact getD_set_true (waits_done ho hall h2)
            · exact .inl hC'
          refine ih _ _ w' r T' (by simp [hsz]) hn' hC' hT' hnd'.2 (chain_tail hch) (fun y hy' => ⟨(hr1 y (List.mem_cons_of_mem _ hy')).1, ?_⟩) (fun y hy' hyr => ?_) hK.2
          · rw [getD_set_ne true (fun e => hnd'.1 (by rw [e]; exact hy'))]; exact (hr1 y (List.mem_cons_of_mem _ hy')).2
          · by_cases e : i = y
            · subst e; simp [hlt]
            · exact getD_set_true (hr2 y hy' (fun h => (List.mem_cons.1 h).elim (fun h => e h.symm) hyr))
        unfold wpOp
        simp only [ho]
        rw [if_pos (hwant _)]
        unfold wpList at H1
        rw [if_pos (hwant _)] at H1
        rcases H1 with H1 | ⟨H1, H2⟩
        · refine .inl (wp_conv hex (fun u w' hk => ?_) (fun d w' hk => ?_) H1)
          · exact next (fun b => (T b).put o.dst u) w' (hT.then hsel hO.far u) hk
          · exact next (fun b => ({ T b with defers := d :: (T b).defers } : Act).put o.dst undef) w' ((hT.defers d).then hsel hO.far undef) hk
        · exact .inr ⟨asks_conv hex H1, letsOut_g H2⟩

theorem region_ghostC {id : Nat} {Q : Exit → Act → World → Prop} {a : Act} {w : World} {l : List Oper} (C : World → Prop) (hext : ∀ w w' : World, C w → Below w.heap.size w w' → C w') (hC : C w.drew) (g : List Nat) (hm : P.follows .mixedOrders = true) (hB : Region.lexB .any l.toArray = true) (hG : ghostB l.toArray g = true)
    (h : wpPlain P l.toArray C (fun j => g.contains j) (fun aF => ∀ j d, gchain P l.toArray C Q g aF (plus w j d)) l 0 a) : (Code.region id l.toArray true).wp P Q a w := by
  simp only [Region.lexB, Bool.and_eq_true] at hB
  obtain ⟨hnd, hch, hok⟩ := ghostB_spec hG
  obtain ⟨aF, hF, h'⟩ := wpPlain_end l 0 a h
  have hX := anyP_lex (E := fun a' => a' = aF) hB.1 l 0 (Array.replicate l.toArray.size false) a (by simp) (by simp) (fun i hi => by omega) (by simpa using hB.2) h'
  refine wp_region_any hm ?_
  have := sim (Q := Q) (T := fun b => b) hB.1 hok hext l.length _ a w.drew g (by simp) hX (.inl hC) Trans.id hnd hch
    (fun i hi => ⟨hi, ?_⟩) (fun i hi hn => absurd hi hn) (fun j d => by
      have e : w.drew = plus w [] (w.drawn + 1) := by rw [← plus_drew, plus_nil]
      rw [e, plus_plus]; exact hF _ _)
  · simpa using this
  · obtain ⟨o, ho, _⟩ := hok i hi
    have hlt : i < l.length := by have := (Array.getElem?_eq_some_iff.1 ho).1; simpa using this
    simp [hlt]
theorem region_ghost {id : Nat} {Q : Exit → Act → World → Prop} {a : Act} {w : World} {l : List Oper} (g : List Nat) (hm : P.follows .mixedOrders = true) (hB : Region.lexB .any l.toArray = true) (hG : ghostB l.toArray g = true)
    (h : wpPlain P l.toArray (fun w' => ∃ q, w' = plusq w q) (fun j => g.contains j) (fun aF => ∀ j d, gchain P l.toArray (fun w' => ∃ q, w' = plusq w q) Q g aF (plus w j d)) l 0 a) : (Code.region id l.toArray true).wp P Q a w :=
  region_ghostC _ (fun w1 w2 ⟨q, hq⟩ hb => by subst hq; exact later_below hb) (later_start w) g hm hB hG h
/-- the same over a base: what lies above it may have turned -/
theorem region_ghostW {id : Nat} {Q : Exit → Act → World → Prop} {a : Act} {W : World} {j0 : List Obj} {d0 : Nat} {l : List Oper} (g : List Nat) (hm : P.follows .mixedOrders = true) (hB : Region.lexB .any l.toArray = true) (hG : ghostB l.toArray g = true)
    (h : wpPlain P l.toArray (fun w' => ∃ q, w' = plusq W q) (fun j => g.contains j) (fun aF => ∀ j d, gchain P l.toArray (fun w' => ∃ q, w' = plusq W q) Q g aF (plus (plus W j0 d0) j d)) l 0 a) : (Code.region id l.toArray true).wp P Q a (plus W j0 d0) :=
  region_ghostC _ (fun w1 w2 ⟨q, hq⟩ hb => by subst hq; exact later_below hb) ⟨⟨j0, d0 + 1⟩, rfl⟩ g hm hB hG h
end
section
variable {P : Program} {ops : Array Oper} {C : World → Prop} {gh : Nat → Bool} {E : Act → Prop}
theorem wpPlain_nil {k : Nat} {a : Act} (h : E a) : wpPlain P ops C gh E [] k a := h
theorem wpPlain_step {k : Nat} {a : Act} {o : Oper} {rest : List Oper}
    (h : ∀ K : Act → Prop, (∀ a, wpPlain P ops C gh E rest (k + 1) a → K a) → if gh k then K a else if Region.wanted o (yielded ops a.tmps) then plainOp P C o a K else K (a.put o.dst undef)) : wpPlain P ops C gh E (o :: rest) k a :=
  h _ (fun _ h => h)
attribute [go_sem] plainOp
theorem later_of_below {W w' : World} (h : Below W.heap.size W w') : ∃ q, w' = plusq W q := by
  obtain ⟨j, d, rfl⟩ := plus_of_below h
  exact ⟨⟨j, d⟩, rfl⟩
theorem gExit_normal {Q : Exit → Act → World → Prop} {K : Act → World → Prop} {a : Act} {w : World} (h : K a w) : gExit Q K .normal a w := h
theorem gchain_cons {Q : Exit → Act → World → Prop} {i : Nat} {r : List Nat} {a : Act} {w : World} (o : Oper) (ho : ops[i]? = some o)
    (h : wpList P ops (gExit Q fun a' w' => (lastB ops i r = true ∨ C w') ∧ ∀ j d, gchain P ops C Q r a' (plus w' j d)) [o] a w) : gchain P ops C Q (i :: r) a w := ⟨o, ho, h⟩
theorem gchain_nil {Q : Exit → Act → World → Prop} {a : Act} {w : World} (h : Q .normal a w) : gchain P ops C Q [] a w := h
end
end Go.Proofs.Ytikakoclmmmjdaa
namespace Go.Proofs.Ytikakoclmmmjdaa
open Go.RowKit
set_option linter.unusedVariables false
set_option linter.unusedSimpArgs false

/-- a number of a list; 0 behind its end -/
def nth (xs : List Int) (i : Nat) : Int := xs.getD i 0
theorem nth_get {xs : List Int} {i : Nat} (h : i < xs.length) : xs[i]? = some (nth xs i) := by simp [nth, h]
theorem nth_append_left {xs ys : List Int} {i : Nat} (h : i < xs.length) : nth (xs ++ ys) i = nth xs i := by simp [nth, List.getElem?_append_left h]
theorem nth_append_here {xs : List Int} {y : Int} : nth (xs ++ [y]) xs.length = y := by simp [nth]
theorem ext_nth {xs ys : List Int} (hl : xs.length = ys.length) (h : ∀ i, i < xs.length → nth xs i = nth ys i) : xs = ys := by
  apply List.ext_getElem hl
  intro i h1 h2
  have := h i h1
  simpa [nth, h1, h2] using this

/-- the slice v is the call's own, from block B on, and holds xs -/
def own (e : TypeId) (w : World) (B : Nat) (v : Value) (xs : List Int) : Prop := w.ownsRow B e 1 v xs.length (xs.map (Value.int .i64))
/-- the slice v reads as xs -/
def reads (w : World) (v : Value) (xs : List Int) : Prop :=
  ∃ a cap, v = .slice a xs.length cap ∧ (xs = [] ∨ ∃ b o, a = some ⟨b, o, none⟩ ∧ ∀ i, i < xs.length → w.cell? ⟨b, o + i, none⟩ = some (.int .i64 (nth xs i)))

theorem own_nil (e : TypeId) (w : World) (B : Nat) : own e w B (.slice none 0 0) [] := World.ownsRow_nil w B e 1
theorem own_made {e : TypeId} {w : World} {B : Nat} {c : Array Value} {m : Nat} (hB : B ≤ w.heap.size) (hm : m ≤ maxLen) (hc : c.size = m) : own e (w.alloc (.cells c e)) B (.slice (some ⟨w.heap.size, 0, none⟩) 0 m) [] :=
  World.ownsRow_made (e := e) (size := 1) w c m hB hm (by omega)
theorem own.kept {e : TypeId} {w w' : World} {B : Nat} {v : Value} {xs : List Int} (h : own e w B v xs) (hb : Below w.heap.size w w') : own e w' B v xs := by
  refine World.ownsRow.kept (row := none) h ⟨hb.os, hb.tape, hb.output, hb.size, fun k hk _ => hb.block k hk⟩ ?_
  cases v.ownBlock <;> simp
theorem own.mono {e : TypeId} {w : World} {B B' : Nat} {v : Value} {xs : List Int} (h : own e w B v xs) (hB : B' ≤ B) : own e w B' v xs := by
  obtain ⟨h1, h2⟩ := h
  refine ⟨h1, ?_⟩
  rcases h2 with h2 | ⟨g, cap, cur, hv, hg, r⟩
  · exact .inl h2
  · exact .inr ⟨g, cap, cur, hv, Nat.le_trans hB hg, r⟩
theorem own.lt {e : TypeId} {w : World} {B : Nat} {v : Value} {xs : List Int} (h : own e w B v xs) : ∀ k, v.ownBlock = some k → B ≤ k ∧ k < w.heap.size := World.ownsRow.lt h
theorem own.reads {e : TypeId} {w : World} {B : Nat} {v : Value} {xs : List Int} (h : own e w B v xs) : reads w v xs := by
  rcases h.2 with ⟨rfl, hn⟩ | ⟨g, cap, cur, rfl, _⟩
  · exact ⟨none, 0, by rw [hn], .inl (List.eq_nil_of_length_eq_zero hn)⟩
  · refine ⟨_, cap, rfl, .inr ⟨g, 0, rfl, fun i hi => ?_⟩⟩
    have := World.ownsRow.cells h (g := g) rfl i (.int .i64 (nth xs i)) (by rw [List.getElem?_map, nth_get hi]; rfl)
    have e : (⟨g, 0, none⟩ : Addr).add i = ⟨g, 0 + i, none⟩ := by unfold Addr.add; split <;> simp_all
    rw [e] at this
    exact this
theorem reads.kept {w w' : World} {v : Value} {xs : List Int} (h : reads w v xs) (hb : Below w.heap.size w w') : reads w' v xs := by
  obtain ⟨a, cap, hv, h⟩ := h
  refine ⟨a, cap, hv, ?_⟩
  rcases h with h | ⟨b, o, ha, hc⟩
  · exact .inl h
  · refine .inr ⟨b, o, ha, fun i hi => ?_⟩
    have h1 := hc i hi
    rw [hb.cell (p := ⟨b, o + i, none⟩) (World.block_lt_of_cell? w _ h1)]
    exact h1
/-- one number is stored -/
theorem own.set {e : TypeId} {w : World} {B g cap n : Nat} {xs : List Int} (h : own e w B (.slice (some ⟨g, 0, none⟩) n cap) xs) (i : Nat) (u : Int) : own e (w.setCell ⟨g, i, none⟩ (.int .i64 u)) B (.slice (some ⟨g, 0, none⟩) n cap) (xs.set i u) := by
  obtain ⟨h1, h2⟩ := h
  rcases h2 with ⟨h2, _⟩ | ⟨g', cap', cur, hv, hg, hh, hn, hm, hs, ht⟩
  · cases h2
  · cases hv
    refine ⟨by simp, .inr ⟨g, cap, cur.setIfInBounds i (.int .i64 u), by simp, hg, heap_setCell_same w g i cur e _ hh, by simpa using hn, hm, by simpa using hs, ?_⟩⟩
    simp only [List.length_set, Array.toList_setIfInBounds, List.map_set]
    rw [← ht, List.take_set]
theorem own.free {e : TypeId} {w : World} {B g cap n : Nat} {xs : List Int} (h : own e w B (.slice (some ⟨g, 0, none⟩) n cap) xs) (i : Nat) : w.frozen? ⟨g, i, none⟩ = false := by
  rcases h.2 with ⟨h2, _⟩ | ⟨g', cap', cur, hv, hg, hh, _⟩
  · cases h2
  · cases hv
    exact frozen_of_row w g i cur e hh
theorem grownBy_setCell (w : World) (g i : Nat) (u : Value) : w.grownBy (w.setCell ⟨g, i, none⟩ u) (some g) :=
  ⟨rfl, rfl, rfl, by simp, fun k _ hk => heap_setCell_other w _ k u (fun e => hk (by rw [e]))⟩
theorem grownBy_trans {a b c : World} {row : Option Nat} (h : a.grownBy b row) (k : b.grownBy c row) : a.grownBy c row :=
  ⟨k.os.trans h.os, k.tape.trans h.tape, k.output.trans h.output, Nat.le_trans h.size k.size, fun i hi hr => (k.block i (Nat.lt_of_lt_of_le hi h.size) hr).trans (h.block i hi hr)⟩
theorem below_of_grown {B : Nat} {w w' : World} {row : Option Nat} (h : w.grownBy w' row) (hB : B ≤ w.heap.size) (hr : ∀ k, row = some k → B ≤ k) : Below B w w' := (Below.refl B w).grown h hB hr
/-- another slice stays what it was while one block is written -/
theorem own.apart {e : TypeId} {w w' : World} {B : Nat} {v : Value} {xs : List Int} {row : Option Nat} (h : own e w B v xs) (hg : w.grownBy w' row) (hne : ∀ k, v.ownBlock = some k → row ≠ some k) : own e w' B v xs := by
  refine World.ownsRow.kept h hg ?_
  cases hv : v.ownBlock with
  | none => exact .inl rfl
  | some k => exact .inr fun he => hne k hv he.symm

/-- one number is appended to a slice of the call's own; the number lies alone in the block that was made last -/
theorem wpList_append1 {P : Program} {ops : Array Oper} {rest : List Oper} {o : Oper} {a : Act} {w : World} {Q : Exit → Act → World → Prop} (hgd : o.guard = none) (s x : Operand) (t : TypeId)
    (ho : o.op = .call { callee := .builtin .append, args := #[s, x], argTypes := #[t, t] }) (e : TypeId) (ht : P.underlying t = some (.slice e)) (hi : (P.info? e).map (fun i => (i.zero, i.size, i.bytes)) = some (some (.int .i64 0), 1, 8))
    (B : Nat) (v : Value) (xs : List Int) (hs : a.eval s = v) (b : Nat) (hx : a.eval x = .slice (some ⟨b, 0, none⟩) 1 1) (u : Int) (hu : w.cell? ⟨b, 0, none⟩ = some (.int .i64 u))
    (hown : own e w B v xs) (hlen : xs.length < 1000000000) (hB : B ≤ w.heap.size)
    (h : ∀ v' w', own e w' B v' (xs ++ [u]) → Below B w w' → wpList P ops Q rest (a.put o.dst v') w') : wpList P ops Q (o :: rest) a w := by
  obtain ⟨i, h1, h2, h3, h4⟩ := info_parts hi
  refine wpList_append_own w hgd s x t ho B e i (.int .i64 0) 1 8 ht h1 h2 h3 h4 rfl (by decide) v _ _ hs hown ⟨b, 0, none⟩ 1 1 [.int .i64 u] hx rfl ?_ ?_ (by unfold maxLen; omega) (by omega) hB ?_
  · intro j y hj
    match j, hj with
    | 0, hj => simp at hj; subst hj; simpa [Addr.add] using hu
  · intro y hy
    simp at hy
    subst hy
    rfl
  · intro v' w' h5 h6 _
    refine h v' w' ?_ (below_of_grown h6 hB fun k hk => (hown.lt k hk).1)
    show w'.ownsRow B e 1 v' (xs ++ [u]).length ((xs ++ [u]).map (Value.int .i64))
    simpa using h5

/-- the same in a world that is W with further blocks -/
theorem wpList_append1p {P : Program} {ops : Array Oper} {rest : List Oper} {o : Oper} {a : Act} {W : World} {j : List Obj} {d : Nat} {u : Int} {e : TypeId} {Q : Exit → Act → World → Prop} (hgd : o.guard = none) (s x : Operand) (t : TypeId)
    (ho : o.op = .call { callee := .builtin .append, args := #[s, x], argTypes := #[t, t] }) (ht : P.underlying t = some (.slice e)) (hi : (P.info? e).map (fun i => (i.zero, i.size, i.bytes)) = some (some (.int .i64 0), 1, 8))
    (v : Value) (hs : a.eval s = v) (b : Nat) (hx : a.eval x = .slice (some ⟨b, 0, none⟩) 1 1) (hb : b = (plus W j d).heap.size) {xs : List Int}
    (hown : own e (plus W j d) W.heap.size v xs) (hlen : xs.length < 1000000000)
    (h : ∀ v' j' d', own e (plus W j' d') W.heap.size v' (xs ++ [u]) → wpList P ops Q rest (a.put o.dst v') (plus W j' d')) : wpList P ops Q (o :: rest) a ((plus W j d).alloc (.cells #[.int .i64 u] e)) := by
  have hW : W.heap.size ≤ (plus W j d).heap.size := by rw [plus_size]; omega
  refine wpList_append1 hgd s x t ho e ht hi W.heap.size v xs hs b hx u ?_ (hown.kept ((Below.refl _ _).alloc (Nat.le_refl _) _)) hlen (by rw [World.size_alloc]; omega) ?_
  · rw [World.cell?_alloc_at _ _ _ _ hb]; rfl
  · intro v' w' h1 h2
    have h3 : Below W.heap.size W w' := ((below_plus (Below.refl _ _) (Nat.le_refl _) j d).alloc hW _).trans h2
    obtain ⟨j', d', rfl⟩ := plus_of_below h3
    exact h v' j' d' h1
/-- .. with what else is kept -/
theorem wpList_append1h {P : Program} {ops : Array Oper} {rest : List Oper} {o : Oper} {a : Act} {W : World} {j : List Obj} {d : Nat} {u : Int} {e : TypeId} {Q : Exit → Act → World → Prop} (hgd : o.guard = none) (s x : Operand) (t : TypeId)
    (ho : o.op = .call { callee := .builtin .append, args := #[s, x], argTypes := #[t, t] }) (ht : P.underlying t = some (.slice e)) (hi : (P.info? e).map (fun i => (i.zero, i.size, i.bytes)) = some (some (.int .i64 0), 1, 8))
    (v : Value) (hs : a.eval s = v) (b : Nat) (hx : a.eval x = .slice (some ⟨b, 0, none⟩) 1 1) (hb : b = (plus W j d).heap.size) {xs : List Int}
    (hown : own e (plus W j d) W.heap.size v xs) (hlen : xs.length < 1000000000)
    (h : ∀ v' j' d', own e (plus W j' d') W.heap.size v' (xs ++ [u]) → ((plus W j d).alloc (.cells #[.int .i64 u] e)).grownBy (plus W j' d') v.ownBlock → wpList P ops Q rest (a.put o.dst v') (plus W j' d')) : wpList P ops Q (o :: rest) a ((plus W j d).alloc (.cells #[.int .i64 u] e)) := by
  have hW : W.heap.size ≤ (plus W j d).heap.size := by rw [plus_size]; omega
  have hk : own e ((plus W j d).alloc (.cells #[.int .i64 u] e)) W.heap.size v xs := hown.kept ((Below.refl _ _).alloc (Nat.le_refl _) _)
  have hu : ((plus W j d).alloc (.cells #[.int .i64 u] e)).cell? ⟨b, 0, none⟩ = some (.int .i64 u) := by rw [World.cell?_alloc_at _ _ _ _ hb]; rfl
  obtain ⟨i, h1, h2, h3, h4⟩ := info_parts hi
  refine wpList_append_own _ hgd s x t ho W.heap.size e i (.int .i64 0) 1 8 ht h1 h2 h3 h4 rfl (by decide) v _ _ hs hk ⟨b, 0, none⟩ 1 1 [.int .i64 u] hx rfl ?_ ?_ (by unfold maxLen; omega) (by omega) (by rw [World.size_alloc]; omega) ?_
  · intro j y hj
    match j, hj with
    | 0, hj => simp at hj; subst hj; simpa [Addr.add] using hu
  · intro y hy
    simp at hy
    subst hy
    rfl
  · intro v' w' h5 h6 _
    have h7 : Below W.heap.size W w' := ((below_plus (Below.refl _ _) (Nat.le_refl _) j d).alloc hW _).trans (below_of_grown h6 (by rw [World.size_alloc]; omega) fun k hk' => (hk.lt k hk').1)
    obtain ⟨j', d', rfl⟩ := plus_of_below h7
    refine h v' j' d' ?_ h6
    show World.ownsRow _ W.heap.size e 1 v' (xs ++ [u]).length ((xs ++ [u]).map (Value.int .i64))
    simpa using h5
/-- what a function answers that hands a list of numbers back in memory of its own -/
def RetInts (e : TypeId) (w : World) (xs : List Int) : Ending → World → Prop := fun en w' => ∃ v, en = .returned v ∧ Below w.heap.size w w' ∧ own e w' w.heap.size v xs
/-- .. beside a code -/
def RetInts2 (e : TypeId) (w : World) (xs : List Int) (c : Int) : Ending → World → Prop := fun en w' => ∃ v, en = .returned (.tuple #[v, .int .i64 c]) ∧ Below w.heap.size w w' ∧ own e w' w.heap.size v xs
theorem own_plus {e : TypeId} {W : World} {j j' : List Obj} {d d' B : Nat} {v : Value} {xs : List Int} (h : own e (plus W j d) B v xs) : own e (plus W (j ++ j') d') B v xs := by
  rw [← plus_plus (d := d)]
  exact h.kept (below_plus (Below.refl _ _) (Nat.le_refl _) j' d')
theorem below_drewN' {B : Nat} {a w : World} (h : Below B a w) (n : Nat) : Below B a (w.drewN n) := ⟨h.os, h.tape, h.output, h.size, h.block⟩
theorem base_of_grown {W w' : World} {j : List Obj} {d : Nat} {row : Option Nat} (hg : (plus W j d).grownBy w' row) (hr : ∀ k, row = some k → W.heap.size ≤ k) : Below W.heap.size W w' :=
  (below_plus (Below.refl _ _) (Nat.le_refl _) j d).trans (below_of_grown hg (by rw [plus_size]; omega) hr)
/-- a list that reads so: where its numbers lie -/
theorem reads_cons {w : World} {v : Value} {x : Int} {l : List Int} (h : reads w v (x :: l)) : ∃ b o cap, v = .slice (some ⟨b, o, none⟩) (l.length + 1) cap ∧ w.cell? ⟨b, o, none⟩ = some (.int .i64 x) ∧ b < w.heap.size := by
  obtain ⟨a, cap, rfl, h⟩ := h
  rcases h with h | ⟨b, o, rfl, h⟩
  · cases h
  · have h0 := h 0 (by simp)
    rw [Nat.add_zero] at h0
    exact ⟨b, o, cap, rfl, by simpa [nth] using h0, World.block_lt_of_cell? w _ h0⟩
theorem reads_nil {w : World} {v : Value} (h : reads w v []) : ∃ a cap, v = .slice a 0 cap := by
  obtain ⟨a, cap, rfl, _⟩ := h
  exact ⟨a, cap, rfl⟩
/-- .. when a block ahead of all of them is written -/
theorem own_base {e T : TypeId} {w : World} {c c' : Array Value} {j : List Obj} {d d' : Nat} {v : Value} {xs : List Int} (h : own e (plus (w.alloc (.cells c T)) j d) (w.alloc (.cells c T)).heap.size v xs) : own e (plus (w.alloc (.cells c' T)) j d') (w.alloc (.cells c' T)).heap.size v xs := by
  rw [World.size_alloc] at h ⊢
  refine World.ownsRow.kept (row := some w.heap.size) h ⟨rfl, rfl, rfl, by simp [plus_size, World.size_alloc], fun k hk hne => ?_⟩ ?_
  · have hne' : k ≠ w.heap.size := fun e => hne (by rw [e])
    by_cases hlt : k < w.heap.size
    · rw [plus_heap _ _ _ _ (by rw [World.size_alloc]; omega), plus_heap _ _ _ _ (by rw [World.size_alloc]; omega), Below.heap_alloc _ _ _ hlt, Below.heap_alloc _ _ _ hlt]
    · show ((w.heap.push _) ++ j.toArray)[k]? = ((w.heap.push _) ++ j.toArray)[k]?
      rw [Array.getElem?_append_right (by simp; omega), Array.getElem?_append_right (by simp; omega)]
      simp
  · cases hv : v.ownBlock with
    | none => exact .inl rfl
    | some k =>
      refine .inr fun he => ?_
      have := (h.lt k hv).1
      cases he
      omega
/-- a number that lies apart from the slice that something was appended to -/
theorem cell_append {w w' : World} {o : Obj} {row : Option Nat} {b i : Nat} {x : Value} (g : w.cell? ⟨b, i, none⟩ = some x) (hg : (w.alloc o).grownBy w' row) (hne : row ≠ some b) : w'.cell? ⟨b, i, none⟩ = some x := by
  have hb : b < w.heap.size := World.block_lt_of_cell? w _ g
  rw [World.cell?_of_block (w := w) (a := ⟨b, i, none⟩)]
  · exact g
  · rw [hg.block b (by rw [World.size_alloc]; omega) (fun e => hne e.symm)]
    exact Below.heap_alloc w o b hb
theorem one_lo : (0 : Int) ≤ 1 := by decide
theorem one_hi : (1 : Int) ≤ 1000000000 := by decide
theorem below_base {W w' : World} {j : List Obj} {d : Nat} (hB : Below (plus W j d).heap.size (plus W j d) w') : Below W.heap.size W w' :=
  (below_plus (Below.refl _ _) (Nat.le_refl _) j d).trans (hB.mono (by rw [plus_size]; omega))
/-- a list that was made empty, over one block ahead of it -/
theorem own_start {e f : TypeId} {w : World} {c : Array Value} : own e (plus (w.alloc (.cells c f)) [.cells #[] e] w.drawn) (w.alloc (.cells c f)).heap.size (.slice (some ⟨w.heap.size + 1, 0, none⟩) 0 0) [] := by
  have h := own_made (e := e) (w := w.alloc (.cells c f)) (B := (w.alloc (.cells c f)).heap.size) (c := #[]) (m := 0) (Nat.le_refl _) (by decide) rfl
  rw [World.size_alloc] at h ⊢
  exact h
end Go.Proofs.Ytikakoclmmmjdaa
namespace Go.Proofs.Ytikakoclmmmjdaa
open Go.RowKit
set_option linter.unusedSimpArgs false
set_option linter.unusedVariables false
set_option maxHeartbeats 400000 in
theorem eqInts_same (v1 v2 : Value) (xs : List Int) (w : World) (h1 : reads w v1 xs) (h2 : reads w v2 xs) (hlen : xs.length ≤ 1000000000) : Calls Try.prog 30 #[v1, v2] w fun e w' => e = .returned (.bool true) ∧ Below w.heap.size w w' := by
  obtain ⟨a1, c1, rfl, h1⟩ := h1
  obtain ⟨a2, c2, rfl, h2⟩ := h2
  by_cases hx : xs = []
  · subst hx
    clear h1 h2
    go_enter Try.func30, Try.ntmps30
    go_wp2
    refine wp_loop_rounds 1 ?_
    rw [rounds_succ]
    go_wp2
    go_ret
    exact ⟨rfl, by (repeat (first | (with_reducible exact Below.refl _ _) | (with_reducible assumption) | (with_reducible refine below_plus' ?_ ?_; ((try simp only [plus_size, World.size_alloc, World.size_drew, World.size_setCell, size_setRow, World.heap_drewN, List.length_append]) <;> omega)) | (with_reducible refine below_alloc' ?_ ?_; ((try simp only [plus_size, World.size_alloc, World.size_drew, World.size_setCell, size_setRow, World.heap_drewN, List.length_append]) <;> omega)) | with_reducible refine Below.drew ?_ | exact Below.refl _ _))⟩
  · obtain ⟨b1, o1, rfl, m1⟩ := h1.resolve_left hx
    obtain ⟨b2, o2, rfl, m2⟩ := h2.resolve_left hx
    have hp : 0 < xs.length := List.length_pos_iff.2 hx
    have k1 : b1 < w.heap.size := World.block_lt_of_cell? w _ (m1 0 hp)
    have k2 : b2 < w.heap.size := World.block_lt_of_cell? w _ (m2 0 hp)
    have H1 := Lib.hid m1
    have H2 := Lib.hid m2
    clear m1 m2 h1 h2 hx
    generalize hn : xs.length = n at *
    have Hn := Lib.hid hn
    clear hn
    go_enter Try.func30, Try.ntmps30
    go_wp2
    go_loopw [5] (fun sl wr => ∃ k d : Nat, k ≤ n ∧ sl = .int .i64 k ∧ wr = plus w [] d) (fun sl _ => n - (intOf sl).toNat)
    case atStart => exact ⟨0, _, by omega, rfl, (plus_nil _).symm⟩
    case round =>
      obtain ⟨k, d, hk, rfl, rfl⟩ := hrel
      by_cases hlt : k < n
      · have g1 := H1.out k hlt
        have g2 := H2.out k hlt
        go_wp2
        go_quiet (fail)
        go_wp2
        go_roundw
        case rel => exact ⟨k + 1, _, by omega, by go_num, rfl⟩
        case measure => simp [intOf]; omega
      · obtain rfl : k = n := by omega
        go_wp2
        go_ret
        exact ⟨rfl, by (repeat (first | (with_reducible exact Below.refl _ _) | (with_reducible assumption) | (with_reducible refine below_plus' ?_ ?_; ((try simp only [plus_size, World.size_alloc, World.size_drew, World.size_setCell, size_setRow, World.heap_drewN, List.length_append]) <;> omega)) | (with_reducible refine below_alloc' ?_ ?_; ((try simp only [plus_size, World.size_alloc, World.size_drew, World.size_setCell, size_setRow, World.heap_drewN, List.length_append]) <;> omega)) | with_reducible refine Below.drew ?_ | exact Below.refl _ _))⟩
/-- k, k + 1, .. -/
def marks (k : Int) (n : Nat) : List Int := (List.range n).map fun (i : Nat) => k + (i : Int)
theorem marks_length (k n) : (marks k n).length = n := by simp [marks]
theorem nth_marks {k : Int} {n i : Nat} (h : i < n) : nth (marks k n) i = k + i := by simp [nth, marks, h]
set_option maxHeartbeats 400000 in
theorem heldInts_any (v : Value) (n : Nat) (k0 : Int) (w : World) (h : reads w v (marks k0 n)) (hk0 : 0 ≤ k0) (hk1 : k0 ≤ 1000000000) (hlen : n ≤ 1000000000) : Calls Try.prog 40 #[v, .int .i64 k0] w fun e w' => e = .returned (.int .i64 (k0 + n)) ∧ Below w.heap.size w w' := by
  obtain ⟨a, c, rfl, h⟩ := h
  rw [marks_length]
  by_cases hx : n = 0
  · subst hx
    clear h
    go_enter Try.func40, Try.ntmps40
    go_wp2
    refine wp_loop_rounds 1 ?_
    rw [rounds_succ]
    go_wp2
    go_ret
    exact ⟨by simp, by (repeat (first | (with_reducible exact Below.refl _ _) | (with_reducible assumption) | (with_reducible refine below_plus' ?_ ?_; ((try simp only [plus_size, World.size_alloc, World.size_drew, World.size_setCell, size_setRow, World.heap_drewN, List.length_append]) <;> omega)) | (with_reducible refine below_alloc' ?_ ?_; ((try simp only [plus_size, World.size_alloc, World.size_drew, World.size_setCell, size_setRow, World.heap_drewN, List.length_append]) <;> omega)) | with_reducible refine Below.drew ?_ | exact Below.refl _ _))⟩
  · have hp : 0 < n := by omega
    obtain ⟨b, o, rfl, m⟩ := h.resolve_left (fun e => by have := marks_length k0 n; rw [e] at this; simp at this; omega)
    rw [marks_length] at m
    have h' : ∀ i, i < n → w.cell? ⟨b, o + i, none⟩ = some (.int .i64 (k0 + i)) := fun i hi => by rw [m i hi, nth_marks hi]
    have H := Lib.hid h'
    clear h h' m hx
    go_enter Try.func40, Try.ntmps40
    go_wp2
    go_loop [5, 1] (fun sl s1 => ∃ k : Nat, k ≤ n ∧ sl = .int .i64 k ∧ s1 = .int .i64 (k0 + k)) (fun sl _ => n - (intOf sl).toNat)
    case atStart => exact ⟨0, by omega, rfl, by simp⟩
    case round =>
      obtain ⟨k, hk, rfl, rfl⟩ := hrel
      by_cases hlt : k < n
      · have g1 := H.out k hlt
        go_wp2
        go_round
        case rel => exact ⟨k + 1, by omega, by go_num, by go_num⟩
        case measure => simp [intOf]; omega
      · obtain rfl : k = n := by omega
        go_wp2
        go_ret
        exact ⟨rfl, by (repeat (first | (with_reducible exact Below.refl _ _) | (with_reducible assumption) | (with_reducible refine below_plus' ?_ ?_; ((try simp only [plus_size, World.size_alloc, World.size_drew, World.size_setCell, size_setRow, World.heap_drewN, List.length_append]) <;> omega)) | (with_reducible refine below_alloc' ?_ ?_; ((try simp only [plus_size, World.size_alloc, World.size_drew, World.size_setCell, size_setRow, World.heap_drewN, List.length_append]) <;> omega)) | with_reducible refine Below.drew ?_ | exact Below.refl _ _))⟩
/-- xs, its first i numbers marked -/
def marked (xs : List Int) (k : Int) (i : Nat) : List Int := (List.range xs.length).map fun j => if j < i then k + (j : Int) else nth xs j
theorem marked_length (xs k i) : (marked xs k i).length = xs.length := by simp [marked]
theorem nth_marked {xs k i j} (h : j < xs.length) : nth (marked xs k i) j = if j < i then k + (j : Int) else nth xs j := by
  show (marked xs k i).getD j 0 = _
  simp [marked, h]
theorem marked_zero (xs k) : marked xs k 0 = xs := by
  refine ext_nth (marked_length _ _ _) fun i hi => ?_
  rw [marked_length] at hi
  rw [nth_marked hi]; simp
theorem marked_all (xs k) : marked xs k xs.length = marks k xs.length := by
  refine ext_nth (by rw [marked_length, marks_length]) fun i hi => ?_
  rw [marked_length] at hi
  rw [nth_marked hi, nth_marks hi, if_pos hi]
theorem marked_set {xs : List Int} {k : Int} {i : Nat} (h : i < xs.length) : (marked xs k i).set i (k + i) = marked xs k (i + 1) := by
  refine ext_nth (by simp [marked_length]) fun j hj => ?_
  rw [List.length_set, marked_length] at hj
  rw [nth_marked hj]
  unfold nth
  by_cases e : i = j
  · subst e
    simp [marked_length, hj]
  · rw [List.getD_eq_getElem?_getD, List.getElem?_set_ne e, ← List.getD_eq_getElem?_getD]
    have := nth_marked (k := k) (i := i) hj
    unfold nth at this
    rw [this]
    by_cases h1 : j < i
    · have : j < i + 1 := by omega
      simp [h1, this]
    · have : ¬ j < i + 1 := by omega
      simp [h1, this]
set_option maxHeartbeats 400000 in
theorem markInts_any (v : Value) (xs : List Int) (B : Nat) (k0 : Int) (w : World) (h : own 2 w B v xs) (hk0 : 0 ≤ k0) (hk1 : k0 ≤ 1000000000) (hlen : xs.length ≤ 1000000000) : Calls Try.prog 31 #[v, .int .i64 k0] w fun e w' => e = .returned (.int .i64 (k0 + xs.length)) ∧ own 2 w' B v (marks k0 xs.length) ∧ w.grownBy w' v.ownBlock := by
  rw [← marked_all]
  by_cases hx : xs.length = 0
  · have hv : ∃ a c, v = .slice a 0 c := by obtain ⟨a, c, e, _⟩ := h.reads; exact ⟨a, c, by rw [e, hx]⟩
    obtain ⟨a, c, rfl⟩ := hv
    rw [hx, marked_zero]
    have H := Lib.hid h
    clear h
    go_enter Try.func31, Try.ntmps31
    go_wp2
    refine wp_loop_rounds 1 ?_
    rw [rounds_succ]
    go_wp2
    go_ret
    exact ⟨by simp, H.out, World.grownBy.refl _ _⟩
  · have hp : 0 < xs.length := by omega
    have hv : ∃ b c, v = .slice (some ⟨b, 0, none⟩) xs.length c := by
      rcases h.2 with ⟨_, e⟩ | ⟨g, cap, cur, e, _⟩
      · omega
      · exact ⟨g, cap, e⟩
    obtain ⟨b, c, rfl⟩ := hv
    have Hm := Lib.hid (marked_length xs k0)
    have Hl : ∃ n, n = xs.length := ⟨_, rfl⟩
    obtain ⟨n, hn⟩ := Hl
    rw [← hn] at h hlen hp hx ⊢
    have H := Lib.hid h
    have Hn := Lib.hid hn
    clear h hn hx
    go_enter Try.func31, Try.ntmps31
    go_wp2
    go_loopw [5, 1] (fun sl s1 wr => ∃ k : Nat, k ≤ n ∧ sl = .int .i64 k ∧ s1 = .int .i64 (k0 + k) ∧ own 2 wr B (.slice (some ⟨b, 0, none⟩) n c) (marked xs k0 k) ∧ w.grownBy wr (some b)) (fun sl _ _ => n - (intOf sl).toNat)
    case atStart => exact ⟨0, by omega, rfl, by simp, by rw [marked_zero]; exact H.out, World.grownBy.refl _ _⟩
    case round =>
      obtain ⟨k, hk, rfl, rfl, ho, hg⟩ := hrel
      by_cases hlt : k < n
      · have g1 : wr.cell? ⟨b, k, none⟩ = some (.int .i64 (nth (marked xs k0 k) k)) := by
          obtain ⟨a', c', e, hr⟩ := ho.reads
          have hl : (marked xs k0 k).length = n := by rw [Hm.out, Hn.out]
          rcases hr with hr | ⟨b', o', e', hr⟩
          · rw [hr] at hl; simp at hl; omega
          · simp only [Value.slice.injEq, Option.some.injEq, Addr.mk.injEq] at e
            have := hr k (by omega)
            cases e'
            have e1 := e.1
            simp only [Option.some.injEq, Addr.mk.injEq] at e1
            rw [← e1.1, ← e1.2.1, Nat.zero_add] at this
            exact this
        have g2 := ho.free k
        have g3 := ho.set k (k0 + k)
        rw [marked_set (by rw [← Hn.out]; exact hlt)] at g3
        have G3 := Lib.hid g3
        have G4 := Lib.hid (grownBy_trans hg (grownBy_setCell wr b k (.int .i64 (k0 + k))))
        clear g3 ho hg
        go_wp2
        go_roundw
        case rel => exact ⟨k + 1, by omega, by go_num, by go_num, G3.out, G4.out⟩
        case measure => simp [intOf]; omega
      · obtain rfl : k = n := by omega
        have Ho := Lib.hid ho
        have Hg := Lib.hid hg
        clear ho hg
        go_wp2
        go_ret
        exact ⟨rfl, Ho.out, Hg.out⟩
end Go.Proofs.Ytikakoclmmmjdaa
namespace Go.Proofs.Ytikakoclmmmjdaa
open Go.ChangeShapes Go.WideShapes Go.ChangeAt Go.RowKit
section
variable {H : Type} {enc : TypeId × Value → H} {P : Program} {w : World} {base : Nat} {spare : Nat → Bool} {held : Bool}
theorem open_arr8 {r : Reach} {b0 : Nat} {t e : TypeId} {v : Value} {d : DataW H} {p : List MemPlace} (ht : P.underlying t = some (.array 8 e)) (he : P.underlying e = some (.int .u8)) (hc : P.cellsOf e = 1) (hC : P.cellsOf t = 8)
    (hv : Value.okWide P w r b0 t v) (h : DataW.Trod enc P w base spare held t v d p) : ∃ s : Nat → Nat, v = .agg (arrF .u8 8 (up s)) ∧ ∀ i, i < 8 → s i < 256 := by
  simp only [Value.okWide, ht] at hv
  obtain ⟨cs, rfl, hsz, _⟩ := hv
  obtain ⟨fuel, hf⟩ := h
  obtain ⟨xs, m, _, _, _, hl, hi⟩ := DataW.trod_array ht hf
  rw [hC] at hsz
  have key : ∀ i, i < 8 → ∃ n : Nat, cs[i]? = some (.int .u8 n) ∧ n < 256 := by
    intro i h8
    have h1 := hi i h8
    rw [hc, Nat.mul_one, List.getElem?_eq_getElem (by omega)] at h1
    obtain ⟨n, hn, _, hw⟩ := DataW.trod_int he h1
    have hb := bounds_u8 hw
    refine ⟨n.toNat, ?_, by omega⟩
    have h2 : (cs.toList.drop i)[0]? = some (.int .u8 n) := by
      have h3 : ((cs.toList.drop i).take 1)[0]? = some (.int .u8 n) := by
        have e : (Value.agg cs).cells.toList = cs.toList := rfl
        rw [e] at hn
        rw [hn]; rfl
      rwa [List.getElem?_take_of_lt (by omega)] at h3
    rw [List.getElem?_drop] at h2
    rw [show ((n.toNat : Nat) : Int) = n by omega]
    simpa using h2
  refine ⟨fun i => if h : i < 8 then (key i h).choose else 0, ?_, fun i h8 => ?_⟩
  · congr 1
    apply Array.ext_getElem?
    intro i
    by_cases h8 : i < 8
    · rw [(key i h8).choose_spec.1, arrF_get _ _ _ _ h8]
      simp [up, h8]
    · rw [Array.getElem?_eq_none (by omega), Array.getElem?_eq_none (by rw [arrF_size]; omega)]
  · simp only [h8, dif_pos]
    exact (key i h8).choose_spec.2
end
end Go.Proofs.Ytikakoclmmmjdaa
namespace Go.Proofs.Ytikakoclmmmjdaa
open Go.ChangeShapes Go.WideShapes Go.ChangeAt Go.RowKit
set_option linter.unusedVariables false
set_option linter.unusedSimpArgs false

theorem made_ints (n : Nat) : (madeCells (Value.int .i64 0).cells (n * 1)).toList = (List.replicate n (0 : Int)).map (Value.int .i64) := by
  rw [Nat.mul_one, List.map_replicate]
  exact toList_madeCells_one _ _
/-- n noughts are made -/
theorem wpList_make_ints {P : Program} (w : World) {ops : Array Oper} {rest : List Oper} {o : Oper} {a : Act} {Q : Exit → Act → World → Prop} (hg : o.guard = none) (l c : Operand) (t : TypeId) (hop : o.op = Op.makeSlice t l c)
    (e : TypeId) (h1 : P.underlying t = some (.slice e)) (hi : (P.info? e).map (fun i => (i.zero, i.size, i.bytes)) = some (some (.int .i64 0), 1, 8)) (n : Nat) (hl : a.eval l = .int .i64 n) (hc : a.eval c = .int .i64 n) (hn : n ≤ 1000000000)
    (hK : ∀ w', own e w' w.heap.size (.slice (some ⟨w.heap.size, 0, none⟩) n n) (List.replicate n 0) → Below w.heap.size w w' → wpList P ops Q rest (a.put o.dst (.slice (some ⟨w.heap.size, 0, none⟩) n n)) w') : wpList P ops Q (o :: rest) a w := by
  obtain ⟨i, g1, g2, g3, g4⟩ := info_parts hi
  refine wpList_make_full w hg l c t hop w.heap.size e i (.int .i64 0) 1 h1 g1 g2 g3 .i64 .i64 n n n hl hc rfl rfl (by rw [g4]; omega) (by unfold maxLen; omega) (Nat.le_refl _) fun w' r1 r2 => ?_
  rw [made_ints] at r1
  refine hK w' ?_ (below_of_grown r2 (Nat.le_refl _) fun k hk => by cases hk)
  unfold own
  rw [List.length_replicate]
  exact r1
theorem own.cell {e : TypeId} {w : World} {B g n c : Nat} {xs : List Int} (h : own e w B (.slice (some ⟨g, 0, none⟩) n c) xs) {i : Nat} (hi : i < xs.length) : w.cell? ⟨g, i, none⟩ = some (.int .i64 (nth xs i)) := by
  obtain ⟨a, cap, hv, hr⟩ := h.reads
  rcases hr with hr | ⟨b, o, ha, hr⟩
  · rw [hr] at hi; cases hi
  · subst ha
    have e1 := hr i hi
    have e2 : (⟨g, 0, none⟩ : Addr) = ⟨b, o, none⟩ := by
      simp only [Value.slice.injEq, Option.some.injEq] at hv
      exact hv.1
    simp only [Addr.mk.injEq] at e2
    rw [← e2.1, ← e2.2.1, Nat.zero_add] at e1
    exact e1
/-- xs, its first i numbers; 0 behind them -/
def copied (xs : List Int) (i : Nat) : List Int := (List.range xs.length).map fun j => if j < i then nth xs j else 0
theorem copied_length (xs i) : (copied xs i).length = xs.length := by simp [copied]
theorem nth_copied {xs i j} (h : j < xs.length) : nth (copied xs i) j = if j < i then nth xs j else 0 := by
  show (copied xs i).getD j 0 = _
  simp [copied, h]
theorem copied_zero (xs) : copied xs 0 = List.replicate xs.length 0 := by
  refine ext_nth (by simp [copied]) fun i hi => ?_
  rw [copied_length] at hi
  rw [nth_copied hi]
  simp [nth, hi]
theorem copied_all (xs) : copied xs xs.length = xs := by
  refine ext_nth (copied_length _ _) fun i hi => ?_
  rw [copied_length] at hi
  rw [nth_copied hi, if_pos hi]
theorem copied_set {xs : List Int} {i : Nat} (h : i < xs.length) : (copied xs i).set i (nth xs i) = copied xs (i + 1) := by
  refine ext_nth (by simp [copied_length]) fun j hj => ?_
  rw [List.length_set, copied_length] at hj
  rw [nth_copied hj]
  unfold nth
  by_cases e : i = j
  · subst e
    simp [copied_length, hj]
  · rw [List.getD_eq_getElem?_getD, List.getElem?_set_ne e, ← List.getD_eq_getElem?_getD]
    have := nth_copied (i := i) hj
    unfold nth at this
    rw [this]
    by_cases h1 : j < i
    · have : j < i + 1 := by omega
      simp [h1, this]
    · have : ¬ j < i + 1 := by omega
      simp [h1, this]
theorem grown_trans' {w w' w'' : World} {row : Option Nat} (h : Below w.heap.size w w') (g : w'.grownBy w'' row) : w.grownBy w'' row :=
  ⟨g.os.trans h.os, g.tape.trans h.tape, g.output.trans h.output, Nat.le_trans h.size g.size, fun k hk hr => (g.block k (Nat.lt_of_lt_of_le hk h.size) hr).trans (h.block k hk)⟩
/-- what lies below the block may turn -/
theorem own_swap {e : TypeId} {X Y : World} {B : Nat} {j : List Obj} {d d' : Nat} {v : Value} {xs : List Int} (hs : X.heap.size = Y.heap.size) (hB : X.heap.size ≤ B) (h : own e (plus X j d) B v xs) : own e (plus Y j d') B v xs := by
  obtain ⟨h1, h2⟩ := h
  refine ⟨h1, ?_⟩
  rcases h2 with h2 | ⟨g, cap, cur, hv, hg, hh, r⟩
  · exact .inl h2
  · refine .inr ⟨g, cap, cur, hv, hg, ?_, r⟩
    rw [← hh]
    show (Y.heap ++ j.toArray)[g]? = (X.heap ++ j.toArray)[g]?
    rw [Array.getElem?_append_right (by omega), Array.getElem?_append_right (by omega), hs]
/-- every number fits -/
def Fits (xs : List Int) : Prop := ∀ x ∈ xs, -9223372036854775808 ≤ x ∧ x < 9223372036854775808
theorem fits_nth {xs : List Int} (h : Fits xs) {i : Nat} (hi : i < xs.length) : -9223372036854775808 ≤ nth xs i ∧ nth xs i < 9223372036854775808 := by
  have : nth xs i = xs[i] := by simp [nth, hi]
  rw [this]
  exact h _ (List.getElem_mem hi)
section
variable {H : Type} {enc : TypeId × Value → H} {P : Program} {w : World} {base : Nat} {spare : Nat → Bool} {held : Bool}
theorem open_list' {t e : TypeId} {fuel : Nat} {cs : List Value} {x : DataW H × List MemPlace} (ht : P.underlying t = some (.slice e)) (he : P.underlying e = some (.int .i64)) (hc : P.cellsOf e = 1)
    (hf : DataW.trod enc P w base spare held fuel t cs = some x) : ∃ v xs, cs = [v] ∧ reads w v xs ∧ Fits xs ∧ xs.length ≤ 9223372036854775807 := by
  rcases open_ints ht he hc hf with ⟨hcs, hx⟩ | ⟨a, len, cap, zs, hcs, _, hl, hm, hz, hx, hcell, hwz⟩
  · exact ⟨_, [], hcs, ⟨none, 0, rfl, .inl rfl⟩, (fun x hx => by cases hx), by simp⟩
  · have hlen : len ≤ zs.length := by rw [hz]; split <;> omega
    unfold maxLen at hm
    refine ⟨_, zs.take len, hcs, ⟨some a, cap, by rw [List.length_take, Nat.min_eq_left hlen], ?_⟩, fun x hx => ?_, by rw [List.length_take]; omega⟩
    · by_cases h0 : len = 0
      · subst h0; exact .inl (by simp)
      · obtain ⟨b, o, rfl, hcl⟩ := ints_at hcell (by omega)
        refine .inr ⟨b, o, rfl, fun i hi => ?_⟩
        rw [List.length_take, Nat.min_eq_left hlen] at hi
        rw [hcl i (by omega)]
        simp [nth, hi]
    · have := hwz x (List.mem_of_mem_take hx)
      simp [Lit.wf] at this
      have e1 : IntKind.i64.min = -9223372036854775808 := by decide
      omega
/-- an argument that is a slice of numbers -/
theorem open_list {r : Reach} {b0 : Nat} {t e : TypeId} {v : Value} {d : DataW H} {p : List MemPlace} (ht : P.underlying t = some (.slice e)) (he : P.underlying e = some (.int .i64)) (hc : P.cellsOf e = 1)
    (hv : Value.okWide P w r b0 t v) (h : DataW.Trod enc P w base spare held t v d p) : ∃ xs, reads w v xs ∧ Fits xs := by
  obtain ⟨a0, len, cap, rfl⟩ := okWide_slice ht hv
  obtain ⟨fuel, hf⟩ := h
  obtain ⟨v, xs, hcs, h1, h2, _⟩ := open_list' ht he hc hf
  have e1 : Value.slice a0 len cap = v := by simpa [Value.cells] using hcs
  subst e1
  exact ⟨xs, h1, h2⟩
/-- an argument that is a number beside a slice of numbers -/
theorem open_rec {r : Reach} {b0 : Nat} {t e : TypeId} {f0 f1 : Field} {v : Value} {d : DataW H} {p : List MemPlace} (ht : P.underlying t = some (.struct #[f0, f1])) (o0 : f0.offset = 0) (o1 : f1.offset = 1) (h0 : P.underlying f0.type = some (.int .i64)) (c0 : P.cellsOf f0.type = 1)
    (h1 : P.underlying f1.type = some (.slice e)) (c1 : P.cellsOf f1.type = 1) (he : P.underlying e = some (.int .i64)) (hc : P.cellsOf e = 1) (hC : P.cellsOf t = 2)
    (hv : Value.okWide P w r b0 t v) (h : DataW.Trod enc P w base spare held t v d p) : ∃ n v' xs, v = .agg #[.int .i64 n, v'] ∧ reads w v' xs ∧ Fits xs ∧ xs.length ≤ 9223372036854775807 := by
  obtain ⟨cs, rfl, hsz⟩ := okWide_struct ht hv
  obtain ⟨fuel, hf⟩ := h
  obtain ⟨y0, y1, m, _, hl, e0, e1⟩ := trod_struct2 ht hf
  rw [o0, c0] at e0
  rw [o1, c1] at e1
  obtain ⟨n, hn, _, _⟩ := DataW.trod_int h0 e0
  obtain ⟨v', xs, hcs, r1, r2, r3⟩ := open_list' h1 he hc e1
  refine ⟨n, v', xs, ?_, r1, r2, r3⟩
  have hcl : (Value.agg cs).cells.toList = cs.toList := rfl
  rw [hcl] at hn hcs
  rw [hC] at hsz
  have hlen : cs.toList.length = 2 := by simpa using hsz
  congr 1
  match hl2 : cs.toList, hlen with
  | [u0, u1], _ =>
    rw [hl2] at hn hcs
    simp at hn hcs
    apply Array.ext'
    rw [hl2, hn, hcs]
end
end Go.Proofs.Ytikakoclmmmjdaa
namespace Go.Proofs.Ytikakoclmmmjdaa
open Go.RowKit
set_option linter.unusedSimpArgs false
set_option linter.unusedVariables false
theorem infoI : (Try.prog.info? 2).map (fun i => (i.zero, i.size, i.bytes)) = some (some (.int .i64 0), 1, 8) := by kernel_rfl
theorem within_any (n lo hi : Int) (w : World) : Calls Try.prog 61 #[.int .i64 n, .int .i64 lo, .int .i64 hi] w fun e w' => e = .returned (.bool (inB n lo hi)) ∧ w = w' := by
  go_enter Try.func61, Try.ntmps61
  go_wp2
  all_goals go_ret
  · exact ⟨by simp [inB]; omega, rfl⟩
  · exact ⟨by simp [inB]; omega, rfl⟩
theorem l01In_any (n lo hi : Int) (w : World) : Calls Try.prog 41 #[.int .i64 n, .int .i64 lo, .int .i64 hi] w fun e w' => e = .returned (.bool (inB n lo hi)) ∧ w = w' := by
  go_enter Try.func41, Try.ntmps41
  go_wp2
  all_goals go_ret
  · exact ⟨by simp [inB]; omega, rfl⟩
  · exact ⟨by simp [inB]; omega, rfl⟩
theorem isCount_any (n : Int) (w : World) : Calls Try.prog 47 #[.int .i64 n] w fun e w' => e = .returned (.bool (inB n 1 8)) ∧ w = w' := by
  go_enter Try.func47, Try.ntmps47
  go_wp2_with (first | (go_at_call 61; refine (within_any _ _ _ _).mono ?_; rintro e w' ⟨rfl, rfl⟩))
  go_ret
  exact ⟨rfl, rfl⟩
set_option maxHeartbeats 400000 in
theorem toInts_any (v : Value) (xs : List Int) (w : World) (h : reads w v xs) (hlen : xs.length ≤ 1000000000) : Calls Try.prog 25 #[v] w (RetInts 2 w xs) := by
  obtain ⟨a, c, rfl, h⟩ := h
  have Hset := Lib.hid (fun i => copied_set (xs := xs) (i := i))
  have Hz := Lib.hid (copied_zero xs)
  have Hl := Lib.hid (copied_length xs)
  have Ha := Lib.hid (copied_all xs)
  have Hr := Lib.hid (show 0 < xs.length → ∃ b o, a = some ⟨b, o, none⟩ ∧ b < w.heap.size ∧ ∀ i, i < xs.length → w.cell? ⟨b, o + i, none⟩ = some (.int .i64 (nth xs i)) from fun hp => by
    rcases h with h | ⟨b, o, rfl, m⟩
    · rw [h] at hp; cases hp
    · exact ⟨b, o, rfl, World.block_lt_of_cell? w _ (m 0 hp), m⟩)
  clear h
  obtain ⟨n, hn⟩ : ∃ n, n = xs.length := ⟨_, rfl⟩
  rw [← hn] at hlen Hset Hz Hl Ha Hr ⊢
  clear hn
  go_enter Try.func25, Try.ntmps25
  go_wp2_with (first | (at_make; refine wpList_make_ints _ rfl _ _ 22 rfl 2 Try.underlying22 infoI n rfl rfl hlen ?_; intro w' ho hB))
  go_loopw [4] (fun sl wr => ∃ k : Nat, k ≤ n ∧ sl = .int .i64 k ∧ own 2 wr w.heap.size (.slice (some ⟨w.heap.size, 0, none⟩) n n) (copied xs k) ∧ Below w.heap.size w wr) (fun sl _ => n - (intOf sl).toNat)
  case atStart => exact ⟨0, by omega, rfl, by rw [Hz.out]; exact ho, hB⟩
  case round =>
    clear ho hB
    obtain ⟨k, hk, rfl, ho, hB⟩ := hrel
    by_cases hlt : k < n
    · obtain ⟨b, o, rfl, hb, m⟩ := Hr.out (by omega)
      have g1 : wr.cell? ⟨b, o + k, none⟩ = some (.int .i64 (nth xs k)) := by rw [hB.cell (p := ⟨b, o + k, none⟩) hb]; exact m k hlt
      have g2 := ho.free k
      have g0 := ho.cell (i := k) (by rw [Hl.out]; exact hlt)
      have g3 := ho.set k (nth xs k)
      rw [Hset.out k hlt] at g3
      have G3 := Lib.hid g3
      have G4 := Lib.hid (hB.setCell (p := ⟨w.heap.size, k, none⟩) (Nat.le_refl _) (.int .i64 (nth xs k)))
      clear g3 ho hB m Hr
      go_wp2
      go_roundw
      case rel => exact ⟨k + 1, by omega, by go_num, G3.out, G4.out⟩
      case measure => simp [intOf]; omega
    · obtain rfl : k = n := by omega
      have Ho := Lib.hid ho
      have HB := Lib.hid hB
      clear ho hB
      go_wp2
      go_ret
      exact ⟨_, rfl, HB.out, by rw [← Ha.out]; exact Ho.out⟩
/-- a letter, or an inverse one, of n strands -/
def isL (x n : Int) : Bool := decide (x ≠ 0 ∧ 1 - n ≤ x ∧ x ≤ n - 1)
set_option maxHeartbeats 400000 in
theorem isLetter_any (x n : Int) (w : World) (h1 : 1 ≤ n) (h2 : n ≤ 8) : Calls Try.prog 48 #[.int .i64 x, .int .i64 n] w fun e w' => e = .returned (.bool (isL x n)) ∧ w = w' := by
  by_cases h0 : x = 0
  · subst h0
    go_enter Try.func48, Try.ntmps48
    go_wp2_with (first | (go_at_call 61; refine (within_any _ _ _ _).mono ?_; rintro e w' ⟨rfl, rfl⟩))
    go_ret
    exact ⟨by simp [isL], rfl⟩
  · go_enter Try.func48, Try.ntmps48
    go_wp2_with (first | (go_at_call 61; refine (within_any _ _ _ _).mono ?_; rintro e w' ⟨rfl, rfl⟩))
    go_ret
    exact ⟨by simp [isL, inB, h0], rfl⟩
/-- a braid -/
def okW (n : Int) (xs : List Int) : Bool := inB n 1 8 && decide (xs.length ≤ 200 ∧ ∀ i, i < xs.length → isL (nth xs i) n = true)
theorem okW_out {n xs} (h : inB n 1 8 = false) : okW n xs = false := by simp [okW, h]
theorem okW_long {n} {xs : List Int} (h : ¬ xs.length ≤ 200) : okW n xs = false := by simp [okW, h]
theorem okW_bad {n} {xs : List Int} {k : Nat} (hk : k < xs.length) (h : isL (nth xs k) n = false) : okW n xs = false := by
  simp only [okW, Bool.and_eq_false_iff, decide_eq_false_iff_not]
  right
  rintro ⟨_, h2⟩
  rw [h2 k hk] at h; cases h
theorem okW_good {n xs} (h1 : inB n 1 8 = true) (h2 : xs.length ≤ 200) (h3 : ∀ i, i < xs.length → isL (nth xs i) n = true) : okW n xs = true := by
  simp only [okW, h1, Bool.true_and, decide_eq_true_eq]
  exact ⟨h2, h3⟩
theorem okW_true {n xs} (h : okW n xs = true) : ∃ m : Nat, n = m ∧ 1 ≤ m ∧ m ≤ 8 ∧ xs.length ≤ 200 ∧ ∀ i, i < xs.length → isL (nth xs i) n = true := by
  simp only [okW, Bool.and_eq_true, decide_eq_true_eq] at h
  have := inB_true h.1
  exact ⟨n.toNat, by omega, by omega, by omega, h.2.1, h.2.2⟩
set_option maxHeartbeats 400000 in
theorem impl_IsBraid (n : Int) (v : Value) (xs : List Int) (w : World) (h : reads w v xs) (hlen : xs.length ≤ 1000000000) (hfit : Fits xs) : Calls Try.prog 26 #[.agg #[.int .i64 n, v]] w fun e w' => e = .returned (.bool (okW n xs)) ∧ Below w.heap.size w w' := by
  obtain ⟨a, c, rfl, h⟩ := h
  have Hr := Lib.hid (show 0 < xs.length → ∃ b o, a = some ⟨b, o, none⟩ ∧ b < w.heap.size ∧ ∀ i, i < xs.length → w.cell? ⟨b, o + i, none⟩ = some (.int .i64 (nth xs i)) from fun hp => by
    rcases h with h | ⟨b, o, rfl, m⟩
    · rw [h] at hp; cases hp
    · exact ⟨b, o, rfl, World.block_lt_of_cell? w _ (m 0 hp), m⟩)
  clear h
  cases hb : inB n 1 8 with
  | false =>
    have HO := Lib.hid (okW_out (xs := xs) hb)
    go_enter Try.func26, Try.ntmps26
    go_wp2_with (first | (go_at_call 47; refine (isCount_any _ _).mono ?_; rintro e w' ⟨rfl, rfl⟩))
    go_ret
    exact ⟨by rw [HO.out]; rfl, by (repeat (first | (with_reducible exact Below.refl _ _) | (with_reducible assumption) | (with_reducible refine below_plus' ?_ ?_; ((try simp only [plus_size, World.size_alloc, World.size_drew, World.size_setCell, size_setRow, World.heap_drewN, List.length_append]) <;> omega)) | (with_reducible refine below_alloc' ?_ ?_; ((try simp only [plus_size, World.size_alloc, World.size_drew, World.size_setCell, size_setRow, World.heap_drewN, List.length_append]) <;> omega)) | with_reducible refine Below.drew ?_ | (with_reducible refine below_drewN' ?_ _) | exact Below.refl _ _))⟩
  | true =>
    have h1 := (inB_true hb).1
    have h2 := (inB_true hb).2
    by_cases hl : xs.length ≤ 200
    · go_enter Try.func26, Try.ntmps26
      go_wp2_with (first | (go_at_call 47; refine (isCount_any _ _).mono ?_; rintro e w' ⟨rfl, rfl⟩))
      have Hb := Lib.hid hb
      clear hb
      go_loop [18] (fun sl => ∃ k : Nat, k ≤ xs.length ∧ sl = .int .i64 k ∧ Hid (∀ i, i < k → isL (nth xs i) n = true)) (fun sl => xs.length - (intOf sl).toNat)
      case atStart => exact ⟨0, by omega, rfl, Lib.hid (fun i hi => by omega)⟩
      case round =>
        obtain ⟨k, hk, rfl, Hl⟩ := hrel
        by_cases hlt : k < xs.length
        · obtain ⟨b, o, rfl, hbk, mm⟩ := Hr.out (by omega)
          have g1 := mm k hlt
          clear mm Hr
          cases hin : isL (nth xs k) n with
          | false =>
            have HO := Lib.hid (okW_bad hlt hin)
            go_wp2_with (first | (go_at_call 48; refine (isLetter_any _ _ _ h1 h2).mono ?_; rintro e w' ⟨rfl, rfl⟩))
            go_ret
            exact ⟨by rw [HO.out]; rfl, by (repeat (first | (with_reducible exact Below.refl _ _) | (with_reducible assumption) | (with_reducible refine below_plus' ?_ ?_; ((try simp only [plus_size, World.size_alloc, World.size_drew, World.size_setCell, size_setRow, World.heap_drewN, List.length_append]) <;> omega)) | (with_reducible refine below_alloc' ?_ ?_; ((try simp only [plus_size, World.size_alloc, World.size_drew, World.size_setCell, size_setRow, World.heap_drewN, List.length_append]) <;> omega)) | with_reducible refine Below.drew ?_ | (with_reducible refine below_drewN' ?_ _) | exact Below.refl _ _))⟩
          | true =>
            have HI := Lib.hid hin
            go_wp2_with (first | (go_at_call 48; refine (isLetter_any _ _ _ h1 h2).mono ?_; rintro e w' ⟨rfl, rfl⟩))
            go_round
            case rel => exact ⟨k + 1, by omega, by go_num, Lib.hid (fun i hi => by by_cases e : i = k; (· rw [e]; exact HI.out); (· exact Hl.out i (by omega)))⟩
            case measure => simp [intOf]; omega
        · obtain rfl : k = xs.length := by omega
          have HO := Lib.hid (okW_good Hb.out hl Hl.out)
          go_wp2
          go_ret
          exact ⟨by rw [HO.out]; rfl, by (repeat (first | (with_reducible exact Below.refl _ _) | (with_reducible assumption) | (with_reducible refine below_plus' ?_ ?_; ((try simp only [plus_size, World.size_alloc, World.size_drew, World.size_setCell, size_setRow, World.heap_drewN, List.length_append]) <;> omega)) | (with_reducible refine below_alloc' ?_ ?_; ((try simp only [plus_size, World.size_alloc, World.size_drew, World.size_setCell, size_setRow, World.heap_drewN, List.length_append]) <;> omega)) | with_reducible refine Below.drew ?_ | (with_reducible refine below_drewN' ?_ _) | exact Below.refl _ _))⟩
    · have HO := Lib.hid (okW_long (n := n) hl)
      go_enter Try.func26, Try.ntmps26
      go_wp2_with (first | (go_at_call 47; refine (isCount_any _ _).mono ?_; rintro e w' ⟨rfl, rfl⟩))
      go_ret
      exact ⟨by rw [HO.out]; rfl, by (repeat (first | (with_reducible exact Below.refl _ _) | (with_reducible assumption) | (with_reducible refine below_plus' ?_ ?_; ((try simp only [plus_size, World.size_alloc, World.size_drew, World.size_setCell, size_setRow, World.heap_drewN, List.length_append]) <;> omega)) | (with_reducible refine below_alloc' ?_ ?_; ((try simp only [plus_size, World.size_alloc, World.size_drew, World.size_setCell, size_setRow, World.heap_drewN, List.length_append]) <;> omega)) | with_reducible refine Below.drew ?_ | (with_reducible refine below_drewN' ?_ _) | exact Below.refl _ _))⟩
end Go.Proofs.Ytikakoclmmmjdaa
namespace Go.Proofs.Ytikakoclmmmjdaa
open Go.RowKit
set_option linter.unusedSimpArgs false
set_option linter.unusedVariables false
set_option maxHeartbeats 400000 in
theorem spec_Is (n : Int) (v : Value) (xs : List Int) (w : World) (h : reads w v xs) (hlen : xs.length ≤ 1000000000) (hfit : Fits xs) : Calls Try.prog 23 #[.agg #[.int .i64 n, v]] w fun e w' => e = .returned (.bool (okW n xs)) ∧ Below w.heap.size w w' := by
  obtain ⟨a, c, rfl, h⟩ := h
  have Hr := Lib.hid (show 0 < xs.length → ∃ b o, a = some ⟨b, o, none⟩ ∧ b < w.heap.size ∧ ∀ i, i < xs.length → w.cell? ⟨b, o + i, none⟩ = some (.int .i64 (nth xs i)) from fun hp => by
    rcases h with h | ⟨b, o, rfl, m⟩
    · rw [h] at hp; cases hp
    · exact ⟨b, o, rfl, World.block_lt_of_cell? w _ (m 0 hp), m⟩)
  clear h
  have Hfit := Lib.hid (fun i => fits_nth hfit (i := i))
  clear hfit
  cases hb : inB n 1 8 with
  | false =>
    have HO := Lib.hid (okW_out (xs := xs) hb)
    go_enter Try.func23, Try.ntmps23
    go_wp2_with (first | (go_at_call 41; refine (l01In_any _ _ _ _).mono ?_; rintro e w' ⟨rfl, rfl⟩))
    go_ret
    exact ⟨by rw [HO.out]; rfl, by (repeat (first | (with_reducible exact Below.refl _ _) | (with_reducible assumption) | (with_reducible refine below_plus' ?_ ?_; ((try simp only [plus_size, World.size_alloc, World.size_drew, World.size_setCell, size_setRow, World.heap_drewN, List.length_append]) <;> omega)) | (with_reducible refine below_alloc' ?_ ?_; ((try simp only [plus_size, World.size_alloc, World.size_drew, World.size_setCell, size_setRow, World.heap_drewN, List.length_append]) <;> omega)) | with_reducible refine Below.drew ?_ | (with_reducible refine below_drewN' ?_ _) | exact Below.refl _ _))⟩
  | true =>
    have h1 := (inB_true hb).1
    have h2 := (inB_true hb).2
    by_cases hl : xs.length ≤ 200
    · go_enter Try.func23, Try.ntmps23
      go_wp2_with (first | (go_at_call 41; refine (l01In_any _ _ _ _).mono ?_; rintro e w' ⟨rfl, rfl⟩))
      have Hb := Lib.hid hb
      clear hb
      go_loop [3] (fun sl => ∃ k : Nat, k ≤ xs.length ∧ sl = .int .i64 k ∧ Hid (∀ i, i < k → isL (nth xs i) n = true)) (fun sl => xs.length - (intOf sl).toNat)
      case atStart => exact ⟨0, by omega, rfl, Lib.hid (fun i hi => by omega)⟩
      case round =>
        obtain ⟨k, hk, rfl, Hl⟩ := hrel
        by_cases hlt : k < xs.length
        · obtain ⟨b, o, rfl, hbk, mm⟩ := Hr.out (by omega)
          have g1 := mm k hlt
          have hft := Hfit.out k hlt
          clear mm Hr
          cases hA : inB (nth xs k) 1 (n - 1) with
          | true =>
            have HI := Lib.hid (show isL (nth xs k) n = true by have := inB_true hA; simp only [isL, decide_eq_true_eq]; omega)
            go_wp2_with (first | (go_at_call 41; refine (l01In_any _ _ _ _).mono ?_; rintro e w' ⟨rfl, rfl⟩))
            go_round
            case rel => exact ⟨k + 1, by omega, by go_num, Lib.hid (fun i hi => by by_cases e : i = k; (· rw [e]; exact HI.out); (· exact Hl.out i (by omega)))⟩
            case measure => simp [intOf]; omega
          | false =>
            by_cases hmin : nth xs k = -9223372036854775808
            · have hin : isL (nth xs k) n = false := by simp only [isL, decide_eq_false_iff_not]; omega
              have HO := Lib.hid (okW_bad hlt hin)
              rw [hmin] at g1 hA
              have hB : inB (wrap64 9223372036854775808) 1 (n - 1) = false := by rw [show wrap64 9223372036854775808 = -9223372036854775808 by kernel_rfl]; exact hA
              clear hft hmin hin
              go_wp2_with (first | (go_at_call 41; refine (l01In_any _ _ _ _).mono ?_; rintro e w' ⟨rfl, rfl⟩))
              go_ret
              exact ⟨by rw [HO.out]; rfl, by (repeat (first | (with_reducible exact Below.refl _ _) | (with_reducible assumption) | (with_reducible refine below_plus' ?_ ?_; ((try simp only [plus_size, World.size_alloc, World.size_drew, World.size_setCell, size_setRow, World.heap_drewN, List.length_append]) <;> omega)) | (with_reducible refine below_alloc' ?_ ?_; ((try simp only [plus_size, World.size_alloc, World.size_drew, World.size_setCell, size_setRow, World.heap_drewN, List.length_append]) <;> omega)) | with_reducible refine Below.drew ?_ | (with_reducible refine below_drewN' ?_ _) | exact Below.refl _ _))⟩
            · have hneg : -9223372036854775807 ≤ nth xs k := by omega
              cases hB : inB (-nth xs k) 1 (n - 1) with
              | true =>
                have HI := Lib.hid (show isL (nth xs k) n = true by have := inB_true hB; simp only [isL, decide_eq_true_eq]; omega)
                go_wp2_with (first | (go_at_call 41; refine (l01In_any _ _ _ _).mono ?_; rintro e w' ⟨rfl, rfl⟩))
                go_round
                case rel => exact ⟨k + 1, by omega, by go_num, Lib.hid (fun i hi => by by_cases e : i = k; (· rw [e]; exact HI.out); (· exact Hl.out i (by omega)))⟩
                case measure => simp [intOf]; omega
              | false =>
                have hin : isL (nth xs k) n = false := by have := inB_false hA; have := inB_false hB; simp only [isL, decide_eq_false_iff_not]; omega
                have HO := Lib.hid (okW_bad hlt hin)
                go_wp2_with (first | (go_at_call 41; refine (l01In_any _ _ _ _).mono ?_; rintro e w' ⟨rfl, rfl⟩))
                go_ret
                exact ⟨by rw [HO.out]; rfl, by (repeat (first | (with_reducible exact Below.refl _ _) | (with_reducible assumption) | (with_reducible refine below_plus' ?_ ?_; ((try simp only [plus_size, World.size_alloc, World.size_drew, World.size_setCell, size_setRow, World.heap_drewN, List.length_append]) <;> omega)) | (with_reducible refine below_alloc' ?_ ?_; ((try simp only [plus_size, World.size_alloc, World.size_drew, World.size_setCell, size_setRow, World.heap_drewN, List.length_append]) <;> omega)) | with_reducible refine Below.drew ?_ | (with_reducible refine below_drewN' ?_ _) | exact Below.refl _ _))⟩
        · obtain rfl : k = xs.length := by omega
          have HO := Lib.hid (okW_good Hb.out hl Hl.out)
          go_wp2
          go_ret
          exact ⟨by rw [HO.out]; rfl, by (repeat (first | (with_reducible exact Below.refl _ _) | (with_reducible assumption) | (with_reducible refine below_plus' ?_ ?_; ((try simp only [plus_size, World.size_alloc, World.size_drew, World.size_setCell, size_setRow, World.heap_drewN, List.length_append]) <;> omega)) | (with_reducible refine below_alloc' ?_ ?_; ((try simp only [plus_size, World.size_alloc, World.size_drew, World.size_setCell, size_setRow, World.heap_drewN, List.length_append]) <;> omega)) | with_reducible refine Below.drew ?_ | (with_reducible refine below_drewN' ?_ _) | exact Below.refl _ _))⟩
    · have HO := Lib.hid (okW_long (n := n) hl)
      go_enter Try.func23, Try.ntmps23
      go_wp2_with (first | (go_at_call 41; refine (l01In_any _ _ _ _).mono ?_; rintro e w' ⟨rfl, rfl⟩))
      go_ret
      exact ⟨by rw [HO.out]; rfl, by (repeat (first | (with_reducible exact Below.refl _ _) | (with_reducible assumption) | (with_reducible refine below_plus' ?_ ?_; ((try simp only [plus_size, World.size_alloc, World.size_drew, World.size_setCell, size_setRow, World.heap_drewN, List.length_append]) <;> omega)) | (with_reducible refine below_alloc' ?_ ?_; ((try simp only [plus_size, World.size_alloc, World.size_drew, World.size_setCell, size_setRow, World.heap_drewN, List.length_append]) <;> omega)) | with_reducible refine Below.drew ?_ | (with_reducible refine below_drewN' ?_ _) | exact Below.refl _ _))⟩
/-- a braid in memory of its own is handed back -/
def RetB (e : TypeId) (w : World) (n : Int) (xs : List Int) : Ending → World → Prop := fun en w' => ∃ v, en = .returned (.agg #[.int .i64 n, v]) ∧ Below w.heap.size w w' ∧ own e w' w.heap.size v xs
/-- .. beside a code -/
def RetB2 (e : TypeId) (w : World) (n : Int) (xs : List Int) (c : Int) : Ending → World → Prop := fun en w' => ∃ v, en = .returned (.tuple #[.agg #[.int .i64 n, v], .int .i64 c]) ∧ Below w.heap.size w w' ∧ own e w' w.heap.size v xs
set_option maxHeartbeats 400000 in
theorem toBraid_any (n : Int) (v : Value) (xs : List Int) (w : World) (h : reads w v xs) (hlen : xs.length ≤ 1000000000) : Calls Try.prog 8 #[.agg #[.int .i64 n, v]] w (RetB 2 w n xs) := by
  have H := Lib.hid (fun w' (hb : Below w.heap.size w w') => toInts_any v xs w' (h.kept hb) hlen)
  clear h hlen
  go_enter Try.func8, Try.ntmps8
  go_wp2_with (first | (go_at_call 25; refine Calls.mono (H.out _ ?_) ?_; (repeat (first | (with_reducible exact Below.refl _ _) | (with_reducible assumption) | (with_reducible refine below_plus' ?_ ?_; ((try simp only [plus_size, World.size_alloc, World.size_drew, World.size_setCell, size_setRow, World.heap_drewN, List.length_append]) <;> omega)) | (with_reducible refine below_alloc' ?_ ?_; ((try simp only [plus_size, World.size_alloc, World.size_drew, World.size_setCell, size_setRow, World.heap_drewN, List.length_append]) <;> omega)) | with_reducible refine Below.drew ?_ | (with_reducible refine below_drewN' ?_ _) | exact Below.refl _ _)); rintro e w' ⟨vx, rfl, hB, ho⟩; obtain ⟨ax, cx, rfl, hs⟩ := ho.reads; clear hs; obtain ⟨j, d, rfl⟩ := plus_of_below hB; clear hB))
  refine bodyPost_ret (v := .agg #[.int .i64 n, .slice ax xs.length cx]) (by simp [results, Try.results8, go_sem]) rfl ?_
  exact ⟨_, rfl, by (repeat (first | (with_reducible exact Below.refl _ _) | (with_reducible assumption) | (with_reducible refine below_plus' ?_ ?_; ((try simp only [plus_size, World.size_alloc, World.size_drew, World.size_setCell, size_setRow, World.heap_drewN, List.length_append]) <;> omega)) | (with_reducible refine below_alloc' ?_ ?_; ((try simp only [plus_size, World.size_alloc, World.size_drew, World.size_setCell, size_setRow, World.heap_drewN, List.length_append]) <;> omega)) | with_reducible refine Below.drew ?_ | (with_reducible refine below_drewN' ?_ _) | exact Below.refl _ _)), (own_swap (by ((try simp only [plus_size, World.size_alloc, World.size_drew, World.size_setCell, size_setRow, World.heap_drewN, List.length_append]) <;> omega)) (Nat.le_refl _) ho).mono (by ((try simp only [plus_size, World.size_alloc, World.size_drew, World.size_setCell, size_setRow, World.heap_drewN, List.length_append]) <;> omega))⟩
set_option maxHeartbeats 400000 in
theorem eqBraid_same (n : Int) (v1 v2 : Value) (xs : List Int) (w : World) (h1 : reads w v1 xs) (h2 : reads w v2 xs) (hlen : xs.length ≤ 1000000000) : Calls Try.prog 11 #[.agg #[.int .i64 n, v1], .agg #[.int .i64 n, v2]] w fun e w' => e = .returned (.bool true) ∧ Below w.heap.size w w' := by
  have H := Lib.hid (fun w' (hb : Below w.heap.size w w') => eqInts_same v1 v2 xs w' (h1.kept hb) (h2.kept hb) hlen)
  clear h1 h2 hlen
  go_enter Try.func11, Try.ntmps11
  go_wp2_with (first | (go_at_call 30; refine Calls.mono (H.out _ ?_) ?_; (repeat (first | (with_reducible exact Below.refl _ _) | (with_reducible assumption) | (with_reducible refine below_plus' ?_ ?_; ((try simp only [plus_size, World.size_alloc, World.size_drew, World.size_setCell, size_setRow, World.heap_drewN, List.length_append]) <;> omega)) | (with_reducible refine below_alloc' ?_ ?_; ((try simp only [plus_size, World.size_alloc, World.size_drew, World.size_setCell, size_setRow, World.heap_drewN, List.length_append]) <;> omega)) | with_reducible refine Below.drew ?_ | (with_reducible refine below_drewN' ?_ _) | exact Below.refl _ _)); rintro e w' ⟨rfl, hB⟩; obtain ⟨j, d, rfl⟩ := plus_of_below hB; clear hB))
  go_ret
  exact ⟨rfl, by (repeat (first | (with_reducible exact Below.refl _ _) | (with_reducible assumption) | (with_reducible refine below_plus' ?_ ?_; ((try simp only [plus_size, World.size_alloc, World.size_drew, World.size_setCell, size_setRow, World.heap_drewN, List.length_append]) <;> omega)) | (with_reducible refine below_alloc' ?_ ?_; ((try simp only [plus_size, World.size_alloc, World.size_drew, World.size_setCell, size_setRow, World.heap_drewN, List.length_append]) <;> omega)) | with_reducible refine Below.drew ?_ | (with_reducible refine below_drewN' ?_ _) | exact Below.refl _ _))⟩
set_option maxHeartbeats 400000 in
theorem markBraid_any (n : Int) (v : Value) (xs : List Int) (B : Nat) (w : World) (h : own 2 w B v xs) (hlen : xs.length ≤ 1000000000) : Calls Try.prog 12 #[.agg #[.int .i64 n, v], .int .i64 1] w fun e w' => e = .returned (.int .i64 (1 + xs.length)) ∧ own 2 w' B v (marks 1 xs.length) ∧ w.grownBy w' v.ownBlock := by
  have H := Lib.hid (fun w' (hb : Below w.heap.size w w') => markInts_any v xs B 1 w' (h.kept hb) one_lo one_hi hlen)
  have HG := Lib.hid (fun (w' w'' : World) (hb : Below w.heap.size w w') (hg : w'.grownBy w'' v.ownBlock) => grown_trans' hb hg)
  clear h
  go_enter Try.func12, Try.ntmps12
  go_wp2_with (first | (go_at_call 31; refine Calls.mono (H.out _ ?_) ?_; (repeat (first | (with_reducible exact Below.refl _ _) | (with_reducible assumption) | (with_reducible refine below_plus' ?_ ?_; ((try simp only [plus_size, World.size_alloc, World.size_drew, World.size_setCell, size_setRow, World.heap_drewN, List.length_append]) <;> omega)) | (with_reducible refine below_alloc' ?_ ?_; ((try simp only [plus_size, World.size_alloc, World.size_drew, World.size_setCell, size_setRow, World.heap_drewN, List.length_append]) <;> omega)) | with_reducible refine Below.drew ?_ | (with_reducible refine below_drewN' ?_ _) | exact Below.refl _ _)); rintro e w' ⟨rfl, hm, hg⟩; replace hg := HG.out _ _ (by (repeat (first | (with_reducible exact Below.refl _ _) | (with_reducible assumption) | (with_reducible refine below_plus' ?_ ?_; ((try simp only [plus_size, World.size_alloc, World.size_drew, World.size_setCell, size_setRow, World.heap_drewN, List.length_append]) <;> omega)) | (with_reducible refine below_alloc' ?_ ?_; ((try simp only [plus_size, World.size_alloc, World.size_drew, World.size_setCell, size_setRow, World.heap_drewN, List.length_append]) <;> omega)) | with_reducible refine Below.drew ?_ | (with_reducible refine below_drewN' ?_ _) | exact Below.refl _ _))) hg))
  go_ret
  exact ⟨rfl, hm, hg⟩
theorem szInts_any (v : Value) (xs : List Int) (w : World) (h : reads w v xs) (hlen : xs.length ≤ 9223372036854775807) : Calls Try.prog 22 #[v, .int .i64 1048576] w fun e w' => e = .returned (.int .i64 (if (xs.length : Int) ≤ 1048576 then 1048576 - xs.length else -1)) ∧ w = w' := by
  obtain ⟨a, c, rfl, h⟩ := h
  clear h
  by_cases hl : (xs.length : Int) ≤ 1048576
  · go_enter Try.func22, Try.ntmps22
    go_wp2
    go_ret
    exact ⟨by first | rfl | (rw [if_pos hl]; rfl), rfl⟩
  · go_enter Try.func22, Try.ntmps22
    go_wp2
    go_ret
    exact ⟨by first | rfl | (rw [if_neg hl]; rfl), rfl⟩
theorem szBraid_any (n : Int) (v : Value) (xs : List Int) (w : World) (h : reads w v xs) (hlen : xs.length ≤ 9223372036854775807) : Calls Try.prog 6 #[.agg #[.int .i64 n, v], .int .i64 1048576] w fun e w' => e = .returned (.int .i64 (if (xs.length : Int) ≤ 1048576 then 1048576 - xs.length else -1)) ∧ Below w.heap.size w w' := by
  have H := Lib.hid (fun w' (hb : Below w.heap.size w w') => szInts_any v xs w' (h.kept hb) hlen)
  clear h
  by_cases hl : (xs.length : Int) ≤ 1048576
  · simp only [if_pos hl] at H ⊢
    go_enter Try.func6, Try.ntmps6
    go_wp2_with (first | (go_at_call 22; refine Calls.mono (H.out _ ?_) ?_; (repeat (first | (with_reducible exact Below.refl _ _) | (with_reducible assumption) | (with_reducible refine below_plus' ?_ ?_; ((try simp only [plus_size, World.size_alloc, World.size_drew, World.size_setCell, size_setRow, World.heap_drewN, List.length_append]) <;> omega)) | (with_reducible refine below_alloc' ?_ ?_; ((try simp only [plus_size, World.size_alloc, World.size_drew, World.size_setCell, size_setRow, World.heap_drewN, List.length_append]) <;> omega)) | with_reducible refine Below.drew ?_ | (with_reducible refine below_drewN' ?_ _) | exact Below.refl _ _)); rintro e w' ⟨rfl, rfl⟩))
    go_ret
    exact ⟨rfl, by (repeat (first | (with_reducible exact Below.refl _ _) | (with_reducible assumption) | (with_reducible refine below_plus' ?_ ?_; ((try simp only [plus_size, World.size_alloc, World.size_drew, World.size_setCell, size_setRow, World.heap_drewN, List.length_append]) <;> omega)) | (with_reducible refine below_alloc' ?_ ?_; ((try simp only [plus_size, World.size_alloc, World.size_drew, World.size_setCell, size_setRow, World.heap_drewN, List.length_append]) <;> omega)) | with_reducible refine Below.drew ?_ | (with_reducible refine below_drewN' ?_ _) | exact Below.refl _ _))⟩
  · simp only [if_neg hl] at H ⊢
    go_enter Try.func6, Try.ntmps6
    go_wp2_with (first | (go_at_call 22; refine Calls.mono (H.out _ ?_) ?_; (repeat (first | (with_reducible exact Below.refl _ _) | (with_reducible assumption) | (with_reducible refine below_plus' ?_ ?_; ((try simp only [plus_size, World.size_alloc, World.size_drew, World.size_setCell, size_setRow, World.heap_drewN, List.length_append]) <;> omega)) | (with_reducible refine below_alloc' ?_ ?_; ((try simp only [plus_size, World.size_alloc, World.size_drew, World.size_setCell, size_setRow, World.heap_drewN, List.length_append]) <;> omega)) | with_reducible refine Below.drew ?_ | (with_reducible refine below_drewN' ?_ _) | exact Below.refl _ _)); rintro e w' ⟨rfl, rfl⟩))
    go_ret
    exact ⟨rfl, by (repeat (first | (with_reducible exact Below.refl _ _) | (with_reducible assumption) | (with_reducible refine below_plus' ?_ ?_; ((try simp only [plus_size, World.size_alloc, World.size_drew, World.size_setCell, size_setRow, World.heap_drewN, List.length_append]) <;> omega)) | (with_reducible refine below_alloc' ?_ ?_; ((try simp only [plus_size, World.size_alloc, World.size_drew, World.size_setCell, size_setRow, World.heap_drewN, List.length_append]) <;> omega)) | with_reducible refine Below.drew ?_ | (with_reducible refine below_drewN' ?_ _) | exact Below.refl _ _))⟩
end Go.Proofs.Ytikakoclmmmjdaa
namespace Go.Proofs.Ytikakoclmmmjdaa
open Go.RowKit
set_option linter.unusedSimpArgs false
set_option linter.unusedVariables false
/-- every coefficient is within its limit -/
def allC (xs : List Int) : Bool := decide (∀ i, i < xs.length → inB (nth xs i) (-1000000000000) 1000000000000 = true)
theorem allC_bad {xs : List Int} {k : Nat} (hk : k < xs.length) (h : inB (nth xs k) (-1000000000000) 1000000000000 = false) : allC xs = false := by
  simp only [allC, decide_eq_false_iff_not]
  intro h2
  rw [h2 k hk] at h; cases h
theorem allC_good {xs : List Int} (h : ∀ i, i < xs.length → inB (nth xs i) (-1000000000000) 1000000000000 = true) : allC xs = true := by simpa [allC] using h
theorem allC_at {xs : List Int} (h : allC xs = true) {i : Nat} (hi : i < xs.length) : -1000000000000 ≤ nth xs i ∧ nth xs i ≤ 1000000000000 := by
  simp only [allC, decide_eq_true_eq] at h
  exact inB_true (h i hi)
/-- a polynomial -/
def okL (low : Int) (xs : List Int) : Bool := if xs.length = 0 then decide (low = 0) else decide (xs.length ≤ 2001) && inB low (-1000) 1000 && decide (low + xs.length - 1 ≤ 1000) && !decide (nth xs 0 = 0) && !decide (nth xs (xs.length - 1) = 0) && allC xs
theorem okL_0 {low : Int} {xs : List Int} (h : xs.length = 0) : okL low xs = decide (low = 0) := by simp [okL, h]
theorem okL_A {low : Int} {xs : List Int} (h0 : ¬ xs.length = 0) (h : ¬ xs.length ≤ 2001) : okL low xs = false := by simp only [okL, if_neg h0]; simp [h]
theorem okL_B {low : Int} {xs : List Int} (h0 : ¬ xs.length = 0) (h : inB low (-1000) 1000 = false) : okL low xs = false := by simp only [okL, if_neg h0]; simp [h]
theorem okL_C {low : Int} {xs : List Int} (h0 : ¬ xs.length = 0) (h : ¬ low + xs.length - 1 ≤ 1000) : okL low xs = false := by simp only [okL, if_neg h0]; simp [h]
theorem okL_D {low : Int} {xs : List Int} (h0 : ¬ xs.length = 0) (h : nth xs 0 = 0) : okL low xs = false := by simp only [okL, if_neg h0]; simp [h]
theorem okL_E {low : Int} {xs : List Int} {p : Nat} (h0 : xs.length = p + 1) (h : nth xs p = 0) : okL low xs = false := by
  have h1 : ¬ xs.length = 0 := by omega
  simp only [okL, if_neg h1, h0, Nat.add_sub_cancel]; simp [h]
theorem okL_G {low : Int} {xs : List Int} {p : Nat} (h0 : xs.length = p + 1) (hA : xs.length ≤ 2001) (hB : inB low (-1000) 1000 = true) (hC : low + xs.length - 1 ≤ 1000) (hD : ¬ nth xs 0 = 0) (hE : ¬ nth xs p = 0) : okL low xs = allC xs := by
  have h1 : ¬ xs.length = 0 := by omega
  have e : xs.length - 1 = p := by omega
  simp only [okL, if_neg h1, e]; simp [hA, hB, hC, hD, hE]
theorem okL_true {low : Int} {xs : List Int} (h : okL low xs = true) : xs.length ≤ 2001 ∧ -1000 ≤ low ∧ low ≤ 1000 ∧ allC xs = true := by
  by_cases h0 : xs.length = 0
  · rw [okL_0 h0, decide_eq_true_eq] at h
    exact ⟨by omega, by omega, by omega, allC_good fun i hi => by omega⟩
  · simp only [okL, if_neg h0, Bool.and_eq_true, decide_eq_true_eq] at h
    have := inB_true h.1.1.1.1.2
    exact ⟨h.1.1.1.1.1, this.1, this.2, h.2⟩
theorem far_any (x : Int) (w : World) : Calls Try.prog 68 #[.int .i64 x] w fun e w' => e = .returned (.bool (!inB x (-1000000000000) 1000000000000)) ∧ w = w' := by
  go_enter Try.func68, Try.ntmps68
  go_wp2_with (first | (go_at_call 61; refine (within_any _ _ _ _).mono ?_; rintro e w' ⟨rfl, rfl⟩))
  go_ret
  exact ⟨rfl, rfl⟩
set_option maxHeartbeats 400000 in
theorem index_any (v : Value) (xs : List Int) (w : World) (h : reads w v xs) (hlen : xs.length ≤ 2001) : Calls Try.prog 70 #[v, .func (.func 68) #[] #[]] w fun e w' => (∃ r : Int, e = .returned (.int .i64 r) ∧ decide (0 ≤ r) = !allC xs) ∧ Below w.heap.size w w' := by
  obtain ⟨a, c, rfl, h⟩ := h
  have Hr := Lib.hid (show 0 < xs.length → ∃ b o, a = some ⟨b, o, none⟩ ∧ b < w.heap.size ∧ ∀ i, i < xs.length → w.cell? ⟨b, o + i, none⟩ = some (.int .i64 (nth xs i)) from fun hp => by
    rcases h with h | ⟨b, o, rfl, m⟩
    · rw [h] at hp; cases hp
    · exact ⟨b, o, rfl, World.block_lt_of_cell? w _ (m 0 hp), m⟩)
  clear h
  go_enter Try.func70, Try.ntmps70
  go_wp2
  go_loop [8] (fun sl => ∃ k : Nat, k ≤ xs.length ∧ sl = .int .i64 k ∧ Hid (∀ i, i < k → inB (nth xs i) (-1000000000000) 1000000000000 = true)) (fun sl => xs.length - (intOf sl).toNat)
  case atStart => exact ⟨0, by omega, rfl, Lib.hid (fun i hi => by omega)⟩
  case round =>
    obtain ⟨k, hk, rfl, Hl⟩ := hrel
    by_cases hlt : k < xs.length
    · obtain ⟨b, o, rfl, hbk, mm⟩ := Hr.out (by omega)
      have g1 := mm k hlt
      clear mm Hr
      cases hin : inB (nth xs k) (-1000000000000) 1000000000000 with
      | false =>
        have HO := Lib.hid (allC_bad hlt hin)
        have hf := fun w => far_any (nth xs k) w
        simp only [hin] at hf
        have Hf := Lib.hid hf
        clear hf hin
        go_wp2_with (first | (go_at_call 68; refine (Hf.out _).mono ?_; rintro e w' ⟨rfl, rfl⟩))
        go_ret
        exact ⟨⟨k, rfl, by rw [HO.out]; simp⟩, by (repeat (first | (with_reducible exact Below.refl _ _) | (with_reducible assumption) | (with_reducible refine below_plus' ?_ ?_; ((try simp only [plus_size, World.size_alloc, World.size_drew, World.size_setCell, size_setRow, World.heap_drewN, List.length_append]) <;> omega)) | (with_reducible refine below_alloc' ?_ ?_; ((try simp only [plus_size, World.size_alloc, World.size_drew, World.size_setCell, size_setRow, World.heap_drewN, List.length_append]) <;> omega)) | with_reducible refine Below.drew ?_ | (with_reducible refine below_drewN' ?_ _) | exact Below.refl _ _))⟩
      | true =>
        have HI := Lib.hid hin
        have hf := fun w => far_any (nth xs k) w
        simp only [hin] at hf
        have Hf := Lib.hid hf
        clear hf hin
        go_wp2_with (first | (go_at_call 68; refine (Hf.out _).mono ?_; rintro e w' ⟨rfl, rfl⟩))
        go_round
        case rel => exact ⟨k + 1, by omega, by go_num, Lib.hid (fun i hi => by by_cases e : i = k; (· rw [e]; exact HI.out); (· exact Hl.out i (by omega)))⟩
        case measure => simp [intOf]; omega
    · obtain rfl : k = xs.length := by omega
      have HO := Lib.hid (allC_good Hl.out)
      go_wp2
      go_ret
      exact ⟨⟨-1, rfl, by rw [HO.out]; rfl⟩, by (repeat (first | (with_reducible exact Below.refl _ _) | (with_reducible assumption) | (with_reducible refine below_plus' ?_ ?_; ((try simp only [plus_size, World.size_alloc, World.size_drew, World.size_setCell, size_setRow, World.heap_drewN, List.length_append]) <;> omega)) | (with_reducible refine below_alloc' ?_ ?_; ((try simp only [plus_size, World.size_alloc, World.size_drew, World.size_setCell, size_setRow, World.heap_drewN, List.length_append]) <;> omega)) | with_reducible refine Below.drew ?_ | (with_reducible refine below_drewN' ?_ _) | exact Below.refl _ _))⟩
set_option maxHeartbeats 400000 in
theorem contains_any (v : Value) (xs : List Int) (w : World) (h : reads w v xs) (hlen : xs.length ≤ 2001) : Calls Try.prog 67 #[v, .func (.func 68) #[] #[]] w fun e w' => e = .returned (.bool (!allC xs)) ∧ Below w.heap.size w w' := by
  have HI := Lib.hid (fun w' (hb : Below w.heap.size w w') => index_any v xs w' (h.kept hb) hlen)
  clear h
  go_enter Try.func67, Try.ntmps67
  go_wp2_with (first | (go_at_call 70; refine Calls.mono (HI.out _ ?_) ?_; (repeat (first | (with_reducible exact Below.refl _ _) | (with_reducible assumption) | (with_reducible refine below_plus' ?_ ?_; ((try simp only [plus_size, World.size_alloc, World.size_drew, World.size_setCell, size_setRow, World.heap_drewN, List.length_append]) <;> omega)) | (with_reducible refine below_alloc' ?_ ?_; ((try simp only [plus_size, World.size_alloc, World.size_drew, World.size_setCell, size_setRow, World.heap_drewN, List.length_append]) <;> omega)) | with_reducible refine Below.drew ?_ | (with_reducible refine below_drewN' ?_ _) | exact Below.refl _ _)); rintro e w' ⟨⟨r, rfl, hr⟩, hB⟩; obtain ⟨j, d, rfl⟩ := plus_of_below hB; clear hB))
  go_ret
  exact ⟨by rw [← hr]; rfl, by (repeat (first | (with_reducible exact Below.refl _ _) | (with_reducible assumption) | (with_reducible refine below_plus' ?_ ?_; ((try simp only [plus_size, World.size_alloc, World.size_drew, World.size_setCell, size_setRow, World.heap_drewN, List.length_append]) <;> omega)) | (with_reducible refine below_alloc' ?_ ?_; ((try simp only [plus_size, World.size_alloc, World.size_drew, World.size_setCell, size_setRow, World.heap_drewN, List.length_append]) <;> omega)) | with_reducible refine Below.drew ?_ | (with_reducible refine below_drewN' ?_ _) | exact Below.refl _ _))⟩
set_option maxHeartbeats 2000000 in
theorem impl_IsP (n : Int) (v : Value) (xs : List Int) (w : World) (h : reads w v xs) (hlen : xs.length ≤ 1000000000) (hfit : Fits xs) : Calls Try.prog 62 #[.agg #[.int .i64 n, v]] w fun e w' => e = .returned (.bool (okL n xs)) ∧ Below w.heap.size w w' := by
  have h0 := h
  obtain ⟨a, c, rfl, hrd⟩ := h
  by_cases hz : xs.length = 0
  · clear hrd h0
    by_cases hn : n = 0
    · have HO := Lib.hid (show okL n xs = true by rw [okL_0 hz]; simp [hn])
      have hnb : (n == 0) = true := by simp [hn]
      simp only [hz]
      go_enter Try.func62, Try.ntmps62
      go_wp2_with (first | (go_at_call 61; refine (within_any _ _ _ _).mono ?_; rintro e w' ⟨rfl, rfl⟩))
      go_ret
      exact ⟨by rw [HO.out]; first | rfl | simp, by (repeat (first | (with_reducible exact Below.refl _ _) | (with_reducible assumption) | (with_reducible refine below_plus' ?_ ?_; ((try simp only [plus_size, World.size_alloc, World.size_drew, World.size_setCell, size_setRow, World.heap_drewN, List.length_append]) <;> omega)) | (with_reducible refine below_alloc' ?_ ?_; ((try simp only [plus_size, World.size_alloc, World.size_drew, World.size_setCell, size_setRow, World.heap_drewN, List.length_append]) <;> omega)) | with_reducible refine Below.drew ?_ | (with_reducible refine below_drewN' ?_ _) | exact Below.refl _ _))⟩
    · have HO := Lib.hid (show okL n xs = false by rw [okL_0 hz]; simp [hn])
      have hnb : (n == 0) = false := by simp [hn]
      simp only [hz]
      go_enter Try.func62, Try.ntmps62
      go_wp2_with (first | (go_at_call 61; refine (within_any _ _ _ _).mono ?_; rintro e w' ⟨rfl, rfl⟩))
      go_ret
      exact ⟨by rw [HO.out]; first | rfl | simp, by (repeat (first | (with_reducible exact Below.refl _ _) | (with_reducible assumption) | (with_reducible refine below_plus' ?_ ?_; ((try simp only [plus_size, World.size_alloc, World.size_drew, World.size_setCell, size_setRow, World.heap_drewN, List.length_append]) <;> omega)) | (with_reducible refine below_alloc' ?_ ?_; ((try simp only [plus_size, World.size_alloc, World.size_drew, World.size_setCell, size_setRow, World.heap_drewN, List.length_append]) <;> omega)) | with_reducible refine Below.drew ?_ | (with_reducible refine below_drewN' ?_ _) | exact Below.refl _ _))⟩
  · obtain ⟨b, o, rfl, mm⟩ := hrd.resolve_left (fun e => hz (by rw [e]; rfl))
    have hbk : b < w.heap.size := World.block_lt_of_cell? w _ (mm 0 (by omega))
    have hb1 : b < w.heap.size + 1 := by omega
    have hzb : ((xs.length : Int) == 0) = false := beq_eq_false_iff_ne.2 (by omega)
    have hz1 : ¬ (xs.length : Int) = 0 := by omega
    have hz2 : 0 < xs.length := by omega
    have hz3 : (0 : Int) < (xs.length : Int) := by omega
    by_cases hA : xs.length ≤ 2001
    · have hA1 : ¬ (2001 : Int) < (xs.length : Int) := by omega
      cases hin : inB n (-1000) 1000 with
      | false =>
        have HO := Lib.hid (okL_B (low := n) hz hin)
        clear hrd h0 mm
        go_enter Try.func62, Try.ntmps62
        go_wp2_with (first | (go_at_call 61; refine (within_any _ _ _ _).mono ?_; rw [hin]; rintro e w' ⟨rfl, rfl⟩))
        go_ret
        exact ⟨by rw [HO.out]; first | rfl | simp, by (repeat (first | (with_reducible exact Below.refl _ _) | (with_reducible assumption) | (with_reducible refine below_plus' ?_ ?_; ((try simp only [plus_size, World.size_alloc, World.size_drew, World.size_setCell, size_setRow, World.heap_drewN, List.length_append]) <;> omega)) | (with_reducible refine below_alloc' ?_ ?_; ((try simp only [plus_size, World.size_alloc, World.size_drew, World.size_setCell, size_setRow, World.heap_drewN, List.length_append]) <;> omega)) | with_reducible refine Below.drew ?_ | (with_reducible refine below_drewN' ?_ _) | exact Below.refl _ _))⟩
      | true =>
        have hn1 := (inB_true hin).1
        have hn2 := (inB_true hin).2
        by_cases hC : n + xs.length - 1 ≤ 1000
        · have hC1 : ¬ (1000 : Int) < n + (xs.length : Int) - 1 := by omega
          have g0 := mm 0 (by omega)
          rw [Nat.add_zero] at g0
          by_cases hD : nth xs 0 = 0
          · have HO := Lib.hid (okL_D (low := n) hz hD)
            rw [hD] at g0
            clear hrd h0 mm
            go_enter Try.func62, Try.ntmps62
            go_wp2_with (first | (go_at_call 61; refine (within_any _ _ _ _).mono ?_; rw [hin]; rintro e w' ⟨rfl, rfl⟩))
            go_ret
            exact ⟨by rw [HO.out]; first | rfl | simp, by (repeat (first | (with_reducible exact Below.refl _ _) | (with_reducible assumption) | (with_reducible refine below_plus' ?_ ?_; ((try simp only [plus_size, World.size_alloc, World.size_drew, World.size_setCell, size_setRow, World.heap_drewN, List.length_append]) <;> omega)) | (with_reducible refine below_alloc' ?_ ?_; ((try simp only [plus_size, World.size_alloc, World.size_drew, World.size_setCell, size_setRow, World.heap_drewN, List.length_append]) <;> omega)) | with_reducible refine Below.drew ?_ | (with_reducible refine below_drewN' ?_ _) | exact Below.refl _ _))⟩
          · have hD1 : (nth xs 0 == 0) = false := by simp [hD]
            obtain ⟨p, hp⟩ : ∃ p, xs.length = p + 1 := ⟨xs.length - 1, by omega⟩
            have gp := mm p (by omega)
            have hpw : IntKind.i64.wrap ((xs.length : Int) - 1) = p := by rw [IntKind.wrap_i64]; omega
            have hpl : p < xs.length := by omega
            by_cases hE : nth xs p = 0
            · have HO := Lib.hid (okL_E (low := n) hp hE)
              rw [hE] at gp
              clear hrd h0 mm hp
              go_enter Try.func62, Try.ntmps62
              go_wp2_with (first | (go_at_call 61; refine (within_any _ _ _ _).mono ?_; rw [hin]; rintro e w' ⟨rfl, rfl⟩))
              go_ret
              exact ⟨by rw [HO.out]; first | rfl | simp, by (repeat (first | (with_reducible exact Below.refl _ _) | (with_reducible assumption) | (with_reducible refine below_plus' ?_ ?_; ((try simp only [plus_size, World.size_alloc, World.size_drew, World.size_setCell, size_setRow, World.heap_drewN, List.length_append]) <;> omega)) | (with_reducible refine below_alloc' ?_ ?_; ((try simp only [plus_size, World.size_alloc, World.size_drew, World.size_setCell, size_setRow, World.heap_drewN, List.length_append]) <;> omega)) | with_reducible refine Below.drew ?_ | (with_reducible refine below_drewN' ?_ _) | exact Below.refl _ _))⟩
            · have hE1 : (nth xs p == 0) = false := by simp [hE]
              have HO := Lib.hid (okL_G (low := n) hp hA hin hC hD hE)
              replace mm := Lib.hid mm
              clear hrd hp
              have HC := Lib.hid (fun w' (hb : Below w.heap.size w w') => contains_any _ xs w' (h0.kept hb) hA)
              go_enter Try.func62, Try.ntmps62
              go_wp2_with (first | (go_at_call 61; refine (within_any _ _ _ _).mono ?_; rw [hin]; rintro e w' ⟨rfl, rfl⟩) | (go_at_call 67; refine Calls.mono (HC.out _ ?_) ?_; (repeat (first | (with_reducible exact Below.refl _ _) | (with_reducible assumption) | (with_reducible refine below_plus' ?_ ?_; ((try simp only [plus_size, World.size_alloc, World.size_drew, World.size_setCell, size_setRow, World.heap_drewN, List.length_append]) <;> omega)) | (with_reducible refine below_alloc' ?_ ?_; ((try simp only [plus_size, World.size_alloc, World.size_drew, World.size_setCell, size_setRow, World.heap_drewN, List.length_append]) <;> omega)) | with_reducible refine Below.drew ?_ | (with_reducible refine below_drewN' ?_ _) | exact Below.refl _ _)); rintro e w' ⟨rfl, hB⟩; obtain ⟨j, d, rfl⟩ := plus_of_below hB; clear hB))
              go_ret
              exact ⟨by rw [HO.out]; simp, by (repeat (first | (with_reducible exact Below.refl _ _) | (with_reducible assumption) | (with_reducible refine below_plus' ?_ ?_; ((try simp only [plus_size, World.size_alloc, World.size_drew, World.size_setCell, size_setRow, World.heap_drewN, List.length_append]) <;> omega)) | (with_reducible refine below_alloc' ?_ ?_; ((try simp only [plus_size, World.size_alloc, World.size_drew, World.size_setCell, size_setRow, World.heap_drewN, List.length_append]) <;> omega)) | with_reducible refine Below.drew ?_ | (with_reducible refine below_drewN' ?_ _) | exact Below.refl _ _))⟩
        · have hC1 : (1000 : Int) < n + (xs.length : Int) - 1 := by omega
          have HO := Lib.hid (okL_C (low := n) hz hC)
          clear hrd h0 mm
          go_enter Try.func62, Try.ntmps62
          go_wp2_with (first | (go_at_call 61; refine (within_any _ _ _ _).mono ?_; rw [hin]; rintro e w' ⟨rfl, rfl⟩))
          go_ret
          exact ⟨by rw [HO.out]; first | rfl | simp, by (repeat (first | (with_reducible exact Below.refl _ _) | (with_reducible assumption) | (with_reducible refine below_plus' ?_ ?_; ((try simp only [plus_size, World.size_alloc, World.size_drew, World.size_setCell, size_setRow, World.heap_drewN, List.length_append]) <;> omega)) | (with_reducible refine below_alloc' ?_ ?_; ((try simp only [plus_size, World.size_alloc, World.size_drew, World.size_setCell, size_setRow, World.heap_drewN, List.length_append]) <;> omega)) | with_reducible refine Below.drew ?_ | (with_reducible refine below_drewN' ?_ _) | exact Below.refl _ _))⟩
    · have hA1 : (2001 : Int) < (xs.length : Int) := by omega
      have HO := Lib.hid (okL_A (low := n) hz hA)
      clear hrd h0 mm
      go_enter Try.func62, Try.ntmps62
      go_wp2_with (first | (go_at_call 61; refine (within_any _ _ _ _).mono ?_; rintro e w' ⟨rfl, rfl⟩))
      go_ret
      exact ⟨by rw [HO.out]; first | rfl | simp, by (repeat (first | (with_reducible exact Below.refl _ _) | (with_reducible assumption) | (with_reducible refine below_plus' ?_ ?_; ((try simp only [plus_size, World.size_alloc, World.size_drew, World.size_setCell, size_setRow, World.heap_drewN, List.length_append]) <;> omega)) | (with_reducible refine below_alloc' ?_ ?_; ((try simp only [plus_size, World.size_alloc, World.size_drew, World.size_setCell, size_setRow, World.heap_drewN, List.length_append]) <;> omega)) | with_reducible refine Below.drew ?_ | (with_reducible refine below_drewN' ?_ _) | exact Below.refl _ _))⟩
set_option maxHeartbeats 2000000 in
theorem spec_IsP (n : Int) (v : Value) (xs : List Int) (w : World) (h : reads w v xs) (hlen : xs.length ≤ 1000000000) (hfit : Fits xs) : Calls Try.prog 36 #[.agg #[.int .i64 n, v]] w fun e w' => e = .returned (.bool (okL n xs)) ∧ Below w.heap.size w w' := by
  have h0 := h
  obtain ⟨a, c, rfl, hrd⟩ := h
  by_cases hz : xs.length = 0
  · clear hrd h0
    by_cases hn : n = 0
    · have HO := Lib.hid (show okL n xs = true by rw [okL_0 hz]; simp [hn])
      have hnb : (n == 0) = true := by simp [hn]
      simp only [hz]
      go_enter Try.func36, Try.ntmps36
      go_wp2_with (first | (go_at_call 41; refine (l01In_any _ _ _ _).mono ?_; rintro e w' ⟨rfl, rfl⟩))
      go_ret
      exact ⟨by rw [HO.out]; first | rfl | simp, by (repeat (first | (with_reducible exact Below.refl _ _) | (with_reducible assumption) | (with_reducible refine below_plus' ?_ ?_; ((try simp only [plus_size, World.size_alloc, World.size_drew, World.size_setCell, size_setRow, World.heap_drewN, List.length_append]) <;> omega)) | (with_reducible refine below_alloc' ?_ ?_; ((try simp only [plus_size, World.size_alloc, World.size_drew, World.size_setCell, size_setRow, World.heap_drewN, List.length_append]) <;> omega)) | with_reducible refine Below.drew ?_ | (with_reducible refine below_drewN' ?_ _) | exact Below.refl _ _))⟩
    · have HO := Lib.hid (show okL n xs = false by rw [okL_0 hz]; simp [hn])
      have hnb : (n == 0) = false := by simp [hn]
      simp only [hz]
      go_enter Try.func36, Try.ntmps36
      go_wp2_with (first | (go_at_call 41; refine (l01In_any _ _ _ _).mono ?_; rintro e w' ⟨rfl, rfl⟩))
      go_ret
      exact ⟨by rw [HO.out]; first | rfl | simp, by (repeat (first | (with_reducible exact Below.refl _ _) | (with_reducible assumption) | (with_reducible refine below_plus' ?_ ?_; ((try simp only [plus_size, World.size_alloc, World.size_drew, World.size_setCell, size_setRow, World.heap_drewN, List.length_append]) <;> omega)) | (with_reducible refine below_alloc' ?_ ?_; ((try simp only [plus_size, World.size_alloc, World.size_drew, World.size_setCell, size_setRow, World.heap_drewN, List.length_append]) <;> omega)) | with_reducible refine Below.drew ?_ | (with_reducible refine below_drewN' ?_ _) | exact Below.refl _ _))⟩
  · obtain ⟨b, o, rfl, mm⟩ := hrd.resolve_left (fun e => hz (by rw [e]; rfl))
    have hbk : b < w.heap.size := World.block_lt_of_cell? w _ (mm 0 (by omega))
    have hb1 : b < w.heap.size + 1 := by omega
    have hzb : ((xs.length : Int) == 0) = false := beq_eq_false_iff_ne.2 (by omega)
    have hz1 : ¬ (xs.length : Int) = 0 := by omega
    have hz2 : 0 < xs.length := by omega
    have hz3 : (0 : Int) < (xs.length : Int) := by omega
    by_cases hA : xs.length ≤ 2001
    · have hA1 : ¬ (2001 : Int) < (xs.length : Int) := by omega
      cases hin : inB n (-1000) 1000 with
      | false =>
        have HO := Lib.hid (okL_B (low := n) hz hin)
        clear hrd h0 mm
        go_enter Try.func36, Try.ntmps36
        go_wp2_with (first | (go_at_call 41; refine (l01In_any _ _ _ _).mono ?_; rw [hin]; rintro e w' ⟨rfl, rfl⟩))
        go_ret
        exact ⟨by rw [HO.out]; first | rfl | simp, by (repeat (first | (with_reducible exact Below.refl _ _) | (with_reducible assumption) | (with_reducible refine below_plus' ?_ ?_; ((try simp only [plus_size, World.size_alloc, World.size_drew, World.size_setCell, size_setRow, World.heap_drewN, List.length_append]) <;> omega)) | (with_reducible refine below_alloc' ?_ ?_; ((try simp only [plus_size, World.size_alloc, World.size_drew, World.size_setCell, size_setRow, World.heap_drewN, List.length_append]) <;> omega)) | with_reducible refine Below.drew ?_ | (with_reducible refine below_drewN' ?_ _) | exact Below.refl _ _))⟩
      | true =>
        have hn1 := (inB_true hin).1
        have hn2 := (inB_true hin).2
        by_cases hC : n + xs.length - 1 ≤ 1000
        · have hC1 : ¬ (1000 : Int) < n + (xs.length : Int) - 1 := by omega
          have g0 := mm 0 (by omega)
          rw [Nat.add_zero] at g0
          by_cases hD : nth xs 0 = 0
          · have HO := Lib.hid (okL_D (low := n) hz hD)
            rw [hD] at g0
            clear hrd h0 mm
            go_enter Try.func36, Try.ntmps36
            go_wp2_with (first | (go_at_call 41; refine (l01In_any _ _ _ _).mono ?_; rw [hin]; rintro e w' ⟨rfl, rfl⟩))
            go_ret
            exact ⟨by rw [HO.out]; first | rfl | simp, by (repeat (first | (with_reducible exact Below.refl _ _) | (with_reducible assumption) | (with_reducible refine below_plus' ?_ ?_; ((try simp only [plus_size, World.size_alloc, World.size_drew, World.size_setCell, size_setRow, World.heap_drewN, List.length_append]) <;> omega)) | (with_reducible refine below_alloc' ?_ ?_; ((try simp only [plus_size, World.size_alloc, World.size_drew, World.size_setCell, size_setRow, World.heap_drewN, List.length_append]) <;> omega)) | with_reducible refine Below.drew ?_ | (with_reducible refine below_drewN' ?_ _) | exact Below.refl _ _))⟩
          · have hD1 : (nth xs 0 == 0) = false := by simp [hD]
            obtain ⟨p, hp⟩ : ∃ p, xs.length = p + 1 := ⟨xs.length - 1, by omega⟩
            have gp := mm p (by omega)
            have hpw : IntKind.i64.wrap ((xs.length : Int) - 1) = p := by rw [IntKind.wrap_i64]; omega
            have hpl : p < xs.length := by omega
            by_cases hE : nth xs p = 0
            · have HO := Lib.hid (okL_E (low := n) hp hE)
              rw [hE] at gp
              clear hrd h0 mm hp
              go_enter Try.func36, Try.ntmps36
              go_wp2_with (first | (go_at_call 41; refine (l01In_any _ _ _ _).mono ?_; rw [hin]; rintro e w' ⟨rfl, rfl⟩))
              go_ret
              exact ⟨by rw [HO.out]; first | rfl | simp, by (repeat (first | (with_reducible exact Below.refl _ _) | (with_reducible assumption) | (with_reducible refine below_plus' ?_ ?_; ((try simp only [plus_size, World.size_alloc, World.size_drew, World.size_setCell, size_setRow, World.heap_drewN, List.length_append]) <;> omega)) | (with_reducible refine below_alloc' ?_ ?_; ((try simp only [plus_size, World.size_alloc, World.size_drew, World.size_setCell, size_setRow, World.heap_drewN, List.length_append]) <;> omega)) | with_reducible refine Below.drew ?_ | (with_reducible refine below_drewN' ?_ _) | exact Below.refl _ _))⟩
            · have hE1 : (nth xs p == 0) = false := by simp [hE]
              have HO := Lib.hid (okL_G (low := n) hp hA hin hC hD hE)
              replace mm := Lib.hid mm
              clear hrd hp
              go_enter Try.func36, Try.ntmps36
              go_wp2_with (first | (go_at_call 41; refine (l01In_any _ _ _ _).mono ?_; rw [hin]; rintro e w' ⟨rfl, rfl⟩))
              go_loop [4] (fun sl => ∃ k : Nat, k ≤ xs.length ∧ sl = .int .i64 k ∧ Hid (∀ i, i < k → inB (nth xs i) (-1000000000000) 1000000000000 = true)) (fun sl => xs.length - (intOf sl).toNat)
              case atStart => exact ⟨0, by omega, rfl, Lib.hid (fun i hi => by omega)⟩
              case round =>
                obtain ⟨k, hk, rfl, Hl⟩ := hrel
                by_cases hlt : k < xs.length
                · have g1 := mm.out k hlt
                  have hb1 : b < w.heap.size + 1 := by omega
                  clear g0 gp
                  cases hi2 : inB (nth xs k) (-1000000000000) 1000000000000 with
                  | false =>
                    have HQ := Lib.hid (allC_bad hlt hi2)
                    go_wp2_with (first | (go_at_call 41; refine (l01In_any _ _ _ _).mono ?_; rw [hi2]; rintro e w' ⟨rfl, rfl⟩))
                    go_ret
                    exact ⟨by rw [HO.out, HQ.out]; rfl, by (repeat (first | (with_reducible exact Below.refl _ _) | (with_reducible assumption) | (with_reducible refine below_plus' ?_ ?_; ((try simp only [plus_size, World.size_alloc, World.size_drew, World.size_setCell, size_setRow, World.heap_drewN, List.length_append]) <;> omega)) | (with_reducible refine below_alloc' ?_ ?_; ((try simp only [plus_size, World.size_alloc, World.size_drew, World.size_setCell, size_setRow, World.heap_drewN, List.length_append]) <;> omega)) | with_reducible refine Below.drew ?_ | (with_reducible refine below_drewN' ?_ _) | exact Below.refl _ _))⟩
                  | true =>
                    have HI := Lib.hid hi2
                    go_wp2_with (first | (go_at_call 41; refine (l01In_any _ _ _ _).mono ?_; rw [hi2]; rintro e w' ⟨rfl, rfl⟩))
                    go_round
                    case rel => exact ⟨k + 1, by omega, by go_num, Lib.hid (fun i hi => by by_cases e : i = k; (· rw [e]; exact HI.out); (· exact Hl.out i (by omega)))⟩
                    case measure => simp [intOf]; omega
                · obtain rfl : k = xs.length := by omega
                  have HQ := Lib.hid (allC_good Hl.out)
                  go_wp2
                  go_ret
                  exact ⟨by rw [HO.out, HQ.out]; rfl, by (repeat (first | (with_reducible exact Below.refl _ _) | (with_reducible assumption) | (with_reducible refine below_plus' ?_ ?_; ((try simp only [plus_size, World.size_alloc, World.size_drew, World.size_setCell, size_setRow, World.heap_drewN, List.length_append]) <;> omega)) | (with_reducible refine below_alloc' ?_ ?_; ((try simp only [plus_size, World.size_alloc, World.size_drew, World.size_setCell, size_setRow, World.heap_drewN, List.length_append]) <;> omega)) | with_reducible refine Below.drew ?_ | (with_reducible refine below_drewN' ?_ _) | exact Below.refl _ _))⟩
        · have hC1 : (1000 : Int) < n + (xs.length : Int) - 1 := by omega
          have HO := Lib.hid (okL_C (low := n) hz hC)
          clear hrd h0 mm
          go_enter Try.func36, Try.ntmps36
          go_wp2_with (first | (go_at_call 41; refine (l01In_any _ _ _ _).mono ?_; rw [hin]; rintro e w' ⟨rfl, rfl⟩))
          go_ret
          exact ⟨by rw [HO.out]; first | rfl | simp, by (repeat (first | (with_reducible exact Below.refl _ _) | (with_reducible assumption) | (with_reducible refine below_plus' ?_ ?_; ((try simp only [plus_size, World.size_alloc, World.size_drew, World.size_setCell, size_setRow, World.heap_drewN, List.length_append]) <;> omega)) | (with_reducible refine below_alloc' ?_ ?_; ((try simp only [plus_size, World.size_alloc, World.size_drew, World.size_setCell, size_setRow, World.heap_drewN, List.length_append]) <;> omega)) | with_reducible refine Below.drew ?_ | (with_reducible refine below_drewN' ?_ _) | exact Below.refl _ _))⟩
    · have hA1 : (2001 : Int) < (xs.length : Int) := by omega
      have HO := Lib.hid (okL_A (low := n) hz hA)
      clear hrd h0 mm
      go_enter Try.func36, Try.ntmps36
      go_wp2_with (first | (go_at_call 41; refine (l01In_any _ _ _ _).mono ?_; rintro e w' ⟨rfl, rfl⟩))
      go_ret
      exact ⟨by rw [HO.out]; first | rfl | simp, by (repeat (first | (with_reducible exact Below.refl _ _) | (with_reducible assumption) | (with_reducible refine below_plus' ?_ ?_; ((try simp only [plus_size, World.size_alloc, World.size_drew, World.size_setCell, size_setRow, World.heap_drewN, List.length_append]) <;> omega)) | (with_reducible refine below_alloc' ?_ ?_; ((try simp only [plus_size, World.size_alloc, World.size_drew, World.size_setCell, size_setRow, World.heap_drewN, List.length_append]) <;> omega)) | with_reducible refine Below.drew ?_ | (with_reducible refine below_drewN' ?_ _) | exact Below.refl _ _))⟩
end Go.Proofs.Ytikakoclmmmjdaa
namespace Go.Proofs.Ytikakoclmmmjdaa
open Go.RowKit
set_option linter.unusedSimpArgs false
set_option linter.unusedVariables false
theorem impl_IsLaurent (n : Int) (v : Value) (xs : List Int) (w : World) (h : reads w v xs) (hlen : xs.length ≤ 1000000000) (hfit : Fits xs) : Calls Try.prog 62 #[.agg #[.int .i64 n, v]] w fun e w' => e = .returned (.bool (okL n xs)) ∧ Below w.heap.size w w' := impl_IsP n v xs w h hlen hfit
/-- the sum of the first k coefficients, with signs -/
def sumV (low s : Int) (xs : List Int) : Nat → Int
  | 0 => 0
  | k + 1 => sumV low s xs k + (if s < 0 ∧ ¬ (low + k).tmod 2 = 0 then -nth xs k else nth xs k)
theorem sumV_plus {low s : Int} {xs : List Int} {k : Nat} (h : ¬ s < 0 ∨ (low + k).tmod 2 = 0) : sumV low s xs k + nth xs k = sumV low s xs (k + 1) := by
  have : ¬ (s < 0 ∧ ¬ (low + k).tmod 2 = 0) := fun ⟨a, b⟩ => h.elim (fun h => h a) (fun h => b h)
  simp only [sumV, if_neg this]
theorem sumV_minus {low s : Int} {xs : List Int} {k : Nat} (h1 : s < 0) (h : ¬ (low + k).tmod 2 = 0) : sumV low s xs k + -nth xs k = sumV low s xs (k + 1) := by
  simp only [sumV, if_pos (And.intro h1 h)]
theorem sumV_le {low s : Int} {xs : List Int} (h : allC xs = true) : ∀ k : Nat, k ≤ xs.length → -1000000000000 * (k : Int) ≤ sumV low s xs k ∧ sumV low s xs k ≤ 1000000000000 * (k : Int)
  | 0, _ => by simp [sumV]
  | k + 1, hk => by
    have h1 := sumV_le (low := low) (s := s) h k (by omega)
    have h2 := allC_at h (i := k) (by omega)
    simp only [sumV]
    split <;> omega
def rVal (low : Int) (xs : List Int) (s : Int) : Value := .tuple #[.int .i64 (if okL low xs = true ∧ (s = 1 ∨ s = -1) then sumV low s xs xs.length else 0), .int .i64 (if okL low xs = true then (if s = 1 ∨ s = -1 then 0 else 2) else 1)]
theorem rVal_1 {low xs s} (h : okL low xs = false) : rVal low xs s = .tuple #[.int .i64 0, .int .i64 1] := by simp [rVal, h]
theorem rVal_2 {low xs s} (h : okL low xs = true) (h2 : ¬ s = 1) (h3 : ¬ s = -1) : rVal low xs s = .tuple #[.int .i64 0, .int .i64 2] := by simp [rVal, h, h2, h3]
theorem rVal_3 {low xs s} (h : okL low xs = true) (h2 : s = 1 ∨ s = -1) : rVal low xs s = .tuple #[.int .i64 (sumV low s xs xs.length), .int .i64 0] := by simp [rVal, h, h2]
end Go.Proofs.Ytikakoclmmmjdaa
namespace Go.Proofs.Ytikakoclmmmjdaa
open Go.RowKit
set_option linter.unusedSimpArgs false
set_option linter.unusedVariables false
/-- the first k coefficients are those from the end on; .. are their opposites -/
def samB (xs : List Int) : Nat → Bool
  | 0 => true
  | k + 1 => samB xs k && decide (nth xs k = nth xs (xs.length - 1 - k))
def othB (xs : List Int) : Nat → Bool
  | 0 => true
  | k + 1 => othB xs k && decide (nth xs k = -nth xs (xs.length - 1 - k))
def palV (xs : List Int) : Int := if samB xs xs.length = true then 1 else if othB xs xs.length = true then -1 else 0
def rPal (low : Int) (xs : List Int) : Value := .tuple #[.int .i64 (if okL low xs = true then palV xs else 0), .int .i64 (if okL low xs = true then 0 else 1)]
theorem rPal_no {low xs} (h : okL low xs = false) : rPal low xs = .tuple #[.int .i64 0, .int .i64 1] := by simp [rPal, h]
theorem rPal_yes {low xs} (h : okL low xs = true) : rPal low xs = .tuple #[.int .i64 (palV xs), .int .i64 0] := by simp [rPal, h]
end Go.Proofs.Ytikakoclmmmjdaa
namespace Go.Proofs.Ytikakoclmmmjdaa
open Go.RowKit
set_option linter.unusedSimpArgs false
set_option linter.unusedVariables false
end Go.Proofs.Ytikakoclmmmjdaa
