/- Words that all my texts share: a world with further blocks ('plus'), arrays of numbers ('arrF') and of truth values ('arrO'), whole arrays read and stored. Conditions: none; nothing here speaks of the program. -/
import Derived.WalkKit
import Derived.WalkSpells
import Derived.WalkLawsBesides
import Derived.Deep.WholeRow
import Derived.Deep.QuietTactic
import Derived.BigQuiet
import Derived.Lib.Hide
namespace Go.Proofs.YtfghanmcmjgonaaDoor
open Go.RowKit
set_option linter.unusedSimpArgs false
set_option linter.unusedVariables false

/-! ## The world with further blocks -/
def plus (w : World) (j : List Obj) (d : Nat) : World := { w with heap := w.heap ++ j.toArray, drawn := d }

theorem plus_size (w : World) (j : List Obj) (d : Nat) : (plus w j d).heap.size = w.heap.size + j.length := by simp [plus]
theorem plus_heap (w : World) (j : List Obj) (d b : Nat) (h : b < w.heap.size) : (plus w j d).heap[b]? = w.heap[b]? := by
  simp [plus, Array.getElem?_append, h]
theorem plus_cell (w : World) (j : List Obj) (d : Nat) (b o : Nat) (h : b < w.heap.size) : (plus w j d).cell? ⟨b, o, none⟩ = w.cell? ⟨b, o, none⟩ := by
  simp only [World.cell?, plus_heap w j d b h]
theorem plus_frozen (w : World) (j : List Obj) (d : Nat) (b o : Nat) (h : b < w.heap.size) : (plus w j d).frozen? ⟨b, o, none⟩ = w.frozen? ⟨b, o, none⟩ := by
  simp only [World.frozen?, plus_heap w j d b h]
theorem plus_setCell (w : World) (j : List Obj) (d : Nat) (b o : Nat) (v : Value) (h : b < w.heap.size) : (plus w j d).setCell ⟨b, o, none⟩ v = plus (w.setCell ⟨b, o, none⟩ v) j d := by
  unfold World.setCell plus
  congr 1
  apply Array.ext_getElem?
  intro k
  simp only [Array.getElem?_modify, Array.getElem?_append, Array.size_modify]
  by_cases hk : k < w.heap.size
  · simp [hk]
  · have : ¬ b = k := by omega
    simp [hk, this]
theorem plus_drew (w : World) (j : List Obj) (d : Nat) : (plus w j d).drew = plus w j (d + 1) := rfl
theorem plus_plus (w : World) (j j' : List Obj) (d d' : Nat) : plus (plus w j d) j' d' = plus w (j ++ j') d' := by
  simp [plus]
theorem plus_alloc (w : World) (j : List Obj) (d : Nat) (o : Obj) : (plus w j d).alloc o = plus w (j ++ [o]) d := by
  show ({ w with heap := (w.heap ++ j.toArray).push o, drawn := d } : World) = { w with heap := w.heap ++ (j ++ [o]).toArray, drawn := d }
  congr 1
  rw [← List.append_toArray, ← Array.append_assoc]
  rfl
theorem alloc_plus (w : World) (o : Obj) : w.alloc o = plus w [o] w.drawn := rfl
theorem below_plus {B : Nat} {a w : World} (h : Below B a w) (hB : B ≤ w.heap.size) (j : List Obj) (d : Nat) : Below B a (plus w j d) :=
  h.trans ⟨rfl, rfl, rfl, by simp [plus], fun k hk => plus_heap w j d k (by omega)⟩
theorem plus_of_below {w w' : World} (h : Below w.heap.size w w') : ∃ j d, w' = plus w j d := by
  refine ⟨(w'.heap.toList.drop w.heap.size), w'.drawn, ?_⟩
  obtain ⟨h1, h2, h3, h4, h5⟩ := h
  cases w'; cases w
  simp only [plus] at *
  subst h1 h2 h3
  congr 1
  apply Array.ext_getElem?
  intro k
  rw [Array.getElem?_append]
  split
  · exact h5 k (by assumption)
  · rename_i hk
    simp only [List.getElem?_toArray, List.getElem?_drop, Array.getElem?_toList]
    congr 1; omega

/-! ## An array of numbers -/
def arrF (k : IntKind) (n : Nat) (a : Nat → Int) : Array Value := ((List.range n).map fun i => Value.int k (a i)).toArray
def upd (a : Nat → Int) (i : Nat) (v : Int) : Nat → Int := fun j => if j = i then v else a j

theorem arrF_size (k n a) : (arrF k n a).size = n := by simp [arrF]
theorem arrF_get (k n a i) (h : i < n) : (arrF k n a)[i]? = some (.int k (a i)) := by simp [arrF, h]
theorem arrF_getElem (k n a i) (h : i < (arrF k n a).size) : (arrF k n a)[i] = .int k (a i) := by simp [arrF]
theorem arrF_set (k n a i v) : (arrF k n a).setIfInBounds i (.int k v) = arrF k n (upd a i v) := by
  apply Array.ext_getElem?
  intro j
  simp only [arrF, List.setIfInBounds_toArray, List.getElem?_toArray, List.getElem?_set, List.getElem?_map, List.length_map, List.length_range]
  by_cases hj : j < n
  · by_cases hij : i = j
    · subst hij; simp [hj, upd]
    · have hji : ¬ j = i := fun e => hij e.symm
      simp [hj, hij, upd, hji]
  · by_cases hij : i = j
    · subst hij; simp [hj]
    · simp [hj, hij]
theorem arrF_ext {k n a b} (h : ∀ i, i < n → a i = b i) : arrF k n a = arrF k n b := by
  unfold arrF
  congr 1
  apply List.map_congr_left
  intro i hi
  rw [h i (by simpa using hi)]
theorem arrF_one (k n a) : (arrF k n a).all (·.oneCell') = true := by
  rw [Array.all_eq_true_iff_forall_mem]
  intro v hv
  simp only [arrF, List.mem_toArray, List.mem_map, List.mem_range] at hv
  obtain ⟨i, _, rfl⟩ := hv
  rfl
def zeroF : Nat → Int := fun _ => 0

/-! ## An array of truth values -/
def arrO (n : Nat) (a : Nat → Bool) : Array Value := ((List.range n).map fun i => Value.bool (a i)).toArray
def updO (a : Nat → Bool) (i : Nat) (v : Bool) : Nat → Bool := fun j => if j = i then v else a j
theorem arrO_size (n a) : (arrO n a).size = n := by simp [arrO]
theorem arrO_get (n a i) (h : i < n) : (arrO n a)[i]? = some (.bool (a i)) := by simp [arrO, h]
theorem arrO_getElem (n a i) (h : i < (arrO n a).size) : (arrO n a)[i] = .bool (a i) := by simp [arrO]
theorem arrO_set (n a i v) : (arrO n a).setIfInBounds i (.bool v) = arrO n (updO a i v) := by
  apply Array.ext_getElem?
  intro j
  simp only [arrO, List.setIfInBounds_toArray, List.getElem?_toArray, List.getElem?_set, List.getElem?_map, List.length_map, List.length_range]
  by_cases hj : j < n
  · by_cases hij : i = j
    · subst hij; simp [hj, updO]
    · have hji : ¬ j = i := fun e => hij e.symm
      simp [hj, hij, updO, hji]
  · by_cases hij : i = j
    · subst hij; simp [hj]
    · simp [hj, hij]
theorem arrO_ext {n a b} (h : ∀ i, i < n → a i = b i) : arrO n a = arrO n b := by
  unfold arrO
  congr 1
  apply List.map_congr_left
  intro i hi
  rw [h i (by simpa using hi)]
theorem arrO_one (n a) : (arrO n a).all (·.oneCell') = true := by
  rw [Array.all_eq_true_iff_forall_mem]
  intro v hv
  simp only [arrO, List.mem_toArray, List.mem_map, List.mem_range] at hv
  obtain ⟨i, _, rfl⟩ := hv
  rfl
def noneO : Nat → Bool := fun _ => false
theorem arrO_none8 : (#[.bool false, .bool false, .bool false, .bool false, .bool false, .bool false, .bool false, .bool false] : Array Value) = arrO 8 noneO := by
  simp [arrO, noneO, List.range_succ]

/-! ## An array of natural numbers, read as whole numbers -/
def up (s : Nat → Nat) : Nat → Int := fun i => (s i : Int)
def updN (s : Nat → Nat) (i v : Nat) : Nat → Nat := fun j => if j = i then v else s j
theorem up_apply (s i) : up s i = (s i : Int) := rfl
theorem upd_up (s : Nat → Nat) (i v : Nat) : upd (up s) i (v : Int) = up (updN s i v) := by
  funext j
  simp only [upd, up, updN]
  split <;> rfl
theorem upd_up_zero (s : Nat → Nat) (i : Nat) : upd (up s) i 0 = up (updN s i 0) := upd_up s i 0
theorem updN_same (s i v) : updN s i v i = v := by simp [updN]
theorem updN_other (s i v j) (h : j ≠ i) : updN s i v j = s j := by simp [updN, h]
def zeroN : Nat → Nat := fun _ => 0
theorem zeroF_up : zeroF = up zeroN := rfl

/-! ## A block's cells, whole -/
theorem wpList_load_arr {P : Program} {ops : Array Oper} {rest : List Oper} {o : Oper} {a : Act} {w : World} {Q : Exit → Act → World → Prop} (hgd : o.guard = none) (ty : TypeId) (x : Operand) (ho : o.op = .load ty x)
    (b : Nat) (hx : a.eval x = .pointer (some ⟨b, 0, none⟩)) (n : Nat) (e : TypeId) (hu : P.underlying ty = some (.array n e)) (hi : (P.info? ty).map (·.size) = some n)
    (c : Array Value) (t : TypeId) (fr : Nat × Nat) (hb : w.heap[b]? = some (.cells c t fr)) (hc : c.size = n)
    (h : wpList P ops Q rest (a.put o.dst (.agg c)) w) : wpList P ops Q (o :: rest) a w :=
  wpList_load_row hgd ty x ho b hx t c fr _ hb hu rfl (by rw [hi, hc]) h

theorem wpList_store_arr {P : Program} {ops : Array Oper} {rest : List Oper} {o : Oper} {a : Act} {w : World} {Q : Exit → Act → World → Prop} (hgd : o.guard = none) (hdst : o.dst = none) (ty : TypeId) (x y : Operand) (ho : o.op = .store ty x y)
    (b : Nat) (hx : a.eval x = .pointer (some ⟨b, 0, none⟩)) (cells : Array Value) (hy : a.eval y = .agg cells) (n : Nat) (hi : (P.info? ty).map (·.size) = some n)
    (c : Array Value) (t : TypeId) (hb : w.heap[b]? = some (.cells c t (0, 0))) (hc : c.size = n) (hn : cells.size = n) (h1 : cells.all (·.oneCell') = true)
    (w' : World) (hw : w.setRow b cells = w')
    (h : wpList P ops Q rest a w') : wpList P ops Q (o :: rest) a w := by
  subst hw
  refine wpList_store_row hgd ty x y ho b cells hx hy t c hb (by rw [hi, hn]) (by rw [hc, hn]) h1 ?_
  rw [hdst]; exact h

theorem heap_at (w : World) (o : Obj) (b : Nat) (h : b = w.heap.size) : (w.alloc o).heap[b]? = some o := by subst h; exact heap_alloc_last w o
theorem heap_past (w : World) (o : Obj) (b : Nat) (h : b < w.heap.size) : (w.alloc o).heap[b]? = w.heap[b]? := Below.heap_alloc w o b h
theorem heap_past' {w : World} {o : Obj} {b : Nat} {x : Option Obj} (h : b < w.heap.size) (hx : w.heap[b]? = x) : (w.alloc o).heap[b]? = x := (heap_past w o b h).trans hx
theorem heap_plus' {w : World} {j : List Obj} {d b : Nat} {x : Option Obj} (h : b < w.heap.size) (hx : w.heap[b]? = x) : (plus w j d).heap[b]? = x := (plus_heap w j d b h).trans hx
theorem below_alloc' {B : Nat} {a w : World} {o : Obj} (hB : B ≤ w.heap.size) (h : Below B a w) : Below B a (w.alloc o) := h.alloc hB o
theorem below_plus' {B : Nat} {a w : World} {j : List Obj} {d : Nat} (hB : B ≤ w.heap.size) (h : Below B a w) : Below B a (plus w j d) := below_plus h hB j d
theorem setRow_at (w : World) (c c' : Array Value) (t : TypeId) (b : Nat) (h : b = w.heap.size) : (w.alloc (.cells c t)).setRow b c' = w.alloc (.cells c' t) := by subst h; exact World.setRow_alloc_new w c c' t
theorem setRow_past (w : World) (o : Obj) (b : Nat) (c' : Array Value) (h : b < w.heap.size) : (w.alloc o).setRow b c' = (w.setRow b c').alloc o := by
  show ({ (w.alloc o) with heap := _ } : World) = _
  unfold World.setRow
  show ({ w with heap := _ } : World) = { w with heap := _ }
  congr 1
  apply Array.ext_getElem?
  intro k
  show ((w.heap.push o).modify b _)[k]? = ((w.heap.modify b _).push o)[k]?
  simp only [Array.getElem?_modify, Array.getElem?_push, Array.size_modify]
  by_cases hk : k = w.heap.size
  · subst hk
    have : ¬ b = w.heap.size := by omega
    simp [this]
  · simp [hk]
theorem setRow_plus (w : World) (j : List Obj) (d b : Nat) (c' : Array Value) (h : b < w.heap.size) : (plus w j d).setRow b c' = plus (w.setRow b c') j d := by
  unfold World.setRow plus
  congr 1
  apply Array.ext_getElem?
  intro k
  simp only [Array.getElem?_modify, Array.getElem?_append, Array.size_modify]
  by_cases hk : k < w.heap.size
  · simp [hk]
  · have : ¬ b = k := by omega
    simp [hk, this]
/-- a result that lies in a cell: an array -/
theorem ret_arr {P : Program} {fn : Func} {R : Ending → World → Prop} {a : Act} {w : World} {ty : TypeId} {p : Tmp} (h : fn.results = #[.cell p ty])
    (n : Nat) (e : TypeId) (hu : P.underlying ty = some (.array n e)) (hi : (P.info? ty).map (·.size) = some n)
    (b : Nat) (c : Array Value) (t : TypeId) (fr : Nat × Nat) (hp : a.tmps.getD p undef = .pointer (some ⟨b, 0, none⟩)) (hg : w.heap[b]? = some (.cells c t fr)) (hc : c.size = n)
    (hd : a.defers = []) (hR : R (.returned (.agg c)) w) : bodyPost P fn R .ret a w :=
  bodyPost_ret (results_cell_row h _ _ b t c fr _ hp hg hu rfl (by rw [hi, hc])) hd hR

/-- two results, the first an array in a cell, the second in a slot -/
theorem ret_arr2 {P : Program} {fn : Func} {R : Ending → World → Prop} {a : Act} {w : World} {ty : TypeId} {p q : Tmp} (h : fn.results = #[.cell p ty, .tmp q])
    (n : Nat) (e : TypeId) (hu : P.underlying ty = some (.array n e)) (hi : (P.info? ty).map (·.size) = some n)
    (b : Nat) (c : Array Value) (t : TypeId) (fr : Nat × Nat) (hp : a.tmps.getD p undef = .pointer (some ⟨b, 0, none⟩)) (hg : w.heap[b]? = some (.cells c t fr)) (hc : c.size = n)
    (hd : a.defers = []) (hR : R (.returned (.tuple #[.agg c, a.tmps.getD q undef])) w) : bodyPost P fn R .ret a w := by
  have hp' : a.tmps[p]?.getD undef = .pointer (some ⟨b, 0, none⟩) := by simpa using hp
  refine bodyPost_ret ?_ hd hR
  simp [results, h, hp', asAddr, run_loadVar_row w b t ty c fr _ hg hu rfl (by rw [hi, hc])]

theorem plus_drewN (w : World) (j : List Obj) (d n : Nat) : (plus w j d).drewN n = plus w j (d + n) := rfl
theorem plus_nil (w : World) : plus w [] w.drawn = w := by simp [plus]
theorem setRow_at' {w : World} {c c' : Array Value} {t : TypeId} {b : Nat} (h : b = w.heap.size) : (w.alloc (.cells c t)).setRow b c' = w.alloc (.cells c' t) := setRow_at w c c' t b h
theorem setRow_past' {w w1 : World} {o : Obj} {b : Nat} {c' : Array Value} (h : b < w.heap.size) (h1 : w.setRow b c' = w1) : (w.alloc o).setRow b c' = w1.alloc o := by rw [setRow_past w o b c' h, h1]
theorem setRow_plus' {w w1 : World} {j : List Obj} {d b : Nat} {c' : Array Value} (h : b < w.heap.size) (h1 : w.setRow b c' = w1) : (plus w j d).setRow b c' = plus w1 j d := by rw [setRow_plus w j d b c' h, h1]
attribute [go_sem] plus_drewN setRow_at setRow_past setRow_plus plus_size plus_cell plus_frozen plus_setCell plus_drew arrF_size arrF_get arrF_getElem arrF_set
/-! the numbers of blocks: simp's own steps are too few for sums of many parts -/
@[go_sem] theorem lt_sum0 (a : Nat) : a < a + 1 := by omega
@[go_sem] theorem lt_sum1 (a x : Nat) : a < a + 1 + x := by omega
@[go_sem] theorem lt_sum2 (a x y : Nat) : a < a + 1 + x + y := by omega
@[go_sem] theorem lt_sum3 (a x y : Nat) : a < a + 1 + x + y + 1 := by omega
@[go_sem] theorem lt_sum4 (a x y : Nat) : a < a + 1 + x + y + 1 + 1 := by omega
@[go_sem] theorem lt_sum5 (a x : Nat) : a < a + 1 + x + 1 := by omega
@[go_sem] theorem lt_sum6 (a x y : Nat) : a < a + 1 + x + 1 + y := by omega
@[go_sem] theorem lt_sum7 (a x y : Nat) : a < a + 1 + x + 1 + y + 1 := by omega
@[go_sem] theorem lt_sum8 (a x y : Nat) : a < a + 1 + x + 1 + y + 1 + 1 := by omega
@[go_sem] theorem lt_sum9 (a x : Nat) : a < a + 1 + x + 1 + 1 := by omega
@[go_sem] theorem lt_sum10 (a x y : Nat) : a < a + 1 + x + 1 + 1 + y := by omega
@[go_sem] theorem lt_sum11 (a x y : Nat) : a < a + 1 + x + 1 + 1 + y + 1 := by omega
@[go_sem] theorem lt_sum12 (a x y : Nat) : a < a + 1 + x + 1 + 1 + y + 1 + 1 := by omega
@[go_sem] theorem lt_sum13 (a x : Nat) : a < a + 1 + x + 1 + 1 + 1 := by omega
@[go_sem] theorem lt_sum14 (a x y : Nat) : a < a + 1 + x + 1 + 1 + 1 + y := by omega
@[go_sem] theorem lt_sum15 (a x y : Nat) : a < a + 1 + x + 1 + 1 + 1 + y + 1 := by omega
@[go_sem] theorem lt_sum16 (a x y : Nat) : a < a + 1 + x + 1 + 1 + 1 + y + 1 + 1 := by omega
@[go_sem] theorem lt_sum17 (a : Nat) : a < a + 1 + 1 := by omega
@[go_sem] theorem lt_sum18 (a x : Nat) : a < a + 1 + 1 + x := by omega
@[go_sem] theorem lt_sum19 (a x y : Nat) : a < a + 1 + 1 + x + y := by omega
@[go_sem] theorem lt_sum20 (a x y : Nat) : a < a + 1 + 1 + x + y + 1 := by omega
@[go_sem] theorem lt_sum21 (a x y : Nat) : a < a + 1 + 1 + x + y + 1 + 1 := by omega
@[go_sem] theorem lt_sum22 (a x : Nat) : a < a + 1 + 1 + x + 1 := by omega
@[go_sem] theorem lt_sum23 (a x y : Nat) : a < a + 1 + 1 + x + 1 + y := by omega
@[go_sem] theorem lt_sum24 (a x y : Nat) : a < a + 1 + 1 + x + 1 + y + 1 := by omega
@[go_sem] theorem lt_sum25 (a x y : Nat) : a < a + 1 + 1 + x + 1 + y + 1 + 1 := by omega
@[go_sem] theorem lt_sum26 (a x : Nat) : a < a + 1 + 1 + x + 1 + 1 := by omega
@[go_sem] theorem lt_sum27 (a x y : Nat) : a < a + 1 + 1 + x + 1 + 1 + y := by omega
@[go_sem] theorem lt_sum28 (a x y : Nat) : a < a + 1 + 1 + x + 1 + 1 + y + 1 := by omega
@[go_sem] theorem lt_sum29 (a x y : Nat) : a < a + 1 + 1 + x + 1 + 1 + y + 1 + 1 := by omega
@[go_sem] theorem lt_more2 (a x0 x1 : Nat) : a < a + 1 + x0 + x1 := by omega
@[go_sem] theorem lt_more3 (a x0 x1 x2 : Nat) : a < a + 1 + x0 + x1 + x2 := by omega
@[go_sem] theorem lt_more4 (a x0 x1 x2 x3 : Nat) : a < a + 1 + x0 + x1 + x2 + x3 := by omega
@[go_sem] theorem lt_more5 (a x0 x1 x2 x3 x4 : Nat) : a < a + 1 + x0 + x1 + x2 + x3 + x4 := by omega
@[go_sem] theorem lt_more6 (a x0 x1 x2 x3 x4 x5 : Nat) : a < a + 1 + x0 + x1 + x2 + x3 + x4 + x5 := by omega
@[go_sem] theorem lt_more7 (a x0 x1 x2 x3 x4 x5 x6 : Nat) : a < a + 1 + x0 + x1 + x2 + x3 + x4 + x5 + x6 := by omega
@[go_sem] theorem lt_more8 (a x0 x1 x2 x3 x4 x5 x6 x7 : Nat) : a < a + 1 + x0 + x1 + x2 + x3 + x4 + x5 + x6 + x7 := by omega
@[go_sem] theorem lt_more9 (a x0 x1 x2 x3 x4 x5 x6 x7 x8 : Nat) : a < a + 1 + x0 + x1 + x2 + x3 + x4 + x5 + x6 + x7 + x8 := by omega
@[go_sem] theorem lt_more10 (a x0 x1 x2 x3 x4 x5 x6 x7 x8 x9 : Nat) : a < a + 1 + x0 + x1 + x2 + x3 + x4 + x5 + x6 + x7 + x8 + x9 := by omega
@[go_sem] theorem lt_more11 (a x0 x1 x2 x3 x4 x5 x6 x7 x8 x9 x10 : Nat) : a < a + 1 + x0 + x1 + x2 + x3 + x4 + x5 + x6 + x7 + x8 + x9 + x10 := by omega
@[go_sem] theorem lt_more12 (a x0 x1 x2 x3 x4 x5 x6 x7 x8 x9 x10 x11 : Nat) : a < a + 1 + x0 + x1 + x2 + x3 + x4 + x5 + x6 + x7 + x8 + x9 + x10 + x11 := by omega
@[go_sem] theorem lt_more13 (a x0 x1 x2 x3 x4 x5 x6 x7 x8 x9 x10 x11 x12 : Nat) : a < a + 1 + x0 + x1 + x2 + x3 + x4 + x5 + x6 + x7 + x8 + x9 + x10 + x11 + x12 := by omega
@[go_sem] theorem lt_more14 (a x0 x1 x2 x3 x4 x5 x6 x7 x8 x9 x10 x11 x12 x13 : Nat) : a < a + 1 + x0 + x1 + x2 + x3 + x4 + x5 + x6 + x7 + x8 + x9 + x10 + x11 + x12 + x13 := by omega
@[go_sem] theorem lt_more15 (a x0 x1 x2 x3 x4 x5 x6 x7 x8 x9 x10 x11 x12 x13 x14 : Nat) : a < a + 1 + x0 + x1 + x2 + x3 + x4 + x5 + x6 + x7 + x8 + x9 + x10 + x11 + x12 + x13 + x14 := by omega
@[go_sem] theorem lt_more16 (a x0 x1 x2 x3 x4 x5 x6 x7 x8 x9 x10 x11 x12 x13 x14 x15 : Nat) : a < a + 1 + x0 + x1 + x2 + x3 + x4 + x5 + x6 + x7 + x8 + x9 + x10 + x11 + x12 + x13 + x14 + x15 := by omega
@[go_sem] theorem lt_more17 (a x0 x1 x2 x3 x4 x5 x6 x7 x8 x9 x10 x11 x12 x13 x14 x15 x16 : Nat) : a < a + 1 + x0 + x1 + x2 + x3 + x4 + x5 + x6 + x7 + x8 + x9 + x10 + x11 + x12 + x13 + x14 + x15 + x16 := by omega
@[go_sem] theorem lt_more18 (a x0 x1 x2 x3 x4 x5 x6 x7 x8 x9 x10 x11 x12 x13 x14 x15 x16 x17 : Nat) : a < a + 1 + x0 + x1 + x2 + x3 + x4 + x5 + x6 + x7 + x8 + x9 + x10 + x11 + x12 + x13 + x14 + x15 + x16 + x17 := by omega
@[go_sem] theorem lt_sum30 (a x : Nat) : a < a + 1 + 1 + x + 1 + 1 + 1 := by omega
@[go_sem] theorem lt_sum31 (a x y : Nat) : a < a + 1 + 1 + x + 1 + 1 + 1 + y := by omega
@[go_sem] theorem lt_sum32 (a x y : Nat) : a < a + 1 + 1 + x + 1 + 1 + 1 + y + 1 := by omega
@[go_sem] theorem lt_sum33 (a x y : Nat) : a < a + 1 + 1 + x + 1 + 1 + 1 + y + 1 + 1 := by omega
@[go_sem] theorem lt_sum34 (a : Nat) : a < a + 1 + 1 + 1 := by omega
@[go_sem] theorem lt_sum35 (a x : Nat) : a < a + 1 + 1 + 1 + x := by omega
@[go_sem] theorem lt_sum36 (a x y : Nat) : a < a + 1 + 1 + 1 + x + y := by omega
@[go_sem] theorem lt_sum37 (a x y : Nat) : a < a + 1 + 1 + 1 + x + y + 1 := by omega
@[go_sem] theorem lt_sum38 (a x y : Nat) : a < a + 1 + 1 + 1 + x + y + 1 + 1 := by omega
@[go_sem] theorem lt_sum39 (a x : Nat) : a < a + 1 + 1 + 1 + x + 1 := by omega
@[go_sem] theorem lt_sum40 (a x y : Nat) : a < a + 1 + 1 + 1 + x + 1 + y := by omega
@[go_sem] theorem lt_sum41 (a x y : Nat) : a < a + 1 + 1 + 1 + x + 1 + y + 1 := by omega
@[go_sem] theorem lt_sum42 (a x y : Nat) : a < a + 1 + 1 + 1 + x + 1 + y + 1 + 1 := by omega
@[go_sem] theorem lt_sum43 (a x : Nat) : a < a + 1 + 1 + 1 + x + 1 + 1 := by omega
@[go_sem] theorem lt_sum44 (a x y : Nat) : a < a + 1 + 1 + 1 + x + 1 + 1 + y := by omega
@[go_sem] theorem lt_sum45 (a x y : Nat) : a < a + 1 + 1 + 1 + x + 1 + 1 + y + 1 := by omega
@[go_sem] theorem lt_sum46 (a x y : Nat) : a < a + 1 + 1 + 1 + x + 1 + 1 + y + 1 + 1 := by omega
@[go_sem] theorem lt_sum47 (a x : Nat) : a < a + 1 + 1 + 1 + x + 1 + 1 + 1 := by omega
@[go_sem] theorem lt_sum48 (a x y : Nat) : a < a + 1 + 1 + 1 + x + 1 + 1 + 1 + y := by omega
@[go_sem] theorem lt_sum49 (a x y : Nat) : a < a + 1 + 1 + 1 + x + 1 + 1 + 1 + y + 1 := by omega
@[go_sem] theorem lt_sum50 (a x y : Nat) : a < a + 1 + 1 + 1 + x + 1 + 1 + 1 + y + 1 + 1 := by omega
@[go_sem] theorem lt_sum51 (a : Nat) : a < a + 1 + 1 + 1 + 1 := by omega
@[go_sem] theorem lt_sum52 (a x : Nat) : a < a + 1 + 1 + 1 + 1 + x := by omega
@[go_sem] theorem lt_sum53 (a x y : Nat) : a < a + 1 + 1 + 1 + 1 + x + y := by omega
@[go_sem] theorem lt_sum54 (a x y : Nat) : a < a + 1 + 1 + 1 + 1 + x + y + 1 := by omega
@[go_sem] theorem lt_sum55 (a x y : Nat) : a < a + 1 + 1 + 1 + 1 + x + y + 1 + 1 := by omega
@[go_sem] theorem lt_sum56 (a x : Nat) : a < a + 1 + 1 + 1 + 1 + x + 1 := by omega
@[go_sem] theorem lt_sum57 (a x y : Nat) : a < a + 1 + 1 + 1 + 1 + x + 1 + y := by omega
@[go_sem] theorem lt_sum58 (a x y : Nat) : a < a + 1 + 1 + 1 + 1 + x + 1 + y + 1 := by omega
@[go_sem] theorem lt_sum59 (a x y : Nat) : a < a + 1 + 1 + 1 + 1 + x + 1 + y + 1 + 1 := by omega
@[go_sem] theorem lt_sum60 (a x : Nat) : a < a + 1 + 1 + 1 + 1 + x + 1 + 1 := by omega
@[go_sem] theorem lt_sum61 (a x y : Nat) : a < a + 1 + 1 + 1 + 1 + x + 1 + 1 + y := by omega
@[go_sem] theorem lt_sum62 (a x y : Nat) : a < a + 1 + 1 + 1 + 1 + x + 1 + 1 + y + 1 := by omega
@[go_sem] theorem lt_sum63 (a x y : Nat) : a < a + 1 + 1 + 1 + 1 + x + 1 + 1 + y + 1 + 1 := by omega
@[go_sem] theorem lt_sum64 (a x : Nat) : a < a + 1 + 1 + 1 + 1 + x + 1 + 1 + 1 := by omega
@[go_sem] theorem lt_sum65 (a x y : Nat) : a < a + 1 + 1 + 1 + 1 + x + 1 + 1 + 1 + y := by omega
@[go_sem] theorem lt_sum66 (a x y : Nat) : a < a + 1 + 1 + 1 + 1 + x + 1 + 1 + 1 + y + 1 := by omega
@[go_sem] theorem lt_sum67 (a x y : Nat) : a < a + 1 + 1 + 1 + 1 + x + 1 + 1 + 1 + y + 1 + 1 := by omega
@[go_sem] theorem lt_sum68 (a : Nat) : a < a + 1 + 1 + 1 + 1 + 1 := by omega
@[go_sem] theorem lt_sum69 (a x : Nat) : a < a + 1 + 1 + 1 + 1 + 1 + x := by omega
@[go_sem] theorem lt_sum70 (a x y : Nat) : a < a + 1 + 1 + 1 + 1 + 1 + x + y := by omega
@[go_sem] theorem lt_sum71 (a x y : Nat) : a < a + 1 + 1 + 1 + 1 + 1 + x + y + 1 := by omega
@[go_sem] theorem lt_sum72 (a x y : Nat) : a < a + 1 + 1 + 1 + 1 + 1 + x + y + 1 + 1 := by omega
@[go_sem] theorem lt_sum73 (a x : Nat) : a < a + 1 + 1 + 1 + 1 + 1 + x + 1 := by omega
@[go_sem] theorem lt_sum74 (a x y : Nat) : a < a + 1 + 1 + 1 + 1 + 1 + x + 1 + y := by omega
@[go_sem] theorem lt_sum75 (a x y : Nat) : a < a + 1 + 1 + 1 + 1 + 1 + x + 1 + y + 1 := by omega
@[go_sem] theorem lt_sum76 (a x y : Nat) : a < a + 1 + 1 + 1 + 1 + 1 + x + 1 + y + 1 + 1 := by omega
@[go_sem] theorem lt_sum77 (a x : Nat) : a < a + 1 + 1 + 1 + 1 + 1 + x + 1 + 1 := by omega
@[go_sem] theorem lt_sum78 (a x y : Nat) : a < a + 1 + 1 + 1 + 1 + 1 + x + 1 + 1 + y := by omega
@[go_sem] theorem lt_sum79 (a x y : Nat) : a < a + 1 + 1 + 1 + 1 + 1 + x + 1 + 1 + y + 1 := by omega
@[go_sem] theorem lt_sum80 (a x y : Nat) : a < a + 1 + 1 + 1 + 1 + 1 + x + 1 + 1 + y + 1 + 1 := by omega
@[go_sem] theorem lt_sum81 (a x : Nat) : a < a + 1 + 1 + 1 + 1 + 1 + x + 1 + 1 + 1 := by omega
@[go_sem] theorem lt_sum82 (a x y : Nat) : a < a + 1 + 1 + 1 + 1 + 1 + x + 1 + 1 + 1 + y := by omega
@[go_sem] theorem lt_sum83 (a x y : Nat) : a < a + 1 + 1 + 1 + 1 + 1 + x + 1 + 1 + 1 + y + 1 := by omega
@[go_sem] theorem lt_sum84 (a x y : Nat) : a < a + 1 + 1 + 1 + 1 + 1 + x + 1 + 1 + 1 + y + 1 + 1 := by omega
@[go_sem] theorem lt_sum85 (a : Nat) : a < a + 1 + 1 + 1 + 1 + 1 + 1 := by omega
@[go_sem] theorem lt_sum86 (a x : Nat) : a < a + 1 + 1 + 1 + 1 + 1 + 1 + x := by omega
@[go_sem] theorem lt_sum87 (a x y : Nat) : a < a + 1 + 1 + 1 + 1 + 1 + 1 + x + y := by omega
@[go_sem] theorem lt_sum88 (a x y : Nat) : a < a + 1 + 1 + 1 + 1 + 1 + 1 + x + y + 1 := by omega
@[go_sem] theorem lt_sum89 (a x y : Nat) : a < a + 1 + 1 + 1 + 1 + 1 + 1 + x + y + 1 + 1 := by omega
@[go_sem] theorem lt_sum90 (a x : Nat) : a < a + 1 + 1 + 1 + 1 + 1 + 1 + x + 1 := by omega
@[go_sem] theorem lt_sum91 (a x y : Nat) : a < a + 1 + 1 + 1 + 1 + 1 + 1 + x + 1 + y := by omega
@[go_sem] theorem lt_sum92 (a x y : Nat) : a < a + 1 + 1 + 1 + 1 + 1 + 1 + x + 1 + y + 1 := by omega
@[go_sem] theorem lt_sum93 (a x y : Nat) : a < a + 1 + 1 + 1 + 1 + 1 + 1 + x + 1 + y + 1 + 1 := by omega
@[go_sem] theorem lt_sum94 (a x : Nat) : a < a + 1 + 1 + 1 + 1 + 1 + 1 + x + 1 + 1 := by omega
@[go_sem] theorem lt_sum95 (a x y : Nat) : a < a + 1 + 1 + 1 + 1 + 1 + 1 + x + 1 + 1 + y := by omega
@[go_sem] theorem lt_sum96 (a x y : Nat) : a < a + 1 + 1 + 1 + 1 + 1 + 1 + x + 1 + 1 + y + 1 := by omega
@[go_sem] theorem lt_sum97 (a x y : Nat) : a < a + 1 + 1 + 1 + 1 + 1 + 1 + x + 1 + 1 + y + 1 + 1 := by omega
@[go_sem] theorem lt_sum98 (a x : Nat) : a < a + 1 + 1 + 1 + 1 + 1 + 1 + x + 1 + 1 + 1 := by omega
@[go_sem] theorem lt_sum99 (a x y : Nat) : a < a + 1 + 1 + 1 + 1 + 1 + 1 + x + 1 + 1 + 1 + y := by omega
@[go_sem] theorem lt_sum100 (a x y : Nat) : a < a + 1 + 1 + 1 + 1 + 1 + 1 + x + 1 + 1 + 1 + y + 1 := by omega
@[go_sem] theorem lt_sum101 (a x y : Nat) : a < a + 1 + 1 + 1 + 1 + 1 + 1 + x + 1 + 1 + 1 + y + 1 + 1 := by omega
@[go_sem] theorem lt_sum102 (a x y z : Nat) : a < a + 1 + x + y + z := by omega
@[go_sem] theorem lt_sum103 (a x y z : Nat) : a < a + 1 + x + y + z + 1 := by omega
@[go_sem] theorem lt_sum104 (a x y z : Nat) : a < a + 1 + x + y + 1 + z := by omega
@[go_sem] theorem lt_sum105 (a x y z : Nat) : a < a + 1 + x + y + 1 + z + 1 := by omega
@[go_sem] theorem lt_sum106 (a x y z : Nat) : a < a + 1 + x + y + 1 + 1 + z := by omega
@[go_sem] theorem lt_sum107 (a x y z : Nat) : a < a + 1 + x + y + 1 + 1 + z + 1 := by omega
@[go_sem] theorem lt_sum108 (a x y z : Nat) : a < a + 1 + x + 1 + y + z := by omega
@[go_sem] theorem lt_sum109 (a x y z : Nat) : a < a + 1 + x + 1 + y + z + 1 := by omega
@[go_sem] theorem lt_sum110 (a x y z : Nat) : a < a + 1 + x + 1 + y + 1 + z := by omega
@[go_sem] theorem lt_sum111 (a x y z : Nat) : a < a + 1 + x + 1 + y + 1 + z + 1 := by omega
@[go_sem] theorem lt_sum112 (a x y z : Nat) : a < a + 1 + x + 1 + y + 1 + 1 + z := by omega
@[go_sem] theorem lt_sum113 (a x y z : Nat) : a < a + 1 + x + 1 + y + 1 + 1 + z + 1 := by omega
@[go_sem] theorem lt_sum114 (a x y z : Nat) : a < a + 1 + x + 1 + 1 + y + z := by omega
@[go_sem] theorem lt_sum115 (a x y z : Nat) : a < a + 1 + x + 1 + 1 + y + z + 1 := by omega
@[go_sem] theorem lt_sum116 (a x y z : Nat) : a < a + 1 + x + 1 + 1 + y + 1 + z := by omega
@[go_sem] theorem lt_sum117 (a x y z : Nat) : a < a + 1 + x + 1 + 1 + y + 1 + z + 1 := by omega
@[go_sem] theorem lt_sum118 (a x y z : Nat) : a < a + 1 + x + 1 + 1 + y + 1 + 1 + z := by omega
@[go_sem] theorem lt_sum119 (a x y z : Nat) : a < a + 1 + x + 1 + 1 + y + 1 + 1 + z + 1 := by omega
@[go_sem] theorem lt_sum120 (a x y z : Nat) : a < a + 1 + 1 + x + y + z := by omega
@[go_sem] theorem lt_sum121 (a x y z : Nat) : a < a + 1 + 1 + x + y + z + 1 := by omega
@[go_sem] theorem lt_sum122 (a x y z : Nat) : a < a + 1 + 1 + x + y + 1 + z := by omega
@[go_sem] theorem lt_sum123 (a x y z : Nat) : a < a + 1 + 1 + x + y + 1 + z + 1 := by omega
@[go_sem] theorem lt_sum124 (a x y z : Nat) : a < a + 1 + 1 + x + y + 1 + 1 + z := by omega
@[go_sem] theorem lt_sum125 (a x y z : Nat) : a < a + 1 + 1 + x + y + 1 + 1 + z + 1 := by omega
@[go_sem] theorem lt_sum126 (a x y z : Nat) : a < a + 1 + 1 + x + 1 + y + z := by omega
@[go_sem] theorem lt_sum127 (a x y z : Nat) : a < a + 1 + 1 + x + 1 + y + z + 1 := by omega
@[go_sem] theorem lt_sum128 (a x y z : Nat) : a < a + 1 + 1 + x + 1 + y + 1 + z := by omega
@[go_sem] theorem lt_sum129 (a x y z : Nat) : a < a + 1 + 1 + x + 1 + y + 1 + z + 1 := by omega
@[go_sem] theorem lt_sum130 (a x y z : Nat) : a < a + 1 + 1 + x + 1 + y + 1 + 1 + z := by omega
@[go_sem] theorem lt_sum131 (a x y z : Nat) : a < a + 1 + 1 + x + 1 + y + 1 + 1 + z + 1 := by omega
@[go_sem] theorem lt_sum132 (a x y z : Nat) : a < a + 1 + 1 + x + 1 + 1 + y + z := by omega
@[go_sem] theorem lt_sum133 (a x y z : Nat) : a < a + 1 + 1 + x + 1 + 1 + y + z + 1 := by omega
@[go_sem] theorem lt_sum134 (a x y z : Nat) : a < a + 1 + 1 + x + 1 + 1 + y + 1 + z := by omega
@[go_sem] theorem lt_sum135 (a x y z : Nat) : a < a + 1 + 1 + x + 1 + 1 + y + 1 + z + 1 := by omega
@[go_sem] theorem lt_sum136 (a x y z : Nat) : a < a + 1 + 1 + x + 1 + 1 + y + 1 + 1 + z := by omega
@[go_sem] theorem lt_sum137 (a x y z : Nat) : a < a + 1 + 1 + x + 1 + 1 + y + 1 + 1 + z + 1 := by omega
@[go_sem] theorem lt_sum138 (a x y z : Nat) : a < a + 1 + 1 + 1 + x + y + z := by omega
@[go_sem] theorem lt_sum139 (a x y z : Nat) : a < a + 1 + 1 + 1 + x + y + z + 1 := by omega
@[go_sem] theorem lt_sum140 (a x y z : Nat) : a < a + 1 + 1 + 1 + x + y + 1 + z := by omega
@[go_sem] theorem lt_sum141 (a x y z : Nat) : a < a + 1 + 1 + 1 + x + y + 1 + z + 1 := by omega
@[go_sem] theorem lt_sum142 (a x y z : Nat) : a < a + 1 + 1 + 1 + x + y + 1 + 1 + z := by omega
@[go_sem] theorem lt_sum143 (a x y z : Nat) : a < a + 1 + 1 + 1 + x + y + 1 + 1 + z + 1 := by omega
@[go_sem] theorem lt_sum144 (a x y z : Nat) : a < a + 1 + 1 + 1 + x + 1 + y + z := by omega
@[go_sem] theorem lt_sum145 (a x y z : Nat) : a < a + 1 + 1 + 1 + x + 1 + y + z + 1 := by omega
@[go_sem] theorem lt_sum146 (a x y z : Nat) : a < a + 1 + 1 + 1 + x + 1 + y + 1 + z := by omega
@[go_sem] theorem lt_sum147 (a x y z : Nat) : a < a + 1 + 1 + 1 + x + 1 + y + 1 + z + 1 := by omega
@[go_sem] theorem lt_sum148 (a x y z : Nat) : a < a + 1 + 1 + 1 + x + 1 + y + 1 + 1 + z := by omega
@[go_sem] theorem lt_sum149 (a x y z : Nat) : a < a + 1 + 1 + 1 + x + 1 + y + 1 + 1 + z + 1 := by omega
@[go_sem] theorem lt_sum150 (a x y z : Nat) : a < a + 1 + 1 + 1 + x + 1 + 1 + y + z := by omega
@[go_sem] theorem lt_sum151 (a x y z : Nat) : a < a + 1 + 1 + 1 + x + 1 + 1 + y + z + 1 := by omega
@[go_sem] theorem lt_sum152 (a x y z : Nat) : a < a + 1 + 1 + 1 + x + 1 + 1 + y + 1 + z := by omega
@[go_sem] theorem lt_sum153 (a x y z : Nat) : a < a + 1 + 1 + 1 + x + 1 + 1 + y + 1 + z + 1 := by omega
@[go_sem] theorem lt_sum154 (a x y z : Nat) : a < a + 1 + 1 + 1 + x + 1 + 1 + y + 1 + 1 + z := by omega
@[go_sem] theorem lt_sum155 (a x y z : Nat) : a < a + 1 + 1 + 1 + x + 1 + 1 + y + 1 + 1 + z + 1 := by omega
attribute [go_sem] arrO_size arrO_get arrO_getElem arrO_set up_apply upd_up upd_up_zero
theorem arrF_zero8 (k : IntKind) : (#[.int k 0, .int k 0, .int k 0, .int k 0, .int k 0, .int k 0, .int k 0, .int k 0] : Array Value) = arrF k 8 zeroF := by
  simp [arrF, zeroF, List.range_succ]
@[go_sem] theorem arrF_zero8_u8 : (#[.int .u8 0, .int .u8 0, .int .u8 0, .int .u8 0, .int .u8 0, .int .u8 0, .int .u8 0, .int .u8 0] : Array Value) = arrF .u8 8 (up zeroN) := arrF_zero8 _
attribute [go_sem] arrO_none8
/-- a block that holds so many cells and may be written -/
def rowFree (w : World) (b m : Nat) : Bool := match w.heap[b]? with | some (.cells c _ (0, 0)) => c.size == m | _ => false
theorem rowFree_at {w : World} {c : Array Value} {t : TypeId} {b m : Nat} (h : b = w.heap.size) : rowFree (w.alloc (.cells c t)) b m = (c.size == m) := by
  simp only [rowFree, heap_at w _ b h]
theorem rowFree_past {w : World} {o : Obj} {b m : Nat} (h : b < w.heap.size) : rowFree (w.alloc o) b m = rowFree w b m := by
  simp only [rowFree, heap_past w o b h]
theorem rowFree_plus {w : World} {j : List Obj} {d b m : Nat} (h : b < w.heap.size) : rowFree (plus w j d) b m = rowFree w b m := by
  simp only [rowFree, plus_heap w j d b h]
theorem rowFree_drew (w : World) (b m : Nat) : rowFree w.drew b m = rowFree w b m := rfl
theorem storeCells_row {P : Program} {w : World} {b m : Nat} (cs : Array Value) (h : rowFree w b m = true) (hm : cs.size = m) (h1 : cs.all (·.oneCell') = true) :
    (storeCells ⟨b, 0, none⟩ cs.toList).run P w = .ok () (w.setRow b cs) := by
  unfold rowFree at h
  split at h
  · rename_i c t hb
    have := run_storeCells_from (P := P) b t cs.toList 0 c w hb (by simp at h ⊢; omega) (fun v hv => (Array.all_eq_true_iff_forall_mem.1 h1) v (by simpa using hv))
    simpa using this
  · cases h
theorem storeCells_arrF {P : Program} {w : World} {b m : Nat} {k : IntKind} {f : Nat → Int} (h : rowFree w b m = true) : (storeCells ⟨b, 0, none⟩ (arrF k m f).toList).run P w = .ok () (w.setRow b (arrF k m f)) :=
  storeCells_row _ h (arrF_size _ _ _) (arrF_one _ _ _)
theorem storeCells_arrO {P : Program} {w : World} {b m : Nat} {f : Nat → Bool} (h : rowFree w b m = true) : (storeCells ⟨b, 0, none⟩ (arrO m f).toList).run P w = .ok () (w.setRow b (arrO m f)) :=
  storeCells_row _ h (arrO_size _ _) (arrO_one _ _)
attribute [go_sem] rowFree_at rowFree_past rowFree_plus rowFree_drew storeCells_arrF storeCells_arrO
/-- eight cells that were read one by one -/
@[go_sem] theorem arr_fold8 (k : IntKind) (s : Nat → Nat) : (#[.int k (s 0 : Int), .int k (s 1 : Int), .int k (s 2 : Int), .int k (s 3 : Int), .int k (s 4 : Int), .int k (s 5 : Int), .int k (s 6 : Int), .int k (s 7 : Int)] : Array Value) = arrF k 8 (up s) := by
  simp [arrF, up, List.range_succ]
@[go_sem] theorem arrF_fold8 (k : IntKind) (f : Nat → Int) : (#[.int k (f 0), .int k (f 1), .int k (f 2), .int k (f 3), .int k (f 4), .int k (f 5), .int k (f 6), .int k (f 7)] : Array Value) = arrF k 8 f := by
  simp [arrF, List.range_succ]
end Go.Proofs.YtfghanmcmjgonaaDoor
