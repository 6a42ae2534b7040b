/- Slices of arrays of eight bytes: read as data; an argument that is a struct of two numbers and such a slice. Conditions: as each theorem says. -/
import Derived.Test.YtnbpkbkgbpfomaaI2
import Derived.Deep.Slices
import Derived.Deep.Strs
namespace Go.Proofs.Ytnbpkbkgbpfomaa
open Go.ChangeShapes Go.WideShapes Go.ChangeAt Go.RowKit
set_option linter.unusedVariables false
set_option linter.unusedSimpArgs false
/-- the slice v reads as n arrays s 0, s 1, .. -/
def readsA (w : World) (v : Value) (n : Nat) (s : Nat → Nat → Nat) : Prop :=
  ∃ a cap, v = .slice a n cap ∧ (n = 0 ∨ ∃ b o, a = some ⟨b, o, none⟩ ∧ ∀ i, i < n → ∀ k, k < 8 → w.cell? ⟨b, o + i * 8 + k, none⟩ = some (.int .u8 (s i k : Int)))
theorem readsA.kept {w w' : World} {v : Value} {n : Nat} {s : Nat → Nat → Nat} (h : readsA w v n s) (hb : Below w.heap.size w w') : readsA w' v n s := by
  obtain ⟨a, cap, hv, h⟩ := h
  refine ⟨a, cap, hv, ?_⟩
  rcases h with h | ⟨b, o, ha, hc⟩
  · exact .inl h
  · refine .inr ⟨b, o, ha, fun i hi k hk => ?_⟩
    have h1 := hc i hi k hk
    rw [hb.cell (p := ⟨b, o + i * 8 + k, none⟩) (World.block_lt_of_cell? w _ h1)]
    exact h1
section
variable {H : Type} {enc : TypeId × Value → H} {P : Program} {w : World} {base : Nat} {spare : Nat → Bool} {held : Bool}
/-- eight cells that read as an array of bytes -/
theorem open_cells8 {t e : TypeId} {fuel : Nat} {cs : List Value} {x : DataW H × List MemPlace} (ht : P.underlying t = some (.array 8 e)) (he : P.underlying e = some (.int .u8)) (hc : P.cellsOf e = 1) (hC : P.cellsOf t = 8)
    (hf : DataW.trod enc P w base spare held fuel t cs = some x) : ∃ s : Nat → Nat, ∀ k, k < 8 → cs[k]? = some (.int .u8 (s k : Int)) ∧ s k < 256 := by
  obtain ⟨xs, m, _, _, hsz, hl, hi⟩ := DataW.trod_array ht hf
  rw [hC] at hsz
  have key : ∀ i, i < 8 → ∃ n : Nat, cs[i]? = some (.int .u8 n) ∧ n < 256 := by
    intro i h8
    have h1 := hi i h8
    rw [hc, Nat.mul_one, List.getElem?_eq_getElem (by omega)] at h1
    obtain ⟨n, hn, _, hw⟩ := DataW.trod_int he h1
    have hb := bounds_u8 hw
    refine ⟨n.toNat, ?_, by omega⟩
    have h3 : ((cs.drop i).take 1)[0]? = some (.int .u8 n) := by rw [hn]; rfl
    rw [List.getElem?_take_of_lt (by omega), List.getElem?_drop] at h3
    rw [show ((n.toNat : Nat) : Int) = n by omega]
    simpa using h3
  refine ⟨fun i => if h : i < 8 then (key i h).choose else 0, fun i h8 => ?_⟩
  simp only [h8, dif_pos]
  exact (key i h8).choose_spec
theorem open_arrs {t e q : TypeId} {fuel : Nat} {cs : List Value} {x : DataW H × List MemPlace} (ht : P.underlying t = some (.slice e)) (he : P.underlying e = some (.array 8 q)) (hq : P.underlying q = some (.int .u8)) (hc : P.cellsOf q = 1) (hC : P.cellsOf e = 8)
    (hf : DataW.trod enc P w base spare held fuel t cs = some x) : ∃ v n s, cs = [v] ∧ readsA w v n s ∧ (∀ i, i < n → ∀ k, k < 8 → s i k < 256) ∧ n ≤ 9223372036854775807 := by
  rcases Go.Deep.open_slice ht hf with ⟨hcs, _⟩ | ⟨a, len, cap, m, n, D, Pl, hcs, _, hl, hm, hmm, _, hx⟩
  · exact ⟨_, 0, fun _ _ => 0, hcs, ⟨none, 0, rfl, .inl rfl⟩, fun i hi => by omega, by omega⟩
  · have hlm : len ≤ m := by rw [hmm]; split <;> omega
    have each : ∀ i, ∃ s : Nat → Nat, i < len → ∀ k, k < 8 → w.cell? ((a.add (i * 8)).add k) = some (.int .u8 (s k : Int)) ∧ s k < 256 := by
      intro i
      by_cases hi : i < len
      · obtain ⟨cs', h1, h2⟩ := hx i (by omega)
        rw [hC] at h1
        obtain ⟨_, hlen, hcell⟩ := World.cells?_some h1
        obtain ⟨s, hs⟩ := open_cells8 he hq hc hC h2
        exact ⟨s, fun _ k hk => ⟨by rw [hcell k hk]; exact (hs k hk).1, (hs k hk).2⟩⟩
      · exact ⟨fun _ => 0, fun h => absurd h hi⟩
    obtain ⟨S, hS⟩ : ∃ S : Nat → Nat → Nat, ∀ i, i < len → ∀ k, k < 8 → w.cell? ((a.add (i * 8)).add k) = some (.int .u8 (S i k : Int)) ∧ S i k < 256 := ⟨fun i => (each i).choose, fun i => (each i).choose_spec⟩
    clear each
    refine ⟨_, len, S, hcs, ⟨some a, cap, rfl, ?_⟩, fun i hi k hk => (hS i hi k hk).2, by unfold maxLen at hm; omega⟩
    by_cases h0 : len = 0
    · exact .inl h0
    · obtain ⟨b, off, spot⟩ := a
      have h8 := (hS 0 (by omega) 0 (by omega)).1
      have hspot : spot = none := by
        have := World.cell?_spot h8
        simpa [Addr.add] using this
      subst hspot
      refine .inr ⟨b, off, rfl, fun i hi k hk => ?_⟩
      have := (hS i hi k hk).1
      rw [Go.WideShapes.add_plain, Go.WideShapes.add_plain] at this
      exact this
/-- an argument that is a struct of two numbers and a slice of arrays -/
theorem open_nf {r : Reach} {b0 : Nat} {t e q : TypeId} {f0 f1 f2 : Field} {v : Value} {d : DataW H} {p : List MemPlace} (ht : P.underlying t = some (.struct #[f0, f1, f2])) (o0 : f0.offset = 0) (o1 : f1.offset = 1) (o2 : f2.offset = 2)
    (h0 : P.underlying f0.type = some (.int .i64)) (c0 : P.cellsOf f0.type = 1) (h1 : P.underlying f1.type = some (.int .i64)) (c1 : P.cellsOf f1.type = 1) (h2 : P.underlying f2.type = some (.slice e)) (c2 : P.cellsOf f2.type = 1)
    (he : P.underlying e = some (.array 8 q)) (hq : P.underlying q = some (.int .u8)) (hc : P.cellsOf q = 1) (hE : P.cellsOf e = 8) (hC : P.cellsOf t = 3)
    (hv : Value.okWide P w r b0 t v) (h : DataW.Trod enc P w base spare held t v d p) : ∃ n k v' m s, v = .agg #[.int .i64 n, .int .i64 k, v'] ∧ readsA w v' m s ∧ (∀ i, i < m → ∀ k, k < 8 → s i k < 256) ∧ m ≤ 9223372036854775807 := by
  obtain ⟨cs, rfl, hsz⟩ := okWide_struct ht hv
  obtain ⟨fuel, hf⟩ := h
  obtain ⟨y0, y1, y2, m, _, hl, e0, e1, e2⟩ := Go.Deep.trod_struct3 ht hf
  rw [o0, c0] at e0
  rw [o1, c1] at e1
  rw [o2, c2] at e2
  obtain ⟨n, hn, _, _⟩ := DataW.trod_int h0 e0
  obtain ⟨k, hk, _, _⟩ := DataW.trod_int h1 e1
  obtain ⟨v', len, s, hcs, r1, r2, r3⟩ := open_arrs h2 he hq hc hE e2
  refine ⟨n, k, v', len, s, ?_, r1, r2, r3⟩
  have hcl : (Value.agg cs).cells.toList = cs.toList := rfl
  rw [hcl] at hn hk hcs
  rw [hC] at hsz
  have hlen : cs.toList.length = 3 := by simpa using hsz
  congr 1
  match hl2 : cs.toList, hlen with
  | [u0, u1, u2], _ =>
    rw [hl2] at hn hk hcs
    simp at hn hk hcs
    apply Array.ext'
    rw [hl2, hn, hk, hcs]
end
/-- one array of a slice of arrays is read -/
theorem run_loadVar_sub {P : Program} (w : World) (b o : Nat) (ty e : TypeId) (s : Nat → Nat) (hu : P.underlying ty = some (.array 8 e)) (hi : (P.info? ty).map (·.size) = some 8)
    (hc : ∀ k, k < 8 → w.cell? ⟨b, o + k, none⟩ = some (.int .u8 (s k : Int))) : (loadVar ty ⟨b, o, none⟩).run P w = .ok (.agg (arrF .u8 8 (up s))) w := by
  have hl : (loadCells ⟨b, o, none⟩ (arrF .u8 8 (up s)).toList.length).run P w = .ok (arrF .u8 8 (up s)).toList.toArray w :=
    run_loadCells_list (P := P) w ⟨b, o, none⟩ (arrF .u8 8 (up s)).toList (fun j v hv => by
      have hj : j < 8 := by
        rcases Nat.lt_or_ge j 8 with h | h
        · exact h
        · rw [List.getElem?_eq_none (by rw [Array.length_toList, arrF_size]; exact h)] at hv; cases hv
      rw [Go.WideShapes.add_plain, hc j hj]
      rw [Array.getElem?_toList, arrF_get _ _ _ _ hj] at hv
      rw [← hv]; rfl)
  cases hq : P.info? ty with
  | none => simp [hq] at hi
  | some i =>
    have hs : i.size = 8 := by simpa [hq] using hi
    have hagg : (isAgg ty).run P w = .ok true w := by
      unfold isAgg
      rw [Sem.run_bind, run_underlying hu w]
      rfl
    simp only [Array.length_toList, Array.toArray_toList, arrF_size] at hl
    simp [loadVar, Sem.run_bind, hagg, sizeOf, typeInfo, hq, hs, hl]
theorem wpList_load_sub {P : Program} {ops : Array Oper} {rest : List Oper} {o : Oper} {a : Act} {w : World} {Q : Exit → Act → World → Prop} (hgd : o.guard = none) (ty e : TypeId) (x : Operand) (ho : o.op = .load ty x)
    (b off : Nat) (hx : a.eval x = .pointer (some ⟨b, off, none⟩)) (s : Nat → Nat) (hu : P.underlying ty = some (.array 8 e)) (hi : (P.info? ty).map (·.size) = some 8)
    (hc : ∀ k, k < 8 → w.cell? ⟨b, off + k, none⟩ = some (.int .u8 (s k : Int)))
    (h : wpList P ops Q rest (a.put o.dst (.agg (arrF .u8 8 (up s)))) w) : wpList P ops Q (o :: rest) a w :=
  wpList_plain hgd fun _ hK => by
    unfold Oper.wp execOp
    simp only [ho, hx, Instr.loadAt, Instr.sureAddr, Sem.run_bind, Sem.run_pure, Result.andThen_ok, run_loadVar_sub w b off ty e s hu hi hc]
    exact hK _ _ h
/-- an array is stored into a slice of arrays: the block's cells behind it -/
def putA (old : Array Value) (off : Nat) (cells : Array Value) : Array Value := (old.toList.take off ++ cells.toList ++ old.toList.drop (off + cells.size)).toArray
theorem putA_size {old cells : Array Value} {off : Nat} (h : off + cells.size ≤ old.size) : (putA old off cells).size = old.size := by
  simp [putA]; omega
theorem putA_get {old cells : Array Value} {off j : Nat} (h : off + cells.size ≤ old.size) : (putA old off cells)[j]? = if off ≤ j ∧ j < off + cells.size then cells[j - off]? else old[j]? := by
  simp only [putA, List.getElem?_toArray, List.getElem?_append, List.length_append, List.length_take, Array.length_toList, List.getElem?_take, Array.getElem?_toList, List.getElem?_drop]
  have e : min off old.size = off := by omega
  rw [e]
  by_cases h1 : j < off
  · have h2 : ¬ (off ≤ j ∧ j < off + cells.size) := by omega
    have h3 : j < off + cells.size := by omega
    have h4 : ¬ off ≤ j := by omega
    simp [h1, h4, h3]
  · by_cases h2 : j < off + cells.size
    · have h3 : off ≤ j ∧ j < off + cells.size := by omega
      simp [h1, h2, h3]
    · have h3 : ¬ (off ≤ j ∧ j < off + cells.size) := by omega
      simp only [h1, h2, h3, if_false]
      have e3 : off + cells.size + (j - (off + cells.size)) = j := by omega
      have e4 : off + cells.toList.length = off + cells.size := by simp
      simp [h1, h2, e3]
theorem run_storeVar_sub {P : Program} (w : World) (g off : Nat) (t ty : TypeId) (old cells : Array Value) (hg : w.heap[g]? = some (.cells old t (0, 0))) (hi : (P.info? ty).map (·.size) = some cells.size)
    (ho : off + cells.size ≤ old.size) (h1 : cells.all (·.oneCell') = true) : (storeVar ty ⟨g, off, none⟩ (.agg cells)).run P w = .ok () (w.setRow g (putA old off cells)) := by
  have := run_storeCells_at (P := P) g off t cells.toList 0 old w hg (by simpa using ho) (fun v hv => (Array.all_eq_true_iff_forall_mem.1 h1) v (by simpa using hv))
  simp only [Nat.add_zero, Array.length_toList] at this
  cases hq : P.info? ty with
  | none => simp [hq] at hi
  | some i =>
    have hs : cells.size = i.size := by simp [hq] at hi; omega
    simp [storeVar, sizeOf, typeInfo, hq, Value.cells, hs]
    exact this
theorem wpList_store_sub {P : Program} {ops : Array Oper} {rest : List Oper} {o : Oper} {a : Act} {w : World} {Q : Exit → Act → World → Prop} (hgd : o.guard = none) (hdst : o.dst = none) (ty : TypeId) (x y : Operand) (ho : o.op = .store ty x y)
    (g off : Nat) (hx : a.eval x = .pointer (some ⟨g, off, none⟩)) (cells : Array Value) (hy : a.eval y = .agg cells) (old : Array Value) (t : TypeId) (hg : w.heap[g]? = some (.cells old t (0, 0)))
    (hi : (P.info? ty).map (·.size) = some cells.size) (hs : off + cells.size ≤ old.size) (h1 : cells.all (·.oneCell') = true)
    (h : wpList P ops Q rest a (w.setRow g (putA old off cells))) : wpList P ops Q (o :: rest) a w :=
  wpList_plain hgd fun _ hK => by
    unfold Oper.wp execOp
    simp only [ho, hx, hy, Instr.storeAt, Instr.sureAddr, Sem.run_bind, Sem.run_pure, Result.andThen_ok, run_storeVar_sub w g off t ty old cells hg hi hs h1]
    refine hK _ _ ?_
    rw [hdst]; exact h
/-- a slice of arrays is made -/
theorem wpList_make_arrs {P : Program} (w : World) {ops : Array Oper} {rest : List Oper} {o : Oper} {a : Act} {Q : Exit → Act → World → Prop} (hg : o.guard = none) (l c : Operand) (t : TypeId) (hop : o.op = Op.makeSlice t l c)
    (e : TypeId) (h1 : P.underlying t = some (.slice e)) (z : Value) (hi : (P.info? e).map (fun i => (i.zero, i.size, i.bytes)) = some (some z, 8, 8)) (n : Nat) (hl : a.eval l = .int .i64 n) (hc : a.eval c = .int .i64 n) (hn : n ≤ 1000000000)
    (hK : ∀ w' cur, w'.heap[w.heap.size]? = some (.cells cur e (0, 0)) → cur.size = n * 8 → Below w.heap.size w w' → wpList P ops Q rest (a.put o.dst (.slice (some ⟨w.heap.size, 0, none⟩) n n)) w') : wpList P ops Q (o :: rest) a w := by
  obtain ⟨i, g1, g2, g3, g4⟩ : ∃ i, P.info? e = some i ∧ i.zero = some z ∧ i.size = 8 ∧ i.bytes = 8 := by
    cases hq : P.info? e with
    | none => simp [hq] at hi
    | some i => simp [hq] at hi; exact ⟨i, rfl, hi.1, hi.2.1, hi.2.2⟩
  refine wpList_make_full w hg l c t hop w.heap.size e i z 8 h1 g1 g2 g3 .i64 .i64 n n n hl hc rfl rfl (by rw [g4]; omega) (by unfold maxLen; omega) (Nat.le_refl _) fun w' r1 r2 => ?_
  rcases r1.2 with ⟨h, _⟩ | ⟨g, cap, cur, hv, hb, hh, _, _, hs, _⟩
  · cases h
  · simp only [Value.slice.injEq, Option.some.injEq, Addr.mk.injEq] at hv
    obtain ⟨⟨hg', _⟩, _, hcap⟩ := hv
    subst hcap
    rw [← hg'] at hh
    exact hK w' cur hh hs (below_of_grown r2 (Nat.le_refl _) fun k hk => by cases hk)
/-- a block of n arrays, of which the first k are s 0, .. -/
def ownP (e : TypeId) (w : World) (g n : Nat) (s : Nat → Nat → Nat) (k : Nat) : Prop :=
  ∃ cur, w.heap[g]? = some (.cells cur e (0, 0)) ∧ cur.size = n * 8 ∧ ∀ i, i < k → ∀ c, c < 8 → cur[i * 8 + c]? = some (.int .u8 (s i c : Int))
theorem ownP.lt {e : TypeId} {w : World} {g n k : Nat} {s : Nat → Nat → Nat} (h : ownP e w g n s k) : g < w.heap.size := by
  obtain ⟨cur, h1, _⟩ := h
  rcases Nat.lt_or_ge g w.heap.size with h | h
  · exact h
  · rw [Array.getElem?_eq_none h] at h1; cases h1
theorem ownP.same {e : TypeId} {w w' : World} {g n k : Nat} {s : Nat → Nat → Nat} (h : ownP e w g n s k) (hb : w'.heap[g]? = w.heap[g]?) : ownP e w' g n s k := by
  obtain ⟨cur, h1, h2⟩ := h
  exact ⟨cur, hb.trans h1, h2⟩
theorem ownP.kept {e : TypeId} {w w' : World} {g n k : Nat} {s : Nat → Nat → Nat} (h : ownP e w g n s k) (hb : Below w.heap.size w w') : ownP e w' g n s k :=
  h.same (hb.block g h.lt)
theorem ownP.zero {e : TypeId} {w : World} {g n : Nat} {s : Nat → Nat → Nat} {cur : Array Value} (h : w.heap[g]? = some (.cells cur e (0, 0))) (hs : cur.size = n * 8) : ownP e w g n s 0 :=
  ⟨cur, h, hs, fun i hi => by omega⟩
theorem ownP.put {e : TypeId} {w : World} {g n k : Nat} {s : Nat → Nat → Nat} {old : Array Value} (h : w.heap[g]? = some (.cells old e (0, 0))) (hs : old.size = n * 8) (hk : k < n) (ho : ∀ i, i < k → ∀ c, c < 8 → old[i * 8 + c]? = some (.int .u8 (s i c : Int))) :
    ownP e (w.setRow g (putA old (k * 8) (arrF .u8 8 (up (s k))))) g n s (k + 1) := by
  have hp : k * 8 + (arrF .u8 8 (up (s k))).size ≤ old.size := by rw [arrF_size]; omega
  refine ⟨_, setRow_heap w g old _ e (0, 0) h, by rw [putA_size hp, hs], fun i hi c hc => ?_⟩
  rw [putA_get hp, arrF_size]
  by_cases e1 : i = k
  · subst e1
    rw [if_pos (by omega), show i * 8 + c - i * 8 = c by omega, arrF_get _ _ _ _ hc]
    rfl
  · rw [if_neg (by omega)]
    exact ho i (by omega) c hc
theorem ownP.reads {e : TypeId} {w : World} {g n c : Nat} {s : Nat → Nat → Nat} (h : ownP e w g n s n) : readsA w (.slice (some ⟨g, 0, none⟩) n c) n s := by
  obtain ⟨cur, h1, h2, h3⟩ := h
  refine ⟨_, c, rfl, .inr ⟨g, 0, rfl, fun i hi k hk => ?_⟩⟩
  rw [Nat.zero_add]
  simp only [World.cell?, h1]
  exact h3 i hi k hk
theorem ownP_swap {e : TypeId} {X Y : World} {g n k d d' : Nat} {j : List Obj} {s : Nat → Nat → Nat} (hs : X.heap.size = Y.heap.size) (hB : X.heap.size ≤ g) (h : ownP e (plus X j d) g n s k) : ownP e (plus Y j d') g n s k := by
  refine h.same ?_
  show (Y.heap ++ j.toArray)[g]? = (X.heap ++ j.toArray)[g]?
  rw [Array.getElem?_append_right (by omega), Array.getElem?_append_right (by omega), hs]
/-- a normal form in memory of its own is handed back -/
def RetN (e : TypeId) (w : World) (n z : Int) (m : Nat) (s : Nat → Nat → Nat) : Ending → World → Prop := fun en w' => ∃ g, en = .returned (.agg #[.int .i64 n, .int .i64 z, .slice (some ⟨g, 0, none⟩) m m]) ∧ w.heap.size ≤ g ∧ ownP e w' g m s m ∧ Below w.heap.size w w'
theorem below_setRow (w : World) (B g : Nat) (c : Array Value) (h : B ≤ g) : Below B w (w.setRow g c) :=
  ⟨rfl, rfl, rfl, by simp, fun k hk => setRow_other w g k c (by omega)⟩
end Go.Proofs.Ytnbpkbkgbpfomaa
