/- Crossings by the reference. Conditions: as each theorem says. -/
import Derived.Test.YthapkppnlomclaaX3
import Derived.Test.YthapkppnlomclaaVf
namespace Go.Proofs.Ythapkppnlomclaa
open Go.RowKit
set_option linter.unusedSimpArgs false
set_option linter.unusedVariables false
theorem info39 : (Try.prog.info? 39).map (·.size) = some 64 := by kernel_rfl
@[go_sem] theorem arrF_zero64 (k : IntKind) : (#[.int k 0, .int k 0, .int k 0, .int k 0, .int k 0, .int k 0, .int k 0, .int k 0, .int k 0, .int k 0, .int k 0, .int k 0, .int k 0, .int k 0, .int k 0, .int k 0, .int k 0, .int k 0, .int k 0, .int k 0, .int k 0, .int k 0, .int k 0, .int k 0, .int k 0, .int k 0, .int k 0, .int k 0, .int k 0, .int k 0, .int k 0, .int k 0, .int k 0, .int k 0, .int k 0, .int k 0, .int k 0, .int k 0, .int k 0, .int k 0, .int k 0, .int k 0, .int k 0, .int k 0, .int k 0, .int k 0, .int k 0, .int k 0, .int k 0, .int k 0, .int k 0, .int k 0, .int k 0, .int k 0, .int k 0, .int k 0, .int k 0, .int k 0, .int k 0, .int k 0, .int k 0, .int k 0, .int k 0, .int k 0] : Array Value) = arrF k 64 zeroF := by rfl
theorem wpList_load_big {P : Program} {ops : Array Oper} {rest : List Oper} {o : Oper} {a : Act} {w : World} {Q : Exit → Act → World → Prop} (hgd : o.guard = none) (ty : TypeId) (x : Operand) (ho : o.op = .load ty x)
    (b : Nat) (hx : a.eval x = .pointer (some ⟨b, 0, none⟩)) (m n : Nat) (e : TypeId) (hu : P.underlying ty = some (.array m e)) (hi : (P.info? ty).map (·.size) = some n)
    (c : Array Value) (t : TypeId) (fr : Nat × Nat) (hb : w.heap[b]? = some (.cells c t fr)) (hc : c.size = n)
    (h : wpList P ops Q rest (a.put o.dst (.agg c)) w) : wpList P ops Q (o :: rest) a w :=
  wpList_load_row hgd ty x ho b hx t c fr _ hb hu rfl (by rw [hi, hc]) h
theorem ret_big {P : Program} {fn : Func} {R : Ending → World → Prop} {a : Act} {w : World} {ty : TypeId} {p : Tmp} (h : fn.results = #[.cell p ty])
    (m n : Nat) (e : TypeId) (hu : P.underlying ty = some (.array m e)) (hi : (P.info? ty).map (·.size) = some n)
    (b : Nat) (c : Array Value) (t : TypeId) (fr : Nat × Nat) (hp : a.tmps.getD p undef = .pointer (some ⟨b, 0, none⟩)) (hg : w.heap[b]? = some (.cells c t fr)) (hc : c.size = n)
    (hd : a.defers = []) (hR : R (.returned (.agg c)) w) : bodyPost P fn R .ret a w :=
  bodyPost_ret (results_cell_row h _ _ b t c fr _ hp hg hu rfl (by rw [hi, hc])) hd hR
/-- the cells of a function of two places -/
def flat8 (f : Nat → Nat → Int) : Nat → Int := fun k => f (k / 8) (k % 8)
theorem flat8_at {f : Nat → Nat → Int} {x y : Nat} (hy : y < 8) : flat8 f (x * 8 + y) = f x y := by
  unfold flat8
  rw [show (x * 8 + y) / 8 = x by omega, show (x * 8 + y) % 8 = y by omega]
theorem flat8_put {f : Nat → Nat → Int} {x y : Nat} {u : Int} (hy : y < 8) : upd (flat8 f) (x * 8 + y) u = flat8 (put2 f x y u) := by
  funext k
  unfold upd flat8 put2
  by_cases h : k = x * 8 + y
  · subst h
    rw [show (x * 8 + y) / 8 = x by omega, show (x * 8 + y) % 8 = y by omega]
    simp
  · have : ¬ (k / 8 = x ∧ k % 8 = y) := by omega
    simp [h, this]
theorem cellsF_at {w : World} {b n o : Nat} {T : TypeId} {k : IntKind} {F : Nat → Int} (h : w.heap[b]? = some (.cells (arrF k n F) T)) (ho : o < n) : w.cell? ⟨b, o, none⟩ = some (.int k (F o)) := by
  simp only [World.cell?, h]
  exact arrF_get k n F o ho
theorem cellsF_put {w : World} {b n o : Nat} {T : TypeId} {k : IntKind} {F : Nat → Int} {u : Int} (h : w.heap[b]? = some (.cells (arrF k n F) T)) : (w.setCell ⟨b, o, none⟩ (.int k u)).heap[b]? = some (.cells (arrF k n (upd F o u)) T) := by
  rw [heap_setCell_same w b o _ T _ h, arrF_set]
theorem below_set_plus {B g i : Nat} {u : Value} {w : World} {j : List Obj} {d : Nat} (hB : B ≤ g) (hw : B ≤ w.heap.size) : Below B w (plus (w.setCell ⟨g, i, none⟩ u) j d) :=
  below_of_grown (grown_set_plus w g i u j d) hw (fun k hk => by cases hk; exact hB)
set_option maxHeartbeats 4000000 in
theorem l01Crossings_any (m : Nat) (v : Value) (xs : List Int) (w : World) (h : reads w v xs) (h1 : 1 ≤ m) (h2 : m ≤ 8) (hlen : xs.length ≤ 200) (hlet : LetK m (absL xs) xs.length) : Calls Try.prog 15 #[.int .i64 m, v] w fun e w' => e = .returned (.agg (arrF .i64 64 (flat8 (crossF m xs xs.length)))) ∧ Below w.heap.size w w' := by
  obtain ⟨a, c, rfl, h⟩ := h
  have Hr := Lib.hid (show 0 < xs.length → ∃ b o, a = some ⟨b, o, none⟩ ∧ b < w.heap.size ∧ ∀ i, i < xs.length → w.cell? ⟨b, o + i, none⟩ = some (.int .i64 (nth xs i)) from fun hp => by
    rcases h with h | ⟨b, o, rfl, m⟩
    · rw [h] at hp; cases hp
    · exact ⟨b, o, rfl, World.block_lt_of_cell? w _ (m 0 hp), m⟩)
  clear h
  have Hlet := Lib.hid hlet
  clear hlet
  have HQ := Lib.hid (fun w' => l01Strands_any m (.slice none 0 0) [] w' ⟨none, 0, rfl, .inl rfl⟩ h1 h2 (by decide) (fun i hi => by cases hi))
  simp only [List.length_nil] at HQ
  rw [show seqK m (absL []) 0 = seqK m (absL xs) 0 from rfl] at HQ
  go_enter Try.func15, Try.ntmps15
  go_wp2_with (first | (go_at_call 26; refine Calls.mono (HQ.out _) ?_; rintro e w' ⟨rfl, hB⟩; obtain ⟨j0, d0, rfl⟩ := plus_of_below hB; clear hB)
                                        | ((with_reducible apply wpList_store_arr rfl rfl 48 _ _ rfl _ rfl _ rfl 8 info48); (repeat (first | (refine heap_at _ _ _ ?_; ((try simp only [plus_size, World.size_alloc, World.size_drew, World.size_setCell, size_setRow, World.heap_drewN, List.length_append]) <;> omega)) | (refine heap_past' ?_ ?_; ((try simp only [plus_size, World.size_alloc, World.size_drew, World.size_setCell, size_setRow, World.heap_drewN, List.length_append]) <;> omega)) | (refine heap_plus' ?_ ?_; ((try simp only [plus_size, World.size_alloc, World.size_drew, World.size_setCell, size_setRow, World.heap_drewN, List.length_append]) <;> omega)) | assumption)); (simp only [arrF_size, arrO_size]); (simp only [arrF_size, arrO_size]); (first | exact arrF_one _ _ _ | exact arrO_one _ _); (repeat (first | (refine setRow_at' ?_; ((try simp only [plus_size, World.size_alloc, World.size_drew, World.size_setCell, size_setRow, World.heap_drewN, List.length_append]) <;> omega)) | (apply setRow_past'; ((try simp only [plus_size, World.size_alloc, World.size_drew, World.size_setCell, size_setRow, World.heap_drewN, List.length_append]) <;> omega)) | (apply setRow_plus'; ((try simp only [plus_size, World.size_alloc, World.size_drew, World.size_setCell, size_setRow, World.heap_drewN, List.length_append]) <;> omega)) | exact rfl)))
                                        | ((with_reducible apply wpList_store_arr rfl rfl 39 _ _ rfl _ rfl _ rfl 64 info39); (repeat (first | (refine heap_at _ _ _ ?_; ((try simp only [plus_size, World.size_alloc, World.size_drew, World.size_setCell, size_setRow, World.heap_drewN, List.length_append]) <;> omega)) | (refine heap_past' ?_ ?_; ((try simp only [plus_size, World.size_alloc, World.size_drew, World.size_setCell, size_setRow, World.heap_drewN, List.length_append]) <;> omega)) | (refine heap_plus' ?_ ?_; ((try simp only [plus_size, World.size_alloc, World.size_drew, World.size_setCell, size_setRow, World.heap_drewN, List.length_append]) <;> omega)) | assumption)); (simp only [arrF_size, arrO_size]); (simp only [arrF_size, arrO_size]); (first | exact arrF_one _ _ _ | exact arrO_one _ _); (repeat (first | (refine setRow_at' ?_; ((try simp only [plus_size, World.size_alloc, World.size_drew, World.size_setCell, size_setRow, World.heap_drewN, List.length_append]) <;> omega)) | (apply setRow_past'; ((try simp only [plus_size, World.size_alloc, World.size_drew, World.size_setCell, size_setRow, World.heap_drewN, List.length_append]) <;> omega)) | (apply setRow_plus'; ((try simp only [plus_size, World.size_alloc, World.size_drew, World.size_setCell, size_setRow, World.heap_drewN, List.length_append]) <;> omega)) | exact rfl))))
  go_loopw [7] (fun sl wr => ∃ (k : Nat), k ≤ xs.length ∧ sl = .int .i64 k ∧ wr.heap[w.heap.size]? = some (.cells (arrF .i64 64 zeroF) 39) ∧ wr.heap[w.heap.size + 1 + j0.length]? = some (.cells (arrF .i64 64 (flat8 (crossF m xs k))) 39) ∧ wr.heap[w.heap.size + 1 + j0.length + 1]? = some (.cells (arrF .u8 8 (up (seqK m (absL xs) k))) 48) ∧ Below w.heap.size w wr) (fun sl _ => xs.length - (intOf sl).toNat)
  case atStart => exact ⟨0, by omega, rfl, by (repeat (first | (refine heap_at _ _ _ ?_; ((try simp only [plus_size, World.size_alloc, World.size_drew, World.size_setCell, size_setRow, World.heap_drewN, List.length_append]) <;> omega)) | (refine heap_past' ?_ ?_; ((try simp only [plus_size, World.size_alloc, World.size_drew, World.size_setCell, size_setRow, World.heap_drewN, List.length_append]) <;> omega)) | (refine heap_plus' ?_ ?_; ((try simp only [plus_size, World.size_alloc, World.size_drew, World.size_setCell, size_setRow, World.heap_drewN, List.length_append]) <;> omega)) | assumption)), by (repeat (first | (refine heap_at _ _ _ ?_; ((try simp only [plus_size, World.size_alloc, World.size_drew, World.size_setCell, size_setRow, World.heap_drewN, List.length_append]) <;> omega)) | (refine heap_past' ?_ ?_; ((try simp only [plus_size, World.size_alloc, World.size_drew, World.size_setCell, size_setRow, World.heap_drewN, List.length_append]) <;> omega)) | (refine heap_plus' ?_ ?_; ((try simp only [plus_size, World.size_alloc, World.size_drew, World.size_setCell, size_setRow, World.heap_drewN, List.length_append]) <;> omega)) | assumption)), by (repeat (first | (refine heap_at _ _ _ ?_; ((try simp only [plus_size, World.size_alloc, World.size_drew, World.size_setCell, size_setRow, World.heap_drewN, List.length_append]) <;> omega)) | (refine heap_past' ?_ ?_; ((try simp only [plus_size, World.size_alloc, World.size_drew, World.size_setCell, size_setRow, World.heap_drewN, List.length_append]) <;> omega)) | (refine heap_plus' ?_ ?_; ((try simp only [plus_size, World.size_alloc, World.size_drew, World.size_setCell, size_setRow, World.heap_drewN, List.length_append]) <;> omega)) | assumption)), by (repeat (first | (with_reducible exact Below.refl _ _) | (with_reducible assumption) | (with_reducible refine below_plus' ?_ ?_; ((try simp only [plus_size, World.size_alloc, World.size_drew, World.size_setCell, size_setRow, World.heap_drewN, List.length_append]) <;> omega)) | (with_reducible refine below_alloc' ?_ ?_; ((try simp only [plus_size, World.size_alloc, World.size_drew, World.size_setCell, size_setRow, World.heap_drewN, List.length_append]) <;> omega)) | with_reducible refine Below.drew ?_ | (with_reducible refine below_drewN' ?_ _) | exact Below.refl _ _))⟩
  case round =>
    obtain ⟨k, hk, rfl, h4, h5, h6, hbel⟩ := hrel
    by_cases hlt : k < xs.length
    · obtain ⟨bv, o, rfl, hbk, mm⟩ := Hr.out (by omega)
      have g0 := mm k hlt
      have g1 : wr.cell? ⟨bv, o + k, none⟩ = some (.int .i64 (nth xs k)) := by
        rw [hbel.cell (p := ⟨bv, o + k, none⟩) hbk]; exact g0
      obtain ⟨p, hp, hx, hs⟩ := letter_cases Hlet.out hlt
      have HS := Lib.hid (show swapK (seqK m (absL xs) k) (p + 1) = seqK m (absL xs) (k + 1) from (funext hs).symm)
      obtain ⟨z, hz⟩ : ∃ z, nth xs k = z := ⟨_, rfl⟩
      rw [hz] at g1 hx
      have HC := Lib.hid (crossF_succ (m := m) hz (show z.natAbs = p + 1 by omega))
      have hq1 := (seq_perm k (Hlet.out.le hk)).lt p (by omega)
      have hq2 := (seq_perm k (Hlet.out.le hk)).lt (p + 1) (by omega)
      have hbl := hbel.size
      have l4 := lt_of_block h4
      have l5 := lt_of_block h5
      have l6 := lt_of_block h6
      have hbvl : bv < wr.heap.size := by omega
      have hp8 : p < 8 := by omega
      have hp9 : p + 1 < 8 := by omega
      clear mm Hr hs g0 hz
      obtain ⟨sx, hsx⟩ : ∃ sx, seqK m (absL xs) k p = sx := ⟨_, rfl⟩
      obtain ⟨sy, hsy⟩ : ∃ sy, seqK m (absL xs) k (p + 1) = sy := ⟨_, rfl⟩
      have c1 := cellsF_at h6 (o := p) hp8
      have c2 := cellsF_at h6 (o := p + 1) hp9
      simp only [up, hsx, hsy] at c1 c2
      rw [hsx] at hq1
      rw [hsy] at hq2
      have hx8 : sx < 8 := by omega
      have hy8 : sy < 8 := by omega
      rcases hx with rfl | rfl
      · go_upto_region 9 with (fail)
        go_wp2_with fail
        refine region_plus (by kernel_rfl) (by kernel_rfl) ?_
        repeat (go_big_quiet_step (first | fail))
        refine wpQuiet_nil ?_
        intro _ hw'
        obtain ⟨q, hw''⟩ := hw'
        subst hw''
        rw [plusq_eq]
        generalize q.j = j
        generalize q.d = d
        clear q
        go_wp2_with fail
        replace h4 := kept_of h4 (show Below wr.heap.size wr (plus wr j d) by (repeat (first | (with_reducible exact Below.refl _ _) | (with_reducible assumption) | (with_reducible refine below_plus' ?_ ?_; ((try simp only [plus_size, World.size_alloc, World.size_drew, World.size_setCell, size_setRow, World.heap_drewN, List.length_append]) <;> omega)) | (with_reducible refine below_alloc' ?_ ?_; ((try simp only [plus_size, World.size_alloc, World.size_drew, World.size_setCell, size_setRow, World.heap_drewN, List.length_append]) <;> omega)) | with_reducible refine Below.drew ?_ | (with_reducible refine below_drewN' ?_ _) | exact Below.refl _ _)))
        replace h5 := kept_of h5 (show Below wr.heap.size wr (plus wr j d) by (repeat (first | (with_reducible exact Below.refl _ _) | (with_reducible assumption) | (with_reducible refine below_plus' ?_ ?_; ((try simp only [plus_size, World.size_alloc, World.size_drew, World.size_setCell, size_setRow, World.heap_drewN, List.length_append]) <;> omega)) | (with_reducible refine below_alloc' ?_ ?_; ((try simp only [plus_size, World.size_alloc, World.size_drew, World.size_setCell, size_setRow, World.heap_drewN, List.length_append]) <;> omega)) | with_reducible refine Below.drew ?_ | (with_reducible refine below_drewN' ?_ _) | exact Below.refl _ _)))
        replace h6 := kept_of h6 (show Below wr.heap.size wr (plus wr j d) by (repeat (first | (with_reducible exact Below.refl _ _) | (with_reducible assumption) | (with_reducible refine below_plus' ?_ ?_; ((try simp only [plus_size, World.size_alloc, World.size_drew, World.size_setCell, size_setRow, World.heap_drewN, List.length_append]) <;> omega)) | (with_reducible refine below_alloc' ?_ ?_; ((try simp only [plus_size, World.size_alloc, World.size_drew, World.size_setCell, size_setRow, World.heap_drewN, List.length_append]) <;> omega)) | with_reducible refine Below.drew ?_ | (with_reducible refine below_drewN' ?_ _) | exact Below.refl _ _)))
        replace hbel : Below w.heap.size w (plus wr j d) := (by (repeat (first | (with_reducible exact Below.refl _ _) | (with_reducible assumption) | (with_reducible refine below_plus' ?_ ?_; ((try simp only [plus_size, World.size_alloc, World.size_drew, World.size_setCell, size_setRow, World.heap_drewN, List.length_append]) <;> omega)) | (with_reducible refine below_alloc' ?_ ?_; ((try simp only [plus_size, World.size_alloc, World.size_drew, World.size_setCell, size_setRow, World.heap_drewN, List.length_append]) <;> omega)) | with_reducible refine Below.drew ?_ | (with_reducible refine below_drewN' ?_ _) | exact Below.refl _ _)))
        obtain ⟨w1, hw⟩ : ∃ w1, plus wr j d = w1 := ⟨_, rfl⟩
        rw [hw] at h4 h5 h6 hbel ⊢
        clear hw
        replace l4 := lt_of_block h4
        replace l5 := lt_of_block h5
        replace l6 := lt_of_block h6
        replace hbl := hbel.size
        have c5 := cellsF_at h5 (o := sx * 8 + sy) (by omega)
        rw [flat8_at hy8] at c5
        have f5 := frozen_of_row w1 (w.heap.size + 1 + j0.length) (sx * 8 + sy) _ 39 h5
        go_wp2_with fail
        refine region_plus_tail 11 (by kernel_rfl) (by kernel_rfl) ?_
        simp only [List.take_succ_cons, List.take_zero, List.drop_succ_cons, List.drop_zero]
        repeat (go_big_quiet_step (first | fail))
        refine wpQuiet_nil ?_
        intro _ hw'
        obtain ⟨q, hw''⟩ := hw'
        subst hw''
        rw [plusq_eq]
        generalize q.j = j
        generalize q.d = d
        clear q
        go_wp2_with fail
        replace h4 := kept_of ((heap_setCell_other w1 ⟨(w.heap.size + 1 + j0.length), sx * 8 + sy, none⟩ w.heap.size (.int .i64 (wrap64 (crossF m xs k sx sy + 1))) (show w.heap.size ≠ (w.heap.size + 1 + j0.length) by omega)).trans h4) (below_plus (Below.refl _ _) (Nat.le_refl _) j d)
        replace h6 := kept_of ((heap_setCell_other w1 ⟨(w.heap.size + 1 + j0.length), sx * 8 + sy, none⟩ (w.heap.size + 1 + j0.length + 1) (.int .i64 (wrap64 (crossF m xs k sx sy + 1))) (show (w.heap.size + 1 + j0.length + 1) ≠ (w.heap.size + 1 + j0.length) by omega)).trans h6) (below_plus (Below.refl _ _) (Nat.le_refl _) j d)
        replace h5 := kept_of (cellsF_put (u := wrap64 (crossF m xs k sx sy + 1)) (o := sx * 8 + sy) h5) (below_plus (Below.refl _ _) (Nat.le_refl _) j d)
        rw [flat8_put hy8] at h5
        replace hbel := hbel.trans (below_set_plus (by omega) (by omega) : Below w.heap.size w1 (plus (w1.setCell ⟨(w.heap.size + 1 + j0.length), sx * 8 + sy, none⟩ (.int .i64 (wrap64 (crossF m xs k sx sy + 1)))) j d))
        clear c5 f5
        obtain ⟨w2, hw⟩ : ∃ w2, (plus (w1.setCell ⟨(w.heap.size + 1 + j0.length), sx * 8 + sy, none⟩ (.int .i64 (wrap64 (crossF m xs k sx sy + 1)))) j d) = w2 := ⟨_, rfl⟩
        rw [hw] at h4 h5 h6 hbel ⊢
        clear hw
        replace l4 := lt_of_block h4
        replace l5 := lt_of_block h5
        replace l6 := lt_of_block h6
        replace hbl := hbel.size
        obtain ⟨f1, hf1⟩ : ∃ f1, add2 (crossF m xs k) sx sy 1 = f1 := ⟨_, rfl⟩
        rw [show put2 (crossF m xs k) sx sy (wrap64 (crossF m xs k sx sy + 1)) = f1 from hf1] at h5
        have c5 := cellsF_at h5 (o := sy * 8 + sx) (by omega)
        rw [flat8_at hx8] at c5
        have f5 := frozen_of_row w2 (w.heap.size + 1 + j0.length) (sy * 8 + sx) _ 39 h5
        go_wp2_with fail
        refine region_plus_tail 11 (by kernel_rfl) (by kernel_rfl) ?_
        simp only [List.take_succ_cons, List.take_zero, List.drop_succ_cons, List.drop_zero]
        repeat (go_big_quiet_step (first | fail))
        refine wpQuiet_nil ?_
        intro _ hw'
        obtain ⟨q, hw''⟩ := hw'
        subst hw''
        rw [plusq_eq]
        generalize q.j = j
        generalize q.d = d
        clear q
        go_upto_region 12 with (fail)
        replace h4 := kept_of ((heap_setCell_other w2 ⟨(w.heap.size + 1 + j0.length), sy * 8 + sx, none⟩ w.heap.size (.int .i64 (wrap64 (f1 sy sx + 1))) (show w.heap.size ≠ (w.heap.size + 1 + j0.length) by omega)).trans h4) (below_plus (Below.refl _ _) (Nat.le_refl _) j d)
        replace h6 := kept_of ((heap_setCell_other w2 ⟨(w.heap.size + 1 + j0.length), sy * 8 + sx, none⟩ (w.heap.size + 1 + j0.length + 1) (.int .i64 (wrap64 (f1 sy sx + 1))) (show (w.heap.size + 1 + j0.length + 1) ≠ (w.heap.size + 1 + j0.length) by omega)).trans h6) (below_plus (Below.refl _ _) (Nat.le_refl _) j d)
        replace h5 := kept_of (cellsF_put (u := wrap64 (f1 sy sx + 1)) (o := sy * 8 + sx) h5) (below_plus (Below.refl _ _) (Nat.le_refl _) j d)
        rw [flat8_put hx8] at h5
        replace hbel := hbel.trans (below_set_plus (by omega) (by omega) : Below w.heap.size w2 (plus (w2.setCell ⟨(w.heap.size + 1 + j0.length), sy * 8 + sx, none⟩ (.int .i64 (wrap64 (f1 sy sx + 1)))) j d))
        clear c5 f5
        obtain ⟨w3, hw⟩ : ∃ w3, (plus (w2.setCell ⟨(w.heap.size + 1 + j0.length), sy * 8 + sx, none⟩ (.int .i64 (wrap64 (f1 sy sx + 1)))) j d) = w3 := ⟨_, rfl⟩
        rw [hw] at h4 h5 h6 hbel ⊢
        clear hw
        replace l4 := lt_of_block h4
        replace l5 := lt_of_block h5
        replace l6 := lt_of_block h6
        replace hbl := hbel.size
        have f6 := fun o => frozen_of_row w3 (w.heap.size + 1 + j0.length + 1) o _ 48 h6
        have f7 := f6 p
        have f8 := f6 (p + 1)
        have d1 := cellsF_at h6 (o := p) hp8
        have d2 := cellsF_at h6 (o := p + 1) hp9
        simp only [up, hsx, hsy] at d1 d2
        clear f6
        go_wp2
        go_roundw
        case rel =>
          refine ⟨k + 1, by omega, by go_num, ?_, ?_, ?_, ?_⟩
          · rw [heap_setCell_other _ _ _ _ (show w.heap.size ≠ (w.heap.size + 1 + j0.length + 1) by omega), heap_setCell_other _ _ _ _ (show w.heap.size ≠ (w.heap.size + 1 + j0.length + 1) by omega)]; exact h4
          · rw [heap_setCell_other _ _ _ _ (show (w.heap.size + 1 + j0.length) ≠ (w.heap.size + 1 + j0.length + 1) by omega), heap_setCell_other _ _ _ _ (show (w.heap.size + 1 + j0.length) ≠ (w.heap.size + 1 + j0.length + 1) by omega), HC.out, hsx, hsy, cross2]; rw [show sgn _ = (1 : Int) from by simp [sgn]; try omega, hf1]; exact h5
          · have e := cellsF_put (u := ((sx : Nat) : Int)) (o := p + 1) (cellsF_put (u := ((sy : Nat) : Int)) (o := p) h6)
            rw [← HS.out, ← swap_steps2, hsx, hsy, ← upd_up, ← upd_up]
            exact e
          · exact hbel.trans ⟨rfl, rfl, rfl, by simp, fun i hi => (heap_setCell_other _ _ _ _ (show i ≠ (w.heap.size + 1 + j0.length + 1) by omega)).trans (heap_setCell_other _ _ _ _ (show i ≠ (w.heap.size + 1 + j0.length + 1) by omega))⟩
        case measure => simp [intOf]; omega
      · go_upto_region 9 with (fail)
        go_wp2_with fail
        refine region_plus (by kernel_rfl) (by kernel_rfl) ?_
        repeat (go_big_quiet_step (first | fail))
        refine wpQuiet_nil ?_
        intro _ hw'
        obtain ⟨q, hw''⟩ := hw'
        subst hw''
        rw [plusq_eq]
        generalize q.j = j
        generalize q.d = d
        clear q
        go_wp2_with fail
        replace h4 := kept_of h4 (show Below wr.heap.size wr (plus wr j d) by (repeat (first | (with_reducible exact Below.refl _ _) | (with_reducible assumption) | (with_reducible refine below_plus' ?_ ?_; ((try simp only [plus_size, World.size_alloc, World.size_drew, World.size_setCell, size_setRow, World.heap_drewN, List.length_append]) <;> omega)) | (with_reducible refine below_alloc' ?_ ?_; ((try simp only [plus_size, World.size_alloc, World.size_drew, World.size_setCell, size_setRow, World.heap_drewN, List.length_append]) <;> omega)) | with_reducible refine Below.drew ?_ | (with_reducible refine below_drewN' ?_ _) | exact Below.refl _ _)))
        replace h5 := kept_of h5 (show Below wr.heap.size wr (plus wr j d) by (repeat (first | (with_reducible exact Below.refl _ _) | (with_reducible assumption) | (with_reducible refine below_plus' ?_ ?_; ((try simp only [plus_size, World.size_alloc, World.size_drew, World.size_setCell, size_setRow, World.heap_drewN, List.length_append]) <;> omega)) | (with_reducible refine below_alloc' ?_ ?_; ((try simp only [plus_size, World.size_alloc, World.size_drew, World.size_setCell, size_setRow, World.heap_drewN, List.length_append]) <;> omega)) | with_reducible refine Below.drew ?_ | (with_reducible refine below_drewN' ?_ _) | exact Below.refl _ _)))
        replace h6 := kept_of h6 (show Below wr.heap.size wr (plus wr j d) by (repeat (first | (with_reducible exact Below.refl _ _) | (with_reducible assumption) | (with_reducible refine below_plus' ?_ ?_; ((try simp only [plus_size, World.size_alloc, World.size_drew, World.size_setCell, size_setRow, World.heap_drewN, List.length_append]) <;> omega)) | (with_reducible refine below_alloc' ?_ ?_; ((try simp only [plus_size, World.size_alloc, World.size_drew, World.size_setCell, size_setRow, World.heap_drewN, List.length_append]) <;> omega)) | with_reducible refine Below.drew ?_ | (with_reducible refine below_drewN' ?_ _) | exact Below.refl _ _)))
        replace hbel : Below w.heap.size w (plus wr j d) := (by (repeat (first | (with_reducible exact Below.refl _ _) | (with_reducible assumption) | (with_reducible refine below_plus' ?_ ?_; ((try simp only [plus_size, World.size_alloc, World.size_drew, World.size_setCell, size_setRow, World.heap_drewN, List.length_append]) <;> omega)) | (with_reducible refine below_alloc' ?_ ?_; ((try simp only [plus_size, World.size_alloc, World.size_drew, World.size_setCell, size_setRow, World.heap_drewN, List.length_append]) <;> omega)) | with_reducible refine Below.drew ?_ | (with_reducible refine below_drewN' ?_ _) | exact Below.refl _ _)))
        obtain ⟨w1, hw⟩ : ∃ w1, plus wr j d = w1 := ⟨_, rfl⟩
        rw [hw] at h4 h5 h6 hbel ⊢
        clear hw
        replace l4 := lt_of_block h4
        replace l5 := lt_of_block h5
        replace l6 := lt_of_block h6
        replace hbl := hbel.size
        have c5 := cellsF_at h5 (o := sx * 8 + sy) (by omega)
        rw [flat8_at hy8] at c5
        have f5 := frozen_of_row w1 (w.heap.size + 1 + j0.length) (sx * 8 + sy) _ 39 h5
        go_wp2_with fail
        refine region_plus_tail 11 (by kernel_rfl) (by kernel_rfl) ?_
        simp only [List.take_succ_cons, List.take_zero, List.drop_succ_cons, List.drop_zero]
        repeat (go_big_quiet_step (first | fail))
        refine wpQuiet_nil ?_
        intro _ hw'
        obtain ⟨q, hw''⟩ := hw'
        subst hw''
        rw [plusq_eq]
        generalize q.j = j
        generalize q.d = d
        clear q
        go_wp2_with fail
        replace h4 := kept_of ((heap_setCell_other w1 ⟨(w.heap.size + 1 + j0.length), sx * 8 + sy, none⟩ w.heap.size (.int .i64 (wrap64 (crossF m xs k sx sy + (-1)))) (show w.heap.size ≠ (w.heap.size + 1 + j0.length) by omega)).trans h4) (below_plus (Below.refl _ _) (Nat.le_refl _) j d)
        replace h6 := kept_of ((heap_setCell_other w1 ⟨(w.heap.size + 1 + j0.length), sx * 8 + sy, none⟩ (w.heap.size + 1 + j0.length + 1) (.int .i64 (wrap64 (crossF m xs k sx sy + (-1)))) (show (w.heap.size + 1 + j0.length + 1) ≠ (w.heap.size + 1 + j0.length) by omega)).trans h6) (below_plus (Below.refl _ _) (Nat.le_refl _) j d)
        replace h5 := kept_of (cellsF_put (u := wrap64 (crossF m xs k sx sy + (-1))) (o := sx * 8 + sy) h5) (below_plus (Below.refl _ _) (Nat.le_refl _) j d)
        rw [flat8_put hy8] at h5
        replace hbel := hbel.trans (below_set_plus (by omega) (by omega) : Below w.heap.size w1 (plus (w1.setCell ⟨(w.heap.size + 1 + j0.length), sx * 8 + sy, none⟩ (.int .i64 (wrap64 (crossF m xs k sx sy + (-1))))) j d))
        clear c5 f5
        obtain ⟨w2, hw⟩ : ∃ w2, (plus (w1.setCell ⟨(w.heap.size + 1 + j0.length), sx * 8 + sy, none⟩ (.int .i64 (wrap64 (crossF m xs k sx sy + (-1))))) j d) = w2 := ⟨_, rfl⟩
        rw [hw] at h4 h5 h6 hbel ⊢
        clear hw
        replace l4 := lt_of_block h4
        replace l5 := lt_of_block h5
        replace l6 := lt_of_block h6
        replace hbl := hbel.size
        obtain ⟨f1, hf1⟩ : ∃ f1, add2 (crossF m xs k) sx sy (-1) = f1 := ⟨_, rfl⟩
        rw [show put2 (crossF m xs k) sx sy (wrap64 (crossF m xs k sx sy + (-1))) = f1 from hf1] at h5
        have c5 := cellsF_at h5 (o := sy * 8 + sx) (by omega)
        rw [flat8_at hx8] at c5
        have f5 := frozen_of_row w2 (w.heap.size + 1 + j0.length) (sy * 8 + sx) _ 39 h5
        go_wp2_with fail
        refine region_plus_tail 11 (by kernel_rfl) (by kernel_rfl) ?_
        simp only [List.take_succ_cons, List.take_zero, List.drop_succ_cons, List.drop_zero]
        repeat (go_big_quiet_step (first | fail))
        refine wpQuiet_nil ?_
        intro _ hw'
        obtain ⟨q, hw''⟩ := hw'
        subst hw''
        rw [plusq_eq]
        generalize q.j = j
        generalize q.d = d
        clear q
        go_upto_region 12 with (fail)
        replace h4 := kept_of ((heap_setCell_other w2 ⟨(w.heap.size + 1 + j0.length), sy * 8 + sx, none⟩ w.heap.size (.int .i64 (wrap64 (f1 sy sx + (-1)))) (show w.heap.size ≠ (w.heap.size + 1 + j0.length) by omega)).trans h4) (below_plus (Below.refl _ _) (Nat.le_refl _) j d)
        replace h6 := kept_of ((heap_setCell_other w2 ⟨(w.heap.size + 1 + j0.length), sy * 8 + sx, none⟩ (w.heap.size + 1 + j0.length + 1) (.int .i64 (wrap64 (f1 sy sx + (-1)))) (show (w.heap.size + 1 + j0.length + 1) ≠ (w.heap.size + 1 + j0.length) by omega)).trans h6) (below_plus (Below.refl _ _) (Nat.le_refl _) j d)
        replace h5 := kept_of (cellsF_put (u := wrap64 (f1 sy sx + (-1))) (o := sy * 8 + sx) h5) (below_plus (Below.refl _ _) (Nat.le_refl _) j d)
        rw [flat8_put hx8] at h5
        replace hbel := hbel.trans (below_set_plus (by omega) (by omega) : Below w.heap.size w2 (plus (w2.setCell ⟨(w.heap.size + 1 + j0.length), sy * 8 + sx, none⟩ (.int .i64 (wrap64 (f1 sy sx + (-1))))) j d))
        clear c5 f5
        obtain ⟨w3, hw⟩ : ∃ w3, (plus (w2.setCell ⟨(w.heap.size + 1 + j0.length), sy * 8 + sx, none⟩ (.int .i64 (wrap64 (f1 sy sx + (-1))))) j d) = w3 := ⟨_, rfl⟩
        rw [hw] at h4 h5 h6 hbel ⊢
        clear hw
        replace l4 := lt_of_block h4
        replace l5 := lt_of_block h5
        replace l6 := lt_of_block h6
        replace hbl := hbel.size
        have f6 := fun o => frozen_of_row w3 (w.heap.size + 1 + j0.length + 1) o _ 48 h6
        have f7 := f6 p
        have f8 := f6 (p + 1)
        have d1 := cellsF_at h6 (o := p) hp8
        have d2 := cellsF_at h6 (o := p + 1) hp9
        simp only [up, hsx, hsy] at d1 d2
        clear f6
        go_wp2
        go_roundw
        case rel =>
          refine ⟨k + 1, by omega, by go_num, ?_, ?_, ?_, ?_⟩
          · rw [heap_setCell_other _ _ _ _ (show w.heap.size ≠ (w.heap.size + 1 + j0.length + 1) by omega), heap_setCell_other _ _ _ _ (show w.heap.size ≠ (w.heap.size + 1 + j0.length + 1) by omega)]; exact h4
          · rw [heap_setCell_other _ _ _ _ (show (w.heap.size + 1 + j0.length) ≠ (w.heap.size + 1 + j0.length + 1) by omega), heap_setCell_other _ _ _ _ (show (w.heap.size + 1 + j0.length) ≠ (w.heap.size + 1 + j0.length + 1) by omega), HC.out, hsx, hsy, cross2]; rw [show sgn _ = ((-1) : Int) from by simp [sgn]; try omega, hf1]; exact h5
          · have e := cellsF_put (u := ((sx : Nat) : Int)) (o := p + 1) (cellsF_put (u := ((sy : Nat) : Int)) (o := p) h6)
            rw [← HS.out, ← swap_steps2, hsx, hsy, ← upd_up, ← upd_up]
            exact e
          · exact hbel.trans ⟨rfl, rfl, rfl, by simp, fun i hi => (heap_setCell_other _ _ _ _ (show i ≠ (w.heap.size + 1 + j0.length + 1) by omega)).trans (heap_setCell_other _ _ _ _ (show i ≠ (w.heap.size + 1 + j0.length + 1) by omega))⟩
        case measure => simp [intOf]; omega
    · obtain rfl : k = xs.length := by omega
      go_wp2_with (first | ((with_reducible apply wpList_load_big rfl 39 _ rfl _ rfl 8 64 38 Try.underlying39 info39); (repeat (first | (refine heap_at _ _ _ ?_; ((try simp only [plus_size, World.size_alloc, World.size_drew, World.size_setCell, size_setRow, World.heap_drewN, List.length_append]) <;> omega)) | (refine heap_past' ?_ ?_; ((try simp only [plus_size, World.size_alloc, World.size_drew, World.size_setCell, size_setRow, World.heap_drewN, List.length_append]) <;> omega)) | (refine heap_plus' ?_ ?_; ((try simp only [plus_size, World.size_alloc, World.size_drew, World.size_setCell, size_setRow, World.heap_drewN, List.length_append]) <;> omega)) | assumption)); (simp only [arrF_size]))
                                        | ((with_reducible apply wpList_store_arr rfl rfl 39 _ _ rfl _ rfl _ rfl 64 info39); (repeat (first | (refine heap_at _ _ _ ?_; ((try simp only [plus_size, World.size_alloc, World.size_drew, World.size_setCell, size_setRow, World.heap_drewN, List.length_append]) <;> omega)) | (refine heap_past' ?_ ?_; ((try simp only [plus_size, World.size_alloc, World.size_drew, World.size_setCell, size_setRow, World.heap_drewN, List.length_append]) <;> omega)) | (refine heap_plus' ?_ ?_; ((try simp only [plus_size, World.size_alloc, World.size_drew, World.size_setCell, size_setRow, World.heap_drewN, List.length_append]) <;> omega)) | assumption)); (simp only [arrF_size, arrO_size]); (simp only [arrF_size, arrO_size]); (first | exact arrF_one _ _ _ | exact arrO_one _ _); (repeat (first | (refine setRow_at' ?_; ((try simp only [plus_size, World.size_alloc, World.size_drew, World.size_setCell, size_setRow, World.heap_drewN, List.length_append]) <;> omega)) | (apply setRow_past'; ((try simp only [plus_size, World.size_alloc, World.size_drew, World.size_setCell, size_setRow, World.heap_drewN, List.length_append]) <;> omega)) | (apply setRow_plus'; ((try simp only [plus_size, World.size_alloc, World.size_drew, World.size_setCell, size_setRow, World.heap_drewN, List.length_append]) <;> omega)) | exact rfl))))
      exact ret_big rfl 8 64 38 Try.underlying39 info39 _ _ _ (0, 0) rfl (setRow_heap wr _ _ (arrF .i64 64 (flat8 (crossF m xs xs.length))) _ _ h4) (by simp [arrF_size]) rfl ⟨rfl, hbel.trans ⟨rfl, rfl, rfl, by simp, fun k hk => setRow_other wr _ k _ (by omega)⟩⟩
end Go.Proofs.Ythapkppnlomclaa
