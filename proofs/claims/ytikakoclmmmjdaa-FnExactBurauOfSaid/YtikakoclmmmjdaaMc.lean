/- Words that serve all later texts: several texts in one. Conditions: as each theorem says. -/
import Derived.Test.YtikakoclmmmjdaaMa
import Derived.Test.YtikakoclmmmjdaaMb
import Derived.BigQuiet
import Derived.Maps.AppendAt
import Derived.Deep.Slices
import Derived.Deep.Strs
import Derived.OwnWalk
namespace Go.Proofs.Ytikakoclmmmjdaa
open Go.ChangeShapes Go.WideShapes Go.ChangeAt Go.RowKit
set_option linter.unusedVariables false
set_option linter.unusedSimpArgs false
theorem own_made_plus {e : TypeId} {w : World} {B b : Nat} {c : Array Value} {m : Nat} {j : List Obj} {d : Nat} (hb : b = w.heap.size) (hB : B ≤ w.heap.size) (hm : m ≤ maxLen) (hc : c.size = m) : own e (plus (w.alloc (.cells c e)) j d) B (.slice (some ⟨b, 0, none⟩) 0 m) [] :=
  hb ▸ (own_made hB hm hc).kept (below_plus (Below.refl _ _) (Nat.le_refl _) j d)
theorem run_append_nothing {P : Program} (w : World) (base : Nat) (t ty e : TypeId) (i : TypeInfo) (size : Nat) (ht : P.underlying t = some (.slice e)) (hi : P.info? e = some i)
    (v : Value) (n c : Nat) (xs : List Value) (hown : w.ownsRow base e size v n xs) : (Builtin.append_ #[t, t] ty #[v, .slice none 0 c]).run P w = .ok v w := by
  rcases hown.2 with ⟨rfl, rfl⟩ | ⟨g, cap, cur, rfl, hbg, hg, hnc, hcm, hcs, htake⟩
  · simp [Builtin.append_, run_underlying ht, sizeOf, typeInfo, hi, Builtin.lenOf, Builtin.firstCells]
  · simp [Builtin.append_, run_underlying ht, sizeOf, typeInfo, hi, Builtin.lenOf, Builtin.firstCells, hnc, storeCells]
theorem wpList_append_nothing {P : Program} {ops : Array Oper} {rest : List Oper} {o : Oper} {a : Act} {w : World} {Q : Exit → Act → World → Prop} (hgd : o.guard = none) (s x : Operand) (t : TypeId)
    (ho : o.op = .call { callee := .builtin .append, args := #[s, x], argTypes := #[t, t] }) (base : Nat) (e : TypeId) (i : TypeInfo) (size : Nat) (ht : P.underlying t = some (.slice e)) (hi : P.info? e = some i)
    (v : Value) (n c : Nat) (xs : List Value) (hs : a.eval s = v) (hown : w.ownsRow base e size v n xs) (hx : a.eval x = .slice none 0 c)
    (h : wpList P ops Q rest (a.put o.dst v) w) : wpList P ops Q (o :: rest) a w := by
  refine wpList_plain hgd fun _ hK => ?_
  have hr := run_append_nothing w base t o.type e i size ht hi v n c xs hown
  unfold Oper.wp execOp
  simp only [ho, resolve, invoke, builtin, Sem.run_bind, Sem.run_pure, Result.andThen_ok, List.map_toArray, List.map_cons, List.map_nil, hs, hx, hr]
  exact hK _ _ h
theorem wpList_appendL {P : Program} {ops : Array Oper} {rest : List Oper} {o : Oper} {a : Act} {w : World} {Q : Exit → Act → World → Prop} (hgd : o.guard = none) (s x : Operand) (t : TypeId)
    (ho : o.op = .call { callee := .builtin .append, args := #[s, x], argTypes := #[t, t] }) (e : TypeId) (ht : P.underlying t = some (.slice e)) (hi : (P.info? e).map (fun i => (i.zero, i.size, i.bytes)) = some (some (.int .i64 0), 1, 8))
    (B : Nat) (v v2 : Value) (xs ys : List Int) (hs : a.eval s = v) (hx : a.eval x = v2) (hown : own e w B v xs) (hr : reads w v2 ys) (hlen : xs.length + ys.length ≤ 1000000000) (hB : B ≤ w.heap.size)
    (h : ∀ v' w', own e w' B v' (xs ++ ys) → w.grownBy w' v.ownBlock → Below B w w' → wpList P ops Q rest (a.put o.dst v') w') : wpList P ops Q (o :: rest) a w := by
  obtain ⟨i, h1, h2, h3, h4⟩ := info_parts hi
  have go : ∀ (ad : Addr) (c : Nat), a.eval x = .slice (some ad) ys.length c → (∀ j u, (ys.map (Value.int .i64))[j]? = some u → w.cell? (ad.add j) = some u) → wpList P ops Q (o :: rest) a w := by
    intro ad c hx' hn
    refine wpList_append_own w hgd s x t ho B e i (.int .i64 0) 1 8 ht h1 h2 h3 h4 rfl (by decide) v _ _ hs hown ad ys.length c (ys.map (Value.int .i64)) hx' (by simp) hn ?_ (by unfold maxLen; omega) (by omega) hB ?_
    · intro y hy
      obtain ⟨z, _, rfl⟩ := List.mem_map.1 hy
      rfl
    · intro v' w' h5 h6 _
      refine h v' w' ?_ h6 (below_of_grown h6 hB fun k hk => (hown.lt k hk).1)
      show w'.ownsRow B e 1 v' (xs ++ ys).length ((xs ++ ys).map (Value.int .i64))
      simpa using h5
  obtain ⟨ad, c, rfl, hr⟩ := hr
  cases ad with
  | none =>
    rcases hr with rfl | ⟨b, o', ha, _⟩
    · refine wpList_append_nothing hgd s x t ho B e i 1 ht h1 v _ c _ hs hown hx ?_
      exact h v w (by rw [List.append_nil]; exact hown) ⟨rfl, rfl, rfl, Nat.le_refl _, fun _ _ _ => rfl⟩ (Below.refl _ _)
    · cases ha
  | some ad =>
    refine go ad c hx fun j u hj => ?_
    rcases hr with rfl | ⟨b, o', ha, hr⟩
    · simp at hj
    · cases ha
      rw [List.getElem?_map] at hj
      have hj2 : j < ys.length := by
        rcases Nat.lt_or_ge j ys.length with h' | h'
        · exact h'
        · rw [List.getElem?_eq_none h'] at hj; cases hj
      rw [nth_get hj2] at hj
      cases hj
      have e : (⟨b, o', none⟩ : Addr).add j = ⟨b, o' + j, none⟩ := by unfold Addr.add; split <;> simp_all
      rw [e]
      exact hr j hj2
end Go.Proofs.Ytikakoclmmmjdaa
namespace Go.Proofs.Ytikakoclmmmjdaa
open Go.RowKit
set_option linter.unusedSimpArgs false
set_option linter.unusedVariables false
open Go.RowKit
set_option maxHeartbeats 400000 in
theorem l01Own_any (v : Value) (xs : List Int) (w : World) (h : reads w v xs) (hlen : xs.length ≤ 1000000000) : Calls Try.prog 54 #[v] w (RetInts 2 w xs) := by
  have Hr := Lib.hid (fun w' (hb : Below w.heap.size w w') => h.kept hb)
  clear h
  go_enter Try.func54, Try.ntmps54
  go_wp2_with (first | (at_builtin; go_loud (refine wpList_appendL rfl _ _ 22 rfl 2 Try.underlying22 infoI w.heap.size _ _ [] xs rfl rfl (own_made (Nat.le_refl _) (by decide) rfl) (Hr.out _ (by (repeat (first | (with_reducible exact Below.refl _ _) | (with_reducible assumption) | (with_reducible refine below_plus' ?_ ?_; ((try simp only [plus_size, World.size_alloc, World.size_drew, World.size_setCell, size_setRow, World.heap_drewN, List.length_append]) <;> omega)) | (with_reducible refine below_alloc' ?_ ?_; ((try simp only [plus_size, World.size_alloc, World.size_drew, World.size_setCell, size_setRow, World.heap_drewN, List.length_append]) <;> omega)) | with_reducible refine Below.drew ?_ | (with_reducible refine below_drewN' ?_ _) | exact Below.refl _ _)))) (by simp; omega) (by ((try simp only [plus_size, World.size_alloc, World.size_drew, World.size_setCell, size_setRow, World.heap_drewN, List.length_append]) <;> omega)) ?_; intro v' w' hown' hgr hB; replace hB := Below.trans (show Below w.heap.size w _ by (repeat (first | (with_reducible exact Below.refl _ _) | (with_reducible assumption) | (with_reducible refine below_plus' ?_ ?_; ((try simp only [plus_size, World.size_alloc, World.size_drew, World.size_setCell, size_setRow, World.heap_drewN, List.length_append]) <;> omega)) | (with_reducible refine below_alloc' ?_ ?_; ((try simp only [plus_size, World.size_alloc, World.size_drew, World.size_setCell, size_setRow, World.heap_drewN, List.length_append]) <;> omega)) | with_reducible refine Below.drew ?_ | (with_reducible refine below_drewN' ?_ _) | exact Below.refl _ _))) hB; obtain ⟨j, d, rfl⟩ := plus_of_below hB; clear hB hgr)))
  go_ret
  exact ⟨_, rfl, by (repeat (first | (with_reducible exact Below.refl _ _) | (with_reducible assumption) | (with_reducible refine below_plus' ?_ ?_; ((try simp only [plus_size, World.size_alloc, World.size_drew, World.size_setCell, size_setRow, World.heap_drewN, List.length_append]) <;> omega)) | (with_reducible refine below_alloc' ?_ ?_; ((try simp only [plus_size, World.size_alloc, World.size_drew, World.size_setCell, size_setRow, World.heap_drewN, List.length_append]) <;> omega)) | with_reducible refine Below.drew ?_ | (with_reducible refine below_drewN' ?_ _) | exact Below.refl _ _)), by simpa using hown'⟩
theorem retI_form {e : TypeId} {w w' : World} {xs : List Int} {en : Ending} (h : RetInts e w xs en w') : ∃ v, en = .returned v ∧ Below w.heap.size w w' ∧ own e w' w.heap.size v xs := h
theorem own.cap {e : TypeId} {w : World} {B : Nat} {ao : Option Addr} {n co : Nat} {xs : List Int} (h : own e w B (.slice ao n co) xs) : xs.length ≤ co := by
  rcases h.2 with ⟨h1, h2⟩ | ⟨g, cap, cur, h1, _, _, h2, _⟩
  · omega
  · cases h1; exact h2
theorem reads_part {w : World} {b q n ca a m : Nat} {xs : List Int} (h : reads w (.slice (some ⟨b, q, none⟩) n ca) xs) (hm : a + m ≤ n) (c' : Nat) (h0 : 0 < m) : reads w (.slice (some ⟨b, q + a, none⟩) m c') ((xs.drop a).take m) := by
  obtain ⟨p, c, hv, h⟩ := h
  cases hv
  have hlen : ((xs.drop a).take m).length = m := by rw [List.length_take, List.length_drop]; omega
  refine ⟨_, _, by rw [hlen], ?_⟩
  obtain ⟨b', q', e, mm⟩ := h.resolve_left (fun e => by rw [e] at hm; simp at hm; omega)
  cases e
  refine .inr ⟨b, q + a, rfl, fun i hi => ?_⟩
  rw [hlen] at hi
  rw [nth_take hi, nth_drop, show q + a + i = q + (a + i) by omega]
  exact mm (a + i) (by omega)
set_option maxHeartbeats 2000000 in
theorem l05Trim_any (low : Int) (a0 : Option Addr) (c0 : Nat) (xs : List Int) (w : World) (h : reads w (.slice a0 xs.length c0) xs) (hc0 : xs.length ≤ c0) (hlen : xs.length ≤ 100000) (hl1 : -100000 ≤ low) (hl2 : low ≤ 100000) : Calls Try.prog 55 #[.int .i64 low, .slice a0 xs.length c0] w (RetB 2 w (trimLow low xs) (trimLst xs)) := by
  have H0 := Lib.hid h
  obtain ⟨a, c, hv, h⟩ := h
  simp only [Value.slice.injEq, true_and] at hv
  obtain ⟨rfl, rfl⟩ := hv
  have Hr := Lib.hid (show 0 < xs.length → ∃ b o, a0 = some ⟨b, o, none⟩ ∧ b < w.heap.size ∧ ∀ i, i < xs.length → w.cell? ⟨b, o + i, none⟩ = some (.int .i64 (nth xs i)) from fun hp => by
    rcases h with h | ⟨b, o, rfl, m⟩
    · rw [h] at hp; cases hp
    · exact ⟨b, o, rfl, World.block_lt_of_cell? w _ (m 0 hp), m⟩)
  clear h
  go_enter Try.func55, Try.ntmps55
  go_wp2
  go_loop [6] (fun sl => ∃ m : Nat, m ≤ xs.length ∧ sl = .int .i64 m ∧ Hid (∀ i, m ≤ i → nth xs i = 0)) (fun sl => (intOf sl).toNat)
  case atStart => exact ⟨xs.length, Nat.le_refl _, rfl, Lib.hid (fun i hi => nth_over hi)⟩
  case round =>
    obtain ⟨m, hm, rfl, HB⟩ := hrel
    rcases Nat.eq_zero_or_pos m with rfl | hm0
    · have HT := Lib.hid (trim_is (low := low) (xs := xs) (a := 0) (m := 0) (fun i hi => by omega) (fun i hi => HB.out i (by omega)) (.inl rfl))
      clear Hr
      go_wp2
      go_loop [5] (fun sl => sl = .int .i64 0) (fun _ => 0)
      case atStart => exact by go_num
      case round =>
        obtain rfl := hrel
        go_wp2
        refine bodyPost_ret (v := .agg #[.int .i64 0, .slice none 0 0]) (by simp [results, Try.results55, go_sem]) rfl ?_
        exact ⟨_, by rw [HT.out.1, if_pos trivial], by (repeat (first | (with_reducible exact Below.refl _ _) | (with_reducible assumption) | (with_reducible refine below_plus' ?_ ?_; ((try simp only [plus_size, World.size_alloc, World.size_drew, World.size_setCell, size_setRow, World.heap_drewN, List.length_append]) <;> omega)) | (with_reducible refine below_alloc' ?_ ?_; ((try simp only [plus_size, World.size_alloc, World.size_drew, World.size_setCell, size_setRow, World.heap_drewN, List.length_append]) <;> omega)) | with_reducible refine Below.drew ?_ | (with_reducible refine below_drewN' ?_ _) | exact Below.refl _ _)), by rw [HT.out.2]; simpa using own_nil _ _ _⟩
    · obtain ⟨b, o, rfl, hbk, mm⟩ := Hr.out (by omega)
      obtain ⟨p, rfl⟩ : ∃ p, m = p + 1 := ⟨m - 1, by omega⟩
      have hm1 : (0 : Int) < ((p + 1 : Nat) : Int) := by omega
      have hp : p < xs.length := by omega
      have hw1 : ((p + 1 : Nat) : Int) - 1 = p := by omega
      have g1 := mm p hp
      have HM := Lib.hid mm
      clear mm Hr
      by_cases hy : nth xs p = 0
      · have HY := Lib.hid hy
        rw [hy] at g1
        clear hy
        go_wp2
        refine ⟨⟨p, by omega, rfl, Lib.hid (fun i hi => ?_)⟩, by simp [intOf]⟩
        by_cases e : i = p
        · rw [e]; exact HY.out
        · exact HB.out i (by omega)
      · have hyb : (nth xs p == 0) = false := by simp [hy]
        have HY := Lib.hid hy
        clear hy
        go_wp2
        go_loop [5] (fun sl => ∃ a : Nat, a ≤ p ∧ sl = .int .i64 a ∧ Hid (∀ i, i < a → nth xs i = 0)) (fun sl => p + 1 - (intOf sl).toNat)
        case atStart => exact ⟨0, by omega, by go_num, Lib.hid (fun i hi => by omega)⟩
        case round =>
          clear g1 hyb
          obtain ⟨a, ha, rfl, HZ⟩ := hrel
          have g2 := HM.out a (by omega)
          have ha1 : (a : Int) < ((p + 1 : Nat) : Int) := by omega
          by_cases hx : nth xs a = 0
          · have HX := Lib.hid hx
            have hap : a ≠ p := fun e => by rw [e] at hx; exact HY.out hx
            rw [hx] at g2
            clear hx
            go_wp2
            refine ⟨⟨a + 1, by omega, by go_num, Lib.hid (fun i hi => ?_)⟩, by simp [intOf]; omega⟩
            by_cases e : i = a
            · rw [e]; exact HX.out
            · exact HZ.out i (by omega)
          · have hxb : (nth xs a == 0) = false := by simp [hx]
            have HT := Lib.hid (trim_is (low := low) (xs := xs) (a := a) (m := p + 1 - a) HZ.out (fun i hi => HB.out i (by omega)) (.inr ⟨hx, by rw [show a + (p + 1 - a) - 1 = p by omega]; exact HY.out⟩))
            have hne : ((a : Int) == ((p + 1 : Nat) : Int)) = false := beq_eq_false_iff_ne.2 (by omega)
            have HC := Lib.hid (fun w' (hb : Below w.heap.size w w') => l01Own_any _ ((xs.drop a).take (p + 1 - a)) w' ((reads_part H0.out (a := a) (m := p + 1 - a) (by omega) (c0 - a) (by omega)).kept hb) (by rw [List.length_take]; omega))
            generalize (xs.drop a).take (p + 1 - a) = R at HC HT
            clear hx
            go_wp2_with (first | (go_at_call 54; refine Calls.mono (HC.out _ ?_) ?_; (repeat (first | (with_reducible exact Below.refl _ _) | (with_reducible assumption) | (with_reducible refine below_plus' ?_ ?_; ((try simp only [plus_size, World.size_alloc, World.size_drew, World.size_setCell, size_setRow, World.heap_drewN, List.length_append]) <;> omega)) | (with_reducible refine below_alloc' ?_ ?_; ((try simp only [plus_size, World.size_alloc, World.size_drew, World.size_setCell, size_setRow, World.heap_drewN, List.length_append]) <;> omega)) | with_reducible refine Below.drew ?_ | (with_reducible refine below_drewN' ?_ _) | exact Below.refl _ _)); intro e w' hh; obtain ⟨vG, rfl, hB, hoG⟩ := retI_form hh; clear hh; have hrG := hoG.reads; obtain ⟨aG, cG, rfl⟩ := readsL_form hrG; obtain ⟨j, d, rfl⟩ := plus_of_below hB; clear hB))
            refine bodyPost_ret (v := .agg #[.int .i64 (low + a), .slice aG R.length cG]) (by simp [results, Try.results55, go_sem]) rfl ?_
            refine ⟨_, by rw [HT.out.1, if_neg (by omega)], by (repeat (first | (with_reducible exact Below.refl _ _) | (with_reducible assumption) | (with_reducible refine below_plus' ?_ ?_; ((try simp only [plus_size, World.size_alloc, World.size_drew, World.size_setCell, size_setRow, World.heap_drewN, List.length_append]) <;> omega)) | (with_reducible refine below_alloc' ?_ ?_; ((try simp only [plus_size, World.size_alloc, World.size_drew, World.size_setCell, size_setRow, World.heap_drewN, List.length_append]) <;> omega)) | with_reducible refine Below.drew ?_ | (with_reducible refine below_drewN' ?_ _) | exact Below.refl _ _)), ?_⟩
            rw [HT.out.2]
            exact own_farG hoG (by ((try simp only [plus_size, World.size_alloc, World.size_drew, World.size_setCell, size_setRow, World.heap_drewN, List.length_append]) <;> omega)) (by ((try simp only [plus_size, World.size_alloc, World.size_drew, World.size_setCell, size_setRow, World.heap_drewN, List.length_append]) <;> omega)) (by ((try simp only [plus_size, World.size_alloc, World.size_drew, World.size_setCell, size_setRow, World.heap_drewN, List.length_append]) <;> omega)) (by (repeat (first | (with_reducible exact List.prefix_rfl) | (with_reducible exact List.nil_prefix) | (refine List.IsPrefix.trans ?_ (List.prefix_append _ _)))))
end Go.Proofs.Ytikakoclmmmjdaa
namespace Go.Proofs.Ytikakoclmmmjdaa
open Go.RowKit
set_option linter.unusedSimpArgs false
set_option linter.unusedVariables false
open Go.RowKit
/-- the numbers f 0, f 1, .. -/
def lstI (N : Nat) (f : Nat → Int) : List Int := (List.range N).map f
theorem lstI_length (N f) : (lstI N f).length = N := by simp [lstI]
theorem nth_lstI {N f i} (h : i < N) : nth (lstI N f) i = f i := by simp [nth, lstI, h]
theorem lstI_set (N : Nat) (f : Nat → Int) (p : Nat) (u : Int) : (lstI N f).set p u = lstI N (fun j => if j = p then u else f j) := by
  apply List.ext_getElem?
  intro i
  simp only [lstI, List.getElem?_set, List.getElem?_map, List.length_map, List.length_range]
  by_cases hi : i < N
  · rw [List.getElem?_range hi]
    by_cases e : p = i
    · subst e; simp [hi]
    · have : i ≠ p := fun h => e h.symm
      simp [e, this]
  · have h1 : (List.range N)[i]? = none := List.getElem?_eq_none (by simp; omega)
    rw [h1]
    by_cases e : p = i
    · subst e; simp [hi]
    · simp [e]
theorem lstI_ext {N : Nat} {f g : Nat → Int} (h : ∀ i, i < N → f i = g i) : lstI N f = lstI N g := by
  simp only [lstI]
  exact List.map_congr_left fun i hi => h i (List.mem_range.1 hi)
theorem lstI_zero (N : Nat) : List.replicate N (0 : Int) = lstI N (fun _ => 0) := by
  simp [lstI, List.map_const']
theorem atP_none (n z : Int) : atP n [] z = 0 := by unfold atP; split; (· simp [nth]); (· rfl)
theorem atP_step {n : Int} {xs : List Int} {k : Nat} (hk : k < xs.length) (z : Int) : atP n (xs.take (k + 1)) z = if z = n + k then nth xs k else atP n (xs.take k) z := by
  unfold atP
  rw [List.length_take, List.length_take, Nat.min_eq_left (by omega), Nat.min_eq_left (by omega)]
  by_cases h : z = n + k
  · subst h
    rw [if_pos (by omega), if_pos rfl, nth_take (by omega)]
    congr 1; omega
  · rw [if_neg h]
    by_cases h2 : n ≤ z ∧ z < n + k
    · rw [if_pos (by omega), if_pos h2, nth_take (by omega), nth_take (by omega)]
    · rw [if_neg (by omega), if_neg h2]
theorem atP_end {n : Int} {xs : List Int} {k : Nat} : atP n (xs.take k) (n + k) = 0 := by
  unfold atP
  split
  · exact nth_over (by rw [List.length_take] at *; omega)
  · rfl
/-- the list behind k rounds of the first loop, and of the second one -/
def fA (n : Int) (xs : List Int) (lo : Int) (k : Nat) : Nat → Int := fun j => atP n (xs.take k) (lo + j)
def fB (n : Int) (xs : List Int) (m : Int) (ys : List Int) (lo : Int) (k : Nat) : Nat → Int := fun j => atP n xs (lo + j) + atP m (ys.take k) (lo + j)
theorem fA_zero (n : Int) (xs : List Int) (lo : Int) : fA n xs lo 0 = fun _ => 0 := by funext j; simp [fA, atP_none]
theorem fA_step {n : Int} {xs : List Int} {lo : Int} {k p N : Nat} (hk : k < xs.length) (hp : lo + p = n + k) : (lstI N (fA n xs lo k)).set p (nth xs k) = lstI N (fA n xs lo (k + 1)) := by
  rw [lstI_set]
  refine lstI_ext fun j hj => ?_
  simp only [fA, atP_step hk]
  by_cases e : j = p
  · subst e; rw [if_pos rfl, if_pos hp]
  · rw [if_neg e, if_neg (by omega)]
theorem fA_full {n : Int} {xs : List Int} {m : Int} {ys : List Int} {lo : Int} : fA n xs lo xs.length = fB n xs m ys lo 0 := by
  funext j; simp [fA, fB, atP_none]
theorem fB_step {n : Int} {xs : List Int} {m : Int} {ys : List Int} {lo : Int} {k p N : Nat} (hk : k < ys.length) (hp : lo + p = m + k) : (lstI N (fB n xs m ys lo k)).set p (fB n xs m ys lo k p + nth ys k) = lstI N (fB n xs m ys lo (k + 1)) := by
  rw [lstI_set]
  refine lstI_ext fun j hj => ?_
  simp only [fB, atP_step hk]
  by_cases e : j = p
  · subst e; rw [if_pos rfl, if_pos hp, hp, atP_end]; omega
  · rw [if_neg e, if_neg (by omega)]
theorem fB_b {n : Int} {xs : List Int} {m : Int} {ys : List Int} (h1 : allC xs = true) (h2 : allC ys = true) (lo : Int) (k p : Nat) : -2000000000000 ≤ fB n xs m ys lo k p ∧ fB n xs m ys lo k p ≤ 2000000000000 := by
  unfold fB
  have a := atP_b (low := n) h1 (lo + p)
  have b : -1000000000000 ≤ atP m (ys.take k) (lo + p) ∧ atP m (ys.take k) (lo + p) ≤ 1000000000000 := by
    refine atP_b (allC_good fun i hi => ?_) _
    rw [List.length_take] at hi
    rw [nth_take (by omega)]
    have := allC_at h2 (i := i) (by omega)
    simp [inB]; omega
  omega
theorem atP_ge {n : Int} {xs : List Int} (j : Nat) (h : j < xs.length) : atP n xs (n + j) = nth xs j := atP_in h
theorem trim_self {low : Int} {xs : List Int} (h : okL low xs = true) : trimLow low xs = low ∧ trimLst xs = xs := by
  by_cases h0 : xs.length = 0
  · have hx := List.eq_nil_of_length_eq_zero h0
    rw [okL_0 h0, decide_eq_true_eq] at h
    subst hx; subst h
    exact ⟨rfl, rfl⟩
  · simp only [okL, if_neg h0, Bool.and_eq_true, decide_eq_true_eq, Bool.not_eq_true', decide_eq_false_iff_not] at h
    have e := trim_is (low := low) (xs := xs) (a := 0) (m := xs.length) (fun i hi => by omega) (fun i hi => nth_over (by omega)) (.inr ⟨h.1.1.2, by rw [Nat.zero_add]; exact h.1.2⟩)
    rw [if_neg h0] at e
    simpa using e
/-- both sides agree -/
theorem add_left_none {n : Int} {m : Int} {ys : List Int} (h1 : okL n [] = true) (h2 : okL m ys = true) : addLow n [] m ys = trimLow m (lstI ys.length (fB n [] m ys m ys.length)) ∧ addLst n [] m ys = trimLst (lstI ys.length (fB n [] m ys m ys.length)) := by
  have e : lstI ys.length (fB n [] m ys m ys.length) = ys := by
    apply List.ext_getElem?
    intro i
    by_cases hi : i < ys.length
    · have : (List.range ys.length)[i]? = some i := List.getElem?_range hi
      simp only [lstI, List.getElem?_map, this, Option.map_some, fB, atP_none, List.take_length, atP_ge i hi, Int.zero_add]
      simp [nth, hi]
    · rw [List.getElem?_eq_none (by rw [lstI_length]; omega), List.getElem?_eq_none (by omega)]
  rw [e, (trim_self h2).1, (trim_self h2).2]
  simp [addLow, addLst]
theorem add_right_none {n : Int} {xs : List Int} {m : Int} (h1 : okL n xs = true) (h2 : okL m [] = true) : addLow n xs m [] = n ∧ addLst n xs m [] = xs := by
  by_cases h0 : xs.length = 0
  · rw [okL_0 h0, decide_eq_true_eq] at h1
    rw [okL_0 rfl, decide_eq_true_eq] at h2
    have hx := List.eq_nil_of_length_eq_zero h0
    subst hx
    simp [addLow, addLst, h1, h2]
  · simp [addLow, addLst, h0]
theorem add_both {n : Int} {xs : List Int} {m : Int} {ys : List Int} {lo hi : Int} (h1 : ¬ xs.length = 0) (h2 : ¬ ys.length = 0) (hlo : loP n m = lo) (hhi : hiP n m xs ys = hi) : addLow n xs m ys = trimLow lo (lstI (hi - lo).toNat (fB n xs m ys lo ys.length)) ∧ addLst n xs m ys = trimLst (lstI (hi - lo).toNat (fB n xs m ys lo ys.length)) := by
  have e : sumP n xs m ys = lstI (hi - lo).toNat (fB n xs m ys lo ys.length) := by
    simp only [sumP, hlo, hhi]
    exact lstI_ext fun i _ => by simp only [fB, List.take_length]
  simp only [addLow, addLst, if_neg h1, if_neg h2, hlo, e, and_self]
theorem retB_form {e : TypeId} {w w' : World} {n : Int} {xs : List Int} {en : Ending} (h : RetB e w n xs en w') : ∃ v, en = .returned (.agg #[.int .i64 n, v]) ∧ Below w.heap.size w w' ∧ own e w' w.heap.size v xs := h
theorem reads_cells {w : World} {a : Option Addr} {n c : Nat} {xs : List Int} (h : reads w (.slice a n c) xs) (h0 : 0 < xs.length) : ∃ b o, a = some ⟨b, o, none⟩ ∧ b < w.heap.size ∧ ∀ i, i < xs.length → w.cell? ⟨b, o + i, none⟩ = some (.int .i64 (nth xs i)) := by
  obtain ⟨p, c, hv, h⟩ := h
  cases hv
  obtain ⟨b, o, rfl, mm⟩ := h.resolve_left (fun e => by rw [e] at h0; cases h0)
  exact ⟨b, o, rfl, World.block_lt_of_cell? w _ (mm 0 h0), mm⟩
set_option maxHeartbeats 4000000 in
theorem l05Add_any (n : Int) (v1 : Value) (xs : List Int) (m : Int) (v2 : Value) (ys : List Int) (w : World) (h1 : reads w v1 xs) (h2 : reads w v2 ys) (k1 : okL n xs = true) (k2 : okL m ys = true) : Calls Try.prog 35 #[.agg #[.int .i64 n, v1], .agg #[.int .i64 m, v2], .int .i64 1] w (RetB 2 w (addLow n xs m ys) (addLst n xs m ys)) := by
  obtain ⟨i1, i2, i3, i4⟩ := okL_true k1
  obtain ⟨l1, l2, l3, l4⟩ := okL_true k2
  have H1 := Lib.hid h1
  have H2 := Lib.hid h2
  obtain ⟨a1, c1, rfl⟩ := readsL_form h1
  obtain ⟨a2, c2, rfl⟩ := readsL_form h2
  by_cases hy : ys.length = 0
  · obtain rfl := List.eq_nil_of_length_eq_zero hy
    obtain ⟨e1, e2⟩ := add_right_none k1 k2
    rw [e1, e2]
    have HC := Lib.hid (fun w' (hb : Below w.heap.size w w') => l01Own_any _ xs w' (h1.kept hb) (by omega))
    clear h1 h2 k1 k2 i4 l4 e1 e2 hy
    go_enter Try.func35, Try.ntmps35
    go_upto_region 2 with (fail)
    go_region_with (first | (go_at_call 54; refine Calls.mono (HC.out _ ?_) ?_; (repeat (first | (with_reducible exact Below.refl _ _) | (with_reducible assumption) | (with_reducible refine below_plus' ?_ ?_; ((try simp only [plus_size, World.size_alloc, World.size_drew, World.size_setCell, size_setRow, World.heap_drewN, List.length_append]) <;> omega)) | (with_reducible refine below_alloc' ?_ ?_; ((try simp only [plus_size, World.size_alloc, World.size_drew, World.size_setCell, size_setRow, World.heap_drewN, List.length_append]) <;> omega)) | with_reducible refine Below.drew ?_ | (with_reducible refine below_drewN' ?_ _) | exact Below.refl _ _)); intro e w' hh; obtain ⟨vG, rfl, hB, hoG⟩ := retI_form hh; clear hh; have hrG := hoG.reads; obtain ⟨aG, cG, rfl⟩ := readsL_form hrG; obtain ⟨j, d, rfl⟩ := plus_of_below hB; clear hB))
    all_goals
      go_wp2
      refine bodyPost_ret (v := .agg #[.int .i64 n, .slice aG xs.length cG]) (by simp [results, Try.results35, go_sem]) rfl ?_
      exact ⟨_, rfl, by (repeat (first | (with_reducible exact Below.refl _ _) | (with_reducible assumption) | (with_reducible refine below_plus' ?_ ?_; ((try simp only [plus_size, World.size_alloc, World.size_drew, World.size_setCell, size_setRow, World.heap_drewN, List.length_append]) <;> omega)) | (with_reducible refine below_alloc' ?_ ?_; ((try simp only [plus_size, World.size_alloc, World.size_drew, World.size_setCell, size_setRow, World.heap_drewN, List.length_append]) <;> omega)) | with_reducible refine Below.drew ?_ | (with_reducible refine below_drewN' ?_ _) | exact Below.refl _ _)), by ((try simp only [plus_plus] at hoG ⊢); exact own_farG hoG (by ((try simp only [plus_size, World.size_alloc, World.size_drew, World.size_setCell, size_setRow, World.heap_drewN, List.length_append]) <;> omega)) (by ((try simp only [plus_size, World.size_alloc, World.size_drew, World.size_setCell, size_setRow, World.heap_drewN, List.length_append]) <;> omega)) (by ((try simp only [plus_size, World.size_alloc, World.size_drew, World.size_setCell, size_setRow, World.heap_drewN, List.length_append]) <;> omega)) (by (repeat (first | (with_reducible exact List.prefix_rfl) | (with_reducible exact List.nil_prefix) | (refine List.IsPrefix.trans ?_ (List.prefix_append _ _))))))⟩
  · have hyb : ((ys.length : Int) == 0) = false := beq_eq_false_iff_ne.2 (by omega)
    by_cases hx : xs.length = 0
    · have hxe := List.eq_nil_of_length_eq_zero hx
      have ee := add_left_none (n := n) (m := m) (by rw [← hxe]; exact k1) k2
      rw [← hxe] at ee
      obtain ⟨e1, e2⟩ := ee
      have HX0 := Lib.hid hx
      have hxn : ¬ (0 : Int) < (xs.length : Int) := by omega
      clear hx hxe
      rw [e1, e2]
      have hNN : m + (ys.length : Int) - m = (ys.length : Int) := by omega
      generalize hr : trimLow m (lstI ys.length (fB n xs m ys m ys.length)) = r
      generalize hR : trimLst (lstI ys.length (fB n xs m ys m ys.length)) = R
      have HrR := Lib.hid (And.intro hr hR)
      clear hr hR
      have HAl := Lib.hid i4
      have HBl := Lib.hid l4
      clear h1 h2 k1 k2 i4 l4 e1 e2
      go_enter Try.func35, Try.ntmps35
      go_upto_region 3 with (fail)
      go_quiet (fail)
      go_wp2_with (first | (at_make; refine wpList_make_ints _ rfl _ _ 22 rfl 2 Try.underlying22 infoI ys.length rfl rfl (by omega) ?_; intro w' ho hB; replace hB := Below.trans (show Below (((w.alloc (.cells #[.int .i64 n, .slice a1 xs.length c1] 37)).alloc (.cells #[.int .i64 m, .slice a2 ys.length c2] 37)).alloc (.cells #[.int .i64 0, .slice none 0 0] 37)).heap.size (((w.alloc (.cells #[.int .i64 n, .slice a1 xs.length c1] 37)).alloc (.cells #[.int .i64 m, .slice a2 ys.length c2] 37)).alloc (.cells #[.int .i64 0, .slice none 0 0] 37)) _ by (repeat (first | (with_reducible exact Below.refl _ _) | (with_reducible assumption) | (with_reducible refine below_plus' ?_ ?_; ((try simp only [plus_size, World.size_alloc, World.size_drew, World.size_setCell, size_setRow, World.heap_drewN, List.length_append]) <;> omega)) | (with_reducible refine below_alloc' ?_ ?_; ((try simp only [plus_size, World.size_alloc, World.size_drew, World.size_setCell, size_setRow, World.heap_drewN, List.length_append]) <;> omega)) | with_reducible refine Below.drew ?_ | (with_reducible refine below_drewN' ?_ _) | exact Below.refl _ _))) hB; (simp only [lstI_zero, World.heap_drewN, World.size_alloc] at ho)))
      go_loopw [10] (fun sl wr => ∃ (k : Nat), k ≤ xs.length ∧ sl = .int .i64 k ∧ own 2 wr (((w.alloc (.cells #[.int .i64 n, .slice a1 xs.length c1] 37)).alloc (.cells #[.int .i64 m, .slice a2 ys.length c2] 37)).alloc (.cells #[.int .i64 0, .slice none 0 0] 37)).heap.size (.slice (some ⟨w.heap.size + 1 + 1 + 1, 0, none⟩) ys.length ys.length) (lstI ys.length (fA n xs m k)) ∧ Below (((w.alloc (.cells #[.int .i64 n, .slice a1 xs.length c1] 37)).alloc (.cells #[.int .i64 m, .slice a2 ys.length c2] 37)).alloc (.cells #[.int .i64 0, .slice none 0 0] 37)).heap.size (((w.alloc (.cells #[.int .i64 n, .slice a1 xs.length c1] 37)).alloc (.cells #[.int .i64 m, .slice a2 ys.length c2] 37)).alloc (.cells #[.int .i64 0, .slice none 0 0] 37)) wr) (fun sl _ => xs.length - (intOf sl).toNat)
      case atStart => exact ⟨0, by omega, by go_num, by rw [fA_zero]; exact ho.mono (by ((try simp only [plus_size, World.size_alloc, World.size_drew, World.size_setCell, size_setRow, World.heap_drewN, List.length_append]) <;> omega)), by (repeat (first | (with_reducible exact Below.refl _ _) | (with_reducible assumption) | (with_reducible refine below_plus' ?_ ?_; ((try simp only [plus_size, World.size_alloc, World.size_drew, World.size_setCell, size_setRow, World.heap_drewN, List.length_append]) <;> omega)) | (with_reducible refine below_alloc' ?_ ?_; ((try simp only [plus_size, World.size_alloc, World.size_drew, World.size_setCell, size_setRow, World.heap_drewN, List.length_append]) <;> omega)) | with_reducible refine Below.drew ?_ | (with_reducible refine below_drewN' ?_ _) | exact Below.refl _ _))⟩
      case round =>
        clear ho hB
        obtain ⟨k, hk, rfl, hown, hbel⟩ := hrel
        obtain ⟨j0, d0, rfl⟩ := plus_of_below hbel
        obtain rfl : k = xs.length := by have := HX0.out; omega
        rw [fA_full (m := m) (ys := ys)] at hown
        go_wp2
        go_loopw [11] (fun sl wr => ∃ (k : Nat), k ≤ ys.length ∧ sl = .int .i64 k ∧ own 2 wr (((w.alloc (.cells #[.int .i64 n, .slice a1 xs.length c1] 37)).alloc (.cells #[.int .i64 m, .slice a2 ys.length c2] 37)).alloc (.cells #[.int .i64 0, .slice none 0 0] 37)).heap.size (.slice (some ⟨w.heap.size + 1 + 1 + 1, 0, none⟩) ys.length ys.length) (lstI ys.length (fB n xs m ys m k)) ∧ Below (((w.alloc (.cells #[.int .i64 n, .slice a1 xs.length c1] 37)).alloc (.cells #[.int .i64 m, .slice a2 ys.length c2] 37)).alloc (.cells #[.int .i64 0, .slice none 0 0] 37)).heap.size (((w.alloc (.cells #[.int .i64 n, .slice a1 xs.length c1] 37)).alloc (.cells #[.int .i64 m, .slice a2 ys.length c2] 37)).alloc (.cells #[.int .i64 0, .slice none 0 0] 37)) wr) (fun sl _ => ys.length - (intOf sl).toNat)
        case atStart => exact ⟨0, by omega, by go_num, hown, hbel⟩
        case round =>
          clear hown hbel
          obtain ⟨k, hk, rfl, hown, hbel⟩ := hrel
          obtain ⟨j0, d0, rfl⟩ := plus_of_below hbel
          by_cases hlt : k < ys.length
          · obtain ⟨b, o, rfl, hbk, mm⟩ := reads_cells H2.out (by omega)
            have g1 := mm k hlt
            have hb1 : b < w.heap.size + 1 := by omega
            have hb2 : b < w.heap.size + 1 + 1 := by omega
            have hb3 : b < w.heap.size + 1 + 1 + 1 := by omega
            have hb4 : b < w.heap.size + 1 + 1 + 1 + j0.length := by omega
            clear mm
            have hp : m - m + (k : Int) = k := by omega
            have hp1 : (k : Int) < (ys.length : Int) := by omega
            have hpn : k < ys.length := by omega
            have hgl := (hown.lt _ rfl).2
            (simp only [plus_size, World.size_alloc] at hgl)
            have c5 := hown.cell (i := k) (by rw [lstI_length]; exact hpn)
            rw [nth_lstI hpn] at c5
            have y1 := (allC_at HBl.out hlt).1
            have y2 := (allC_at HBl.out hlt).2
            have y3 := (fB_b (n := n) (m := m) HAl.out HBl.out m k k).1
            have y4 := (fB_b (n := n) (m := m) HAl.out HBl.out m k k).2
            go_wp2_with fail
            refine region_plus_tail 15 (by kernel_rfl) (by kernel_rfl) ?_
            simp only [List.take_succ_cons, List.take_zero, List.drop_succ_cons, List.drop_zero]
            repeat (go_big_quiet_step (first | fail))
            refine wpQuiet_nil ?_
            intro _ hw'
            obtain ⟨q, hw''⟩ := hw'
            subst hw''
            rw [plusq_eq]
            generalize q.j = j
            generalize q.d = d
            clear q
            rw [plus_plus]
            have hown1 := own_plus (j' := j) (d' := d) hown
            have f1 := hown1.free k
            have c6 := hown1.cell (i := k) (by rw [lstI_length]; exact hpn)
            have hg1 := (hown1.lt _ rfl).2
            (simp only [plus_size, World.size_alloc] at hg1)
            go_wp2
            refine ⟨⟨k + 1, by omega, by go_num, ?_, ?_⟩, ?_⟩
            · have e := hown1.set k (fB n xs m ys m k k + nth ys k)
              rw [fB_step hlt (by omega)] at e
              exact e
            · exact (show Below (((w.alloc (.cells #[.int .i64 n, .slice a1 xs.length c1] 37)).alloc (.cells #[.int .i64 m, .slice (some ⟨b, o, none⟩) ys.length c2] 37)).alloc (.cells #[.int .i64 0, .slice none 0 0] 37)).heap.size (((w.alloc (.cells #[.int .i64 n, .slice a1 xs.length c1] 37)).alloc (.cells #[.int .i64 m, .slice (some ⟨b, o, none⟩) ys.length c2] 37)).alloc (.cells #[.int .i64 0, .slice none 0 0] 37)) (plus (((w.alloc (.cells #[.int .i64 n, .slice a1 xs.length c1] 37)).alloc (.cells #[.int .i64 m, .slice (some ⟨b, o, none⟩) ys.length c2] 37)).alloc (.cells #[.int .i64 0, .slice none 0 0] 37)) (j0 ++ j) d) by (repeat (first | (with_reducible exact Below.refl _ _) | (with_reducible assumption) | (with_reducible refine below_plus' ?_ ?_; ((try simp only [plus_size, World.size_alloc, World.size_drew, World.size_setCell, size_setRow, World.heap_drewN, List.length_append]) <;> omega)) | (with_reducible refine below_alloc' ?_ ?_; ((try simp only [plus_size, World.size_alloc, World.size_drew, World.size_setCell, size_setRow, World.heap_drewN, List.length_append]) <;> omega)) | with_reducible refine Below.drew ?_ | (with_reducible refine below_drewN' ?_ _) | exact Below.refl _ _))).trans (below_of_grown (grownBy_setCell _ _ _ _) (by ((try simp only [plus_size, World.size_alloc, World.size_drew, World.size_setCell, size_setRow, World.heap_drewN, List.length_append]) <;> omega)) (fun q hq => by cases hq; ((try simp only [plus_size, World.size_alloc, World.size_drew, World.size_setCell, size_setRow, World.heap_drewN, List.length_append]) <;> omega)))
            · simp [intOf]; omega
          · obtain rfl : k = ys.length := by omega
            have HTr := l05Trim_any m _ ys.length (lstI ys.length (fB n xs m ys m ys.length)) _ (by rw [lstI_length]; exact hown.reads) (by rw [lstI_length]; exact Nat.le_refl _) (by rw [lstI_length]; omega) (by omega) (by omega)
            rw [lstI_length, HrR.out.1, HrR.out.2] at HTr
            replace HTr := Lib.hid HTr
            clear hown
            go_wp2_with (first | (go_at_call 55; with_reducible refine Calls.mono HTr.out ?_; intro e w' hh; obtain ⟨vG, rfl, hB, hoG⟩ := retB_form hh; clear hh; have hrG := hoG.reads; obtain ⟨aG, cG, rfl⟩ := readsL_form hrG; obtain ⟨j, d, rfl⟩ := plus_of_below hB; clear hB))
            refine bodyPost_ret (v := .agg #[.int .i64 r, .slice aG R.length cG]) (by simp [results, Try.results35, go_sem]) rfl ?_
            exact ⟨_, rfl, by (repeat (first | (with_reducible exact Below.refl _ _) | (with_reducible assumption) | (with_reducible refine below_plus' ?_ ?_; ((try simp only [plus_size, World.size_alloc, World.size_drew, World.size_setCell, size_setRow, World.heap_drewN, List.length_append]) <;> omega)) | (with_reducible refine below_alloc' ?_ ?_; ((try simp only [plus_size, World.size_alloc, World.size_drew, World.size_setCell, size_setRow, World.heap_drewN, List.length_append]) <;> omega)) | with_reducible refine Below.drew ?_ | (with_reducible refine below_drewN' ?_ _) | exact Below.refl _ _)), by ((try simp only [plus_plus] at hoG ⊢); exact own_farG hoG (by ((try simp only [plus_size, World.size_alloc, World.size_drew, World.size_setCell, size_setRow, World.heap_drewN, List.length_append]) <;> omega)) (by ((try simp only [plus_size, World.size_alloc, World.size_drew, World.size_setCell, size_setRow, World.heap_drewN, List.length_append]) <;> omega)) (by ((try simp only [plus_size, World.size_alloc, World.size_drew, World.size_setCell, size_setRow, World.heap_drewN, List.length_append]) <;> omega)) (by (repeat (first | (with_reducible exact List.prefix_rfl) | (with_reducible exact List.nil_prefix) | (refine List.IsPrefix.trans ?_ (List.prefix_append _ _))))))⟩
    · obtain ⟨lo, hlo⟩ : ∃ lo, loP n m = lo := ⟨_, rfl⟩
      obtain ⟨hi, hhi⟩ : ∃ hi, hiP n m xs ys = hi := ⟨_, rfl⟩
      obtain ⟨e1, e2⟩ := add_both hx hy hlo hhi
      have q1 : (if n < m then n else m) = lo := by rw [← hlo]; unfold loP; split <;> split <;> omega
      have q2 : (if m + (ys.length : Int) < n + (xs.length : Int) then n + (xs.length : Int) else m + (ys.length : Int)) = hi := by rw [← hhi]; unfold hiP; split <;> split <;> omega
      have b1 : lo ≤ n := by rw [← q1]; split <;> omega
      have b2 : lo ≤ m := by rw [← q1]; split <;> omega
      have b3 : n + xs.length ≤ hi := by rw [← q2]; split <;> omega
      have b4 : m + ys.length ≤ hi := by rw [← q2]; split <;> omega
      have b5 : -1000 ≤ lo := by rw [← q1]; split <;> omega
      have b6 : hi ≤ 4000 := by rw [← q2]; split <;> omega
      obtain ⟨N, rfl⟩ : ∃ N : Nat, hi = lo + N := ⟨(hi - lo).toNat, by omega⟩
      have hNN : lo + (N : Int) - lo = (N : Int) := by omega
      rw [show (lo + (N : Int) - lo).toNat = N by omega] at e1 e2
      rw [e1, e2]
      have hxb : ((xs.length : Int) == 0) = false := beq_eq_false_iff_ne.2 (by omega)
      generalize hr : trimLow lo (lstI N (fB n xs m ys lo ys.length)) = r
      generalize hR : trimLst (lstI N (fB n xs m ys lo ys.length)) = R
      have HrR := Lib.hid (And.intro hr hR)
      clear hr hR
      have HAl := Lib.hid i4
      have HBl := Lib.hid l4
      clear h1 h2 k1 k2 i4 l4 e1 e2 hlo hhi
      go_enter Try.func35, Try.ntmps35
      go_upto_region 3 with (fail)
      go_quiet (fail)
      go_upto_region 7 with (fail)
      clear q1 q2
      go_wp2_with (first | (at_make; refine wpList_make_ints _ rfl _ _ 22 rfl 2 Try.underlying22 infoI N rfl rfl (by omega) ?_; intro w' ho hB; replace hB := Below.trans (show Below (((w.alloc (.cells #[.int .i64 n, .slice a1 xs.length c1] 37)).alloc (.cells #[.int .i64 m, .slice a2 ys.length c2] 37)).alloc (.cells #[.int .i64 0, .slice none 0 0] 37)).heap.size (((w.alloc (.cells #[.int .i64 n, .slice a1 xs.length c1] 37)).alloc (.cells #[.int .i64 m, .slice a2 ys.length c2] 37)).alloc (.cells #[.int .i64 0, .slice none 0 0] 37)) _ by (repeat (first | (with_reducible exact Below.refl _ _) | (with_reducible assumption) | (with_reducible refine below_plus' ?_ ?_; ((try simp only [plus_size, World.size_alloc, World.size_drew, World.size_setCell, size_setRow, World.heap_drewN, List.length_append]) <;> omega)) | (with_reducible refine below_alloc' ?_ ?_; ((try simp only [plus_size, World.size_alloc, World.size_drew, World.size_setCell, size_setRow, World.heap_drewN, List.length_append]) <;> omega)) | with_reducible refine Below.drew ?_ | (with_reducible refine below_drewN' ?_ _) | exact Below.refl _ _))) hB; (simp only [lstI_zero, World.heap_drewN, World.size_alloc] at ho)))
      go_loopw [10] (fun sl wr => ∃ (k : Nat), k ≤ xs.length ∧ sl = .int .i64 k ∧ own 2 wr (((w.alloc (.cells #[.int .i64 n, .slice a1 xs.length c1] 37)).alloc (.cells #[.int .i64 m, .slice a2 ys.length c2] 37)).alloc (.cells #[.int .i64 0, .slice none 0 0] 37)).heap.size (.slice (some ⟨w.heap.size + 1 + 1 + 1, 0, none⟩) N N) (lstI N (fA n xs lo k)) ∧ Below (((w.alloc (.cells #[.int .i64 n, .slice a1 xs.length c1] 37)).alloc (.cells #[.int .i64 m, .slice a2 ys.length c2] 37)).alloc (.cells #[.int .i64 0, .slice none 0 0] 37)).heap.size (((w.alloc (.cells #[.int .i64 n, .slice a1 xs.length c1] 37)).alloc (.cells #[.int .i64 m, .slice a2 ys.length c2] 37)).alloc (.cells #[.int .i64 0, .slice none 0 0] 37)) wr) (fun sl _ => xs.length - (intOf sl).toNat)
      case atStart => exact ⟨0, by omega, by go_num, by rw [fA_zero]; exact ho.mono (by ((try simp only [plus_size, World.size_alloc, World.size_drew, World.size_setCell, size_setRow, World.heap_drewN, List.length_append]) <;> omega)), by (repeat (first | (with_reducible exact Below.refl _ _) | (with_reducible assumption) | (with_reducible refine below_plus' ?_ ?_; ((try simp only [plus_size, World.size_alloc, World.size_drew, World.size_setCell, size_setRow, World.heap_drewN, List.length_append]) <;> omega)) | (with_reducible refine below_alloc' ?_ ?_; ((try simp only [plus_size, World.size_alloc, World.size_drew, World.size_setCell, size_setRow, World.heap_drewN, List.length_append]) <;> omega)) | with_reducible refine Below.drew ?_ | (with_reducible refine below_drewN' ?_ _) | exact Below.refl _ _))⟩
      case round =>
        clear ho hB
        obtain ⟨k, hk, rfl, hown, hbel⟩ := hrel
        obtain ⟨j0, d0, rfl⟩ := plus_of_below hbel
        by_cases hlt : k < xs.length
        · obtain ⟨b, o, rfl, hbk, mm⟩ := reads_cells H1.out (by omega)
          have g1 := mm k hlt
          have hb1 : b < w.heap.size + 1 := by omega
          have hb2 : b < w.heap.size + 1 + 1 := by omega
          have hb3 : b < w.heap.size + 1 + 1 + 1 := by omega
          have hb4 : b < w.heap.size + 1 + 1 + 1 + j0.length := by omega
          clear mm
          obtain ⟨p, hp⟩ : ∃ p : Nat, n - lo + (k : Int) = p := ⟨(n - lo + (k : Int)).toNat, by omega⟩
          have hp1 : (p : Int) < (N : Int) := by omega
          have hpn : p < N := by omega
          have hgl := (hown.lt _ rfl).2
          (simp only [plus_size, World.size_alloc] at hgl)
          go_wp2_with fail
          refine region_plus_tail 13 (by kernel_rfl) (by kernel_rfl) ?_
          simp only [List.take_succ_cons, List.take_zero, List.drop_succ_cons, List.drop_zero]
          repeat (go_big_quiet_step (first | fail))
          refine wpQuiet_nil ?_
          intro _ hw'
          obtain ⟨q, hw''⟩ := hw'
          subst hw''
          rw [plusq_eq]
          generalize q.j = j
          generalize q.d = d
          clear q
          rw [plus_plus]
          have hown1 := own_plus (j' := j) (d' := d) hown
          have f1 := hown1.free p
          have c6 := hown1.cell (i := p) (by rw [lstI_length]; exact hpn)
          have hg1 := (hown1.lt _ rfl).2
          (simp only [plus_size, World.size_alloc] at hg1)
          go_wp2
          refine ⟨⟨k + 1, by omega, by go_num, ?_, ?_⟩, ?_⟩
          · have e := hown1.set p (nth xs k)
            rw [fA_step hlt (by omega)] at e
            exact e
          · exact (show Below (((w.alloc (.cells #[.int .i64 n, .slice (some ⟨b, o, none⟩) xs.length c1] 37)).alloc (.cells #[.int .i64 m, .slice a2 ys.length c2] 37)).alloc (.cells #[.int .i64 0, .slice none 0 0] 37)).heap.size (((w.alloc (.cells #[.int .i64 n, .slice (some ⟨b, o, none⟩) xs.length c1] 37)).alloc (.cells #[.int .i64 m, .slice a2 ys.length c2] 37)).alloc (.cells #[.int .i64 0, .slice none 0 0] 37)) (plus (((w.alloc (.cells #[.int .i64 n, .slice (some ⟨b, o, none⟩) xs.length c1] 37)).alloc (.cells #[.int .i64 m, .slice a2 ys.length c2] 37)).alloc (.cells #[.int .i64 0, .slice none 0 0] 37)) (j0 ++ j) d) by (repeat (first | (with_reducible exact Below.refl _ _) | (with_reducible assumption) | (with_reducible refine below_plus' ?_ ?_; ((try simp only [plus_size, World.size_alloc, World.size_drew, World.size_setCell, size_setRow, World.heap_drewN, List.length_append]) <;> omega)) | (with_reducible refine below_alloc' ?_ ?_; ((try simp only [plus_size, World.size_alloc, World.size_drew, World.size_setCell, size_setRow, World.heap_drewN, List.length_append]) <;> omega)) | with_reducible refine Below.drew ?_ | (with_reducible refine below_drewN' ?_ _) | exact Below.refl _ _))).trans (below_of_grown (grownBy_setCell _ _ _ _) (by ((try simp only [plus_size, World.size_alloc, World.size_drew, World.size_setCell, size_setRow, World.heap_drewN, List.length_append]) <;> omega)) (fun q hq => by cases hq; ((try simp only [plus_size, World.size_alloc, World.size_drew, World.size_setCell, size_setRow, World.heap_drewN, List.length_append]) <;> omega)))
          · simp [intOf]; omega
        · obtain rfl : k = xs.length := by omega
          rw [fA_full (m := m) (ys := ys)] at hown
          go_wp2
          go_loopw [11] (fun sl wr => ∃ (k : Nat), k ≤ ys.length ∧ sl = .int .i64 k ∧ own 2 wr (((w.alloc (.cells #[.int .i64 n, .slice a1 xs.length c1] 37)).alloc (.cells #[.int .i64 m, .slice a2 ys.length c2] 37)).alloc (.cells #[.int .i64 0, .slice none 0 0] 37)).heap.size (.slice (some ⟨w.heap.size + 1 + 1 + 1, 0, none⟩) N N) (lstI N (fB n xs m ys lo k)) ∧ Below (((w.alloc (.cells #[.int .i64 n, .slice a1 xs.length c1] 37)).alloc (.cells #[.int .i64 m, .slice a2 ys.length c2] 37)).alloc (.cells #[.int .i64 0, .slice none 0 0] 37)).heap.size (((w.alloc (.cells #[.int .i64 n, .slice a1 xs.length c1] 37)).alloc (.cells #[.int .i64 m, .slice a2 ys.length c2] 37)).alloc (.cells #[.int .i64 0, .slice none 0 0] 37)) wr) (fun sl _ => ys.length - (intOf sl).toNat)
          case atStart => exact ⟨0, by omega, by go_num, hown, hbel⟩
          case round =>
            clear hown hbel
            obtain ⟨k, hk, rfl, hown, hbel⟩ := hrel
            obtain ⟨j0, d0, rfl⟩ := plus_of_below hbel
            by_cases hlt : k < ys.length
            · obtain ⟨b, o, rfl, hbk, mm⟩ := reads_cells H2.out (by omega)
              have g1 := mm k hlt
              have hb1 : b < w.heap.size + 1 := by omega
              have hb2 : b < w.heap.size + 1 + 1 := by omega
              have hb3 : b < w.heap.size + 1 + 1 + 1 := by omega
              have hb4 : b < w.heap.size + 1 + 1 + 1 + j0.length := by omega
              clear mm
              obtain ⟨p, hp⟩ : ∃ p : Nat, m - lo + (k : Int) = p := ⟨(m - lo + (k : Int)).toNat, by omega⟩
              have hp1 : (p : Int) < (N : Int) := by omega
              have hpn : p < N := by omega
              have hgl := (hown.lt _ rfl).2
              (simp only [plus_size, World.size_alloc] at hgl)
              have c5 := hown.cell (i := p) (by rw [lstI_length]; exact hpn)
              rw [nth_lstI hpn] at c5
              have y1 := (allC_at HBl.out hlt).1
              have y2 := (allC_at HBl.out hlt).2
              have y3 := (fB_b (n := n) (m := m) HAl.out HBl.out lo k p).1
              have y4 := (fB_b (n := n) (m := m) HAl.out HBl.out lo k p).2
              go_wp2_with fail
              refine region_plus_tail 15 (by kernel_rfl) (by kernel_rfl) ?_
              simp only [List.take_succ_cons, List.take_zero, List.drop_succ_cons, List.drop_zero]
              repeat (go_big_quiet_step (first | fail))
              refine wpQuiet_nil ?_
              intro _ hw'
              obtain ⟨q, hw''⟩ := hw'
              subst hw''
              rw [plusq_eq]
              generalize q.j = j
              generalize q.d = d
              clear q
              rw [plus_plus]
              have hown1 := own_plus (j' := j) (d' := d) hown
              have f1 := hown1.free p
              have c6 := hown1.cell (i := p) (by rw [lstI_length]; exact hpn)
              have hg1 := (hown1.lt _ rfl).2
              (simp only [plus_size, World.size_alloc] at hg1)
              go_wp2
              refine ⟨⟨k + 1, by omega, by go_num, ?_, ?_⟩, ?_⟩
              · have e := hown1.set p (fB n xs m ys lo k p + nth ys k)
                rw [fB_step hlt (by omega)] at e
                exact e
              · exact (show Below (((w.alloc (.cells #[.int .i64 n, .slice a1 xs.length c1] 37)).alloc (.cells #[.int .i64 m, .slice (some ⟨b, o, none⟩) ys.length c2] 37)).alloc (.cells #[.int .i64 0, .slice none 0 0] 37)).heap.size (((w.alloc (.cells #[.int .i64 n, .slice a1 xs.length c1] 37)).alloc (.cells #[.int .i64 m, .slice (some ⟨b, o, none⟩) ys.length c2] 37)).alloc (.cells #[.int .i64 0, .slice none 0 0] 37)) (plus (((w.alloc (.cells #[.int .i64 n, .slice a1 xs.length c1] 37)).alloc (.cells #[.int .i64 m, .slice (some ⟨b, o, none⟩) ys.length c2] 37)).alloc (.cells #[.int .i64 0, .slice none 0 0] 37)) (j0 ++ j) d) by (repeat (first | (with_reducible exact Below.refl _ _) | (with_reducible assumption) | (with_reducible refine below_plus' ?_ ?_; ((try simp only [plus_size, World.size_alloc, World.size_drew, World.size_setCell, size_setRow, World.heap_drewN, List.length_append]) <;> omega)) | (with_reducible refine below_alloc' ?_ ?_; ((try simp only [plus_size, World.size_alloc, World.size_drew, World.size_setCell, size_setRow, World.heap_drewN, List.length_append]) <;> omega)) | with_reducible refine Below.drew ?_ | (with_reducible refine below_drewN' ?_ _) | exact Below.refl _ _))).trans (below_of_grown (grownBy_setCell _ _ _ _) (by ((try simp only [plus_size, World.size_alloc, World.size_drew, World.size_setCell, size_setRow, World.heap_drewN, List.length_append]) <;> omega)) (fun q hq => by cases hq; ((try simp only [plus_size, World.size_alloc, World.size_drew, World.size_setCell, size_setRow, World.heap_drewN, List.length_append]) <;> omega)))
              · simp [intOf]; omega
            · obtain rfl : k = ys.length := by omega
              have HTr := l05Trim_any lo _ N (lstI N (fB n xs m ys lo ys.length)) _ (by rw [lstI_length]; exact hown.reads) (by rw [lstI_length]; exact Nat.le_refl _) (by rw [lstI_length]; omega) (by omega) (by omega)
              rw [lstI_length, HrR.out.1, HrR.out.2] at HTr
              replace HTr := Lib.hid HTr
              clear hown
              go_wp2_with (first | (go_at_call 55; with_reducible refine Calls.mono HTr.out ?_; intro e w' hh; obtain ⟨vG, rfl, hB, hoG⟩ := retB_form hh; clear hh; have hrG := hoG.reads; obtain ⟨aG, cG, rfl⟩ := readsL_form hrG; obtain ⟨j, d, rfl⟩ := plus_of_below hB; clear hB))
              refine bodyPost_ret (v := .agg #[.int .i64 r, .slice aG R.length cG]) (by simp [results, Try.results35, go_sem]) rfl ?_
              exact ⟨_, rfl, by (repeat (first | (with_reducible exact Below.refl _ _) | (with_reducible assumption) | (with_reducible refine below_plus' ?_ ?_; ((try simp only [plus_size, World.size_alloc, World.size_drew, World.size_setCell, size_setRow, World.heap_drewN, List.length_append]) <;> omega)) | (with_reducible refine below_alloc' ?_ ?_; ((try simp only [plus_size, World.size_alloc, World.size_drew, World.size_setCell, size_setRow, World.heap_drewN, List.length_append]) <;> omega)) | with_reducible refine Below.drew ?_ | (with_reducible refine below_drewN' ?_ _) | exact Below.refl _ _)), by ((try simp only [plus_plus] at hoG ⊢); exact own_farG hoG (by ((try simp only [plus_size, World.size_alloc, World.size_drew, World.size_setCell, size_setRow, World.heap_drewN, List.length_append]) <;> omega)) (by ((try simp only [plus_size, World.size_alloc, World.size_drew, World.size_setCell, size_setRow, World.heap_drewN, List.length_append]) <;> omega)) (by ((try simp only [plus_size, World.size_alloc, World.size_drew, World.size_setCell, size_setRow, World.heap_drewN, List.length_append]) <;> omega)) (by (repeat (first | (with_reducible exact List.prefix_rfl) | (with_reducible exact List.nil_prefix) | (refine List.IsPrefix.trans ?_ (List.prefix_append _ _))))))⟩
end Go.Proofs.Ytikakoclmmmjdaa
namespace Go.Proofs.Ytikakoclmmmjdaa
open Go.RowKit
set_option linter.unusedVariables false
set_option linter.unusedSimpArgs false
/-- in the block that it had, or in a new one -/
theorem append_where {P : Program} {w : World} {base : Nat} {t ty e : TypeId} {i : TypeInfo} {z : Value} (ht : P.underlying t = some (.slice e)) (hi : P.info? e = some i) (hz : i.zero = some z) (hsize : i.size = 1) (hby : i.bytes = 8) (hzs : z.cells.size = 1)
    {v : Value} {n : Nat} {xs : List Value} (hown : w.ownsRow base e 1 v n xs) {a : Addr} {m c : Nat} {news : List Value} (hl : news.length = m * 1) (hnews : ∀ j u, news[j]? = some u → w.cell? (a.add j) = some u) (h1 : ∀ u ∈ news, u.oneCell' = true)
    (h63 : n + m ≤ maxLen) (hbytes : (n + m) * 8 ≤ 140737488355328) {v' : Value} {w' : World} (hr : (Builtin.append_ #[t, t] ty #[v, .slice (some a) m c]).run P w = .ok v' w') : ∀ k, v'.ownBlock = some k → v.ownBlock = some k ∨ w.heap.size ≤ k := by
  intro k hk
  rcases hown.2 with ⟨rfl, rfl⟩ | ⟨g, cap, cur, rfl, hbg, hg, hnc, hcm, hcs, htake⟩
  · obtain ⟨v2, w2, hr2, ho2, _⟩ := run_append_own (P := P) w w.heap.size t ty e i z 1 8 ht hi hz hsize hby hzs (by decide) (.slice none 0 0) 0 [] (World.ownsRow_nil w _ e 1) a m c news hl hnews h1 h63 hbytes (Nat.le_refl _)
    rw [hr] at hr2
    cases hr2
    exact .inr (ho2.lt k hk).1
  · by_cases hroom : n + m ≤ cap
    · have hr2 := run_append_room (P := P) w t ty e i ht hi g n cap cur hg a m c news (by rw [hsize]; exact hl) hnews h1 hroom (by rw [hsize, hl, hcs]; omega)
      rw [hr] at hr2
      cases hr2
      exact .inl (by simpa [Value.ownBlock] using hk)
    · have holds : ∀ j u, xs[j]? = some u → w.cell? ((⟨g, 0, none⟩ : Addr).add j) = some u := hown.cells (g := g) rfl
      have hr2 := run_append_grow (P := P) w t ty e i z ht hi hz ⟨g, 0, none⟩ n cap xs (by rw [hsize]; exact hown.1) holds a m c news (by rw [hsize]; exact hl) hnews (by omega) (by unfold maxLen at h63; omega) (by rw [hby]; exact growslice_fits (by omega) hbytes)
      rw [hr] at hr2
      cases hr2
      have e : w.heap.size = k := by simpa [Value.ownBlock] using hk
      exact .inr (by omega)
theorem wp_appendW {P : Program} {o : Oper} {a : Act} {w : World} {K : Act → World → Prop} {Q : Exit → Act → World → Prop} (s x : Operand) (t : TypeId)
    (ho : o.op = .call { callee := .builtin .append, args := #[s, x], argTypes := #[t, t] }) (e : TypeId) (ht : P.underlying t = some (.slice e)) (hi : (P.info? e).map (fun i => (i.zero, i.size, i.bytes)) = some (some (.int .i64 0), 1, 8))
    (B : Nat) (v v2 : Value) (xs ys : List Int) (hs : a.eval s = v) (hx : a.eval x = v2) (hown : own e w B v xs) (hr : reads w v2 ys) (hlen : xs.length + ys.length ≤ 1000000000) (hB : B ≤ w.heap.size)
    (h : ∀ v' w', own e w' B v' (xs ++ ys) → w.grownBy w' v.ownBlock → Below B w w' → (∀ k, v'.ownBlock = some k → v.ownBlock = some k ∨ w.heap.size ≤ k) → K (a.put o.dst v') w') : o.wp P a w K Q := by
  obtain ⟨i, h1, h2, h3, h4⟩ := info_parts hi
  have go : ∀ (ad : Addr) (c : Nat), a.eval x = .slice (some ad) ys.length c → (∀ j u, (ys.map (Value.int .i64))[j]? = some u → w.cell? (ad.add j) = some u) → o.wp P a w K Q := by
    intro ad c hx' hn
    have hl : (ys.map (Value.int .i64)).length = ys.length * 1 := by simp
    have hc1 : ∀ y ∈ ys.map (Value.int .i64), y.oneCell' = true := fun y hy => by
      obtain ⟨z, _, rfl⟩ := List.mem_map.1 hy
      rfl
    obtain ⟨v', w', hrun, h5, h6, _⟩ := run_append_own (P := P) w B t o.type e i (.int .i64 0) 1 8 ht h1 h2 h3 h4 rfl (by decide) v _ _ hown ad ys.length c _ hl hn hc1 (by unfold maxLen; omega) (by omega) hB
    have hwh := append_where ht h1 h2 h3 h4 rfl hown hl hn hc1 (by unfold maxLen; omega) (by omega) hrun
    unfold Oper.wp execOp
    simp only [ho, resolve, invoke, builtin, Sem.run_bind, Sem.run_pure, Result.andThen_ok, List.map_toArray, List.map_cons, List.map_nil, hs, hx', hrun]
    refine h v' w' ?_ h6 (below_of_grown h6 hB fun k hk => (hown.lt k hk).1) hwh
    show w'.ownsRow B e 1 v' (xs ++ ys).length ((xs ++ ys).map (Value.int .i64))
    simpa using h5
  obtain ⟨ad, c, rfl, hr⟩ := hr
  cases ad with
  | none =>
    rcases hr with rfl | ⟨b, o', ha, _⟩
    · have hh := h v w (by rw [List.append_nil]; exact hown) ⟨rfl, rfl, rfl, Nat.le_refl _, fun _ _ _ => rfl⟩ (Below.refl _ _) (fun k hk => .inl hk)
      have hr2 := run_append_nothing (P := P) w B t o.type e i 1 ht h1 v _ c _ hown
      unfold Oper.wp execOp
      simp only [ho, resolve, invoke, builtin, Sem.run_bind, Sem.run_pure, Result.andThen_ok, List.map_toArray, List.map_cons, List.map_nil, hs, hx, List.length_nil, hr2]
      exact hh
    · cases ha
  | some ad =>
    refine go ad c hx fun j u hj => ?_
    rcases hr with rfl | ⟨b, o', ha, hr⟩
    · simp at hj
    · cases ha
      rw [List.getElem?_map] at hj
      have hj2 : j < ys.length := by
        rcases Nat.lt_or_ge j ys.length with h' | h'
        · exact h'
        · rw [List.getElem?_eq_none h'] at hj; cases hj
      rw [nth_get hj2] at hj
      cases hj
      have e : (⟨b, o', none⟩ : Addr).add j = ⟨b, o' + j, none⟩ := by unfold Addr.add; split <;> simp_all
      rw [e]
      exact hr j hj2
theorem wpList_appendW {P : Program} {ops : Array Oper} {rest : List Oper} {o : Oper} {a : Act} {w : World} {Q : Exit → Act → World → Prop} (hgd : o.guard = none) (s x : Operand) (t : TypeId)
    (ho : o.op = .call { callee := .builtin .append, args := #[s, x], argTypes := #[t, t] }) (e : TypeId) (ht : P.underlying t = some (.slice e)) (hi : (P.info? e).map (fun i => (i.zero, i.size, i.bytes)) = some (some (.int .i64 0), 1, 8))
    (B : Nat) (v v2 : Value) (xs ys : List Int) (hs : a.eval s = v) (hx : a.eval x = v2) (hown : own e w B v xs) (hr : reads w v2 ys) (hlen : xs.length + ys.length ≤ 1000000000) (hB : B ≤ w.heap.size)
    (h : ∀ v' w', own e w' B v' (xs ++ ys) → w.grownBy w' v.ownBlock → Below B w w' → (∀ k, v'.ownBlock = some k → v.ownBlock = some k ∨ w.heap.size ≤ k) → wpList P ops Q rest (a.put o.dst v') w') : wpList P ops Q (o :: rest) a w :=
  wpList_plain hgd fun _ hK => wp_appendW s x t ho e ht hi B v v2 xs ys hs hx hown hr hlen hB fun v' w' h1 h2 h3 h4 => hK _ _ (h v' w' h1 h2 h3 h4)
/-- the same as one step of a region that draws its order -/
theorem step_appendW {P : Program} {ops : Array Oper} {o : Oper} {a : Act} {w : World} {K : Act → World → Prop} {Q : Exit → Act → World → Prop} {F : Prop} (hgd : o.guard = none) (s x : Operand) (t : TypeId)
    (ho : o.op = .call { callee := .builtin .append, args := #[s, x], argTypes := #[t, t] }) (e : TypeId) (ht : P.underlying t = some (.slice e)) (hi : (P.info? e).map (fun i => (i.zero, i.size, i.bytes)) = some (some (.int .i64 0), 1, 8))
    (B : Nat) (v v2 : Value) (xs ys : List Int) (hs : a.eval s = v) (hx : a.eval x = v2) (hown : own e w B v xs) (hr : reads w v2 ys) (hlen : xs.length + ys.length ≤ 1000000000) (hB : B ≤ w.heap.size)
    (h : ∀ v' w', own e w' B v' (xs ++ ys) → w.grownBy w' v.ownBlock → Below B w w' → (∀ k, v'.ownBlock = some k → v.ownBlock = some k ∨ w.heap.size ≤ k) → K (a.put o.dst v') w') : if Region.wanted o (yielded ops a.tmps) = true then Oper.wp P o a w K Q else F := by
  rw [if_pos (by simp [Region.wanted, hgd])]
  exact wp_appendW s x t ho e ht hi B v v2 xs ys hs hx hown hr hlen hB h
end Go.Proofs.Ytikakoclmmmjdaa
namespace Go.Proofs.Ytikakoclmmmjdaa
open Go.RowKit
set_option linter.unusedVariables false
set_option linter.unusedSimpArgs false
/-- a row of a list -/
def rowOf (M : List (List Int)) (i : Nat) : List Int := M.getD i []
def slot (vs : List Value) (i : Nat) : Value := vs.getD i undef
/-- a table of the call's own -/
def tab (E e : TypeId) (w : World) (B : Nat) (v : Value) (M : List (List Int)) : Prop :=
  ∃ vs : List Value, vs.length = M.length ∧ w.ownsRow B E 1 v M.length vs ∧ (∀ i, i < M.length → own e w B (slot vs i) (rowOf M i)) ∧ (∀ i j, i < M.length → j < M.length → i ≠ j → ∀ k, (slot vs i).ownBlock = some k → (slot vs j).ownBlock ≠ some k)
theorem slot_get {vs : List Value} {i : Nat} (h : i < vs.length) : vs[i]? = some (slot vs i) := by simp [slot, h]
theorem own_block {e : TypeId} {w : World} {B : Nat} {v : Value} {xs : List Int} (h : own e w B v xs) {k : Nat} (hk : v.ownBlock = some k) : ∃ cur, w.heap[k]? = some (.cells cur e (0, 0)) := by
  rcases h.2 with ⟨h1, _⟩ | ⟨g, cap, cur, hv, hg, hh, _⟩
  · rw [h1] at hk; simp [Value.ownBlock] at hk
  · rw [hv] at hk
    have : g = k := by simpa [Value.ownBlock] using hk
    subst this
    exact ⟨cur, hh⟩
theorem row_block {e : TypeId} {w : World} {B n s : Nat} {v : Value} {xs : List Value} (h : w.ownsRow B e s v n xs) {k : Nat} (hk : v.ownBlock = some k) : ∃ cur, w.heap[k]? = some (.cells cur e (0, 0)) := by
  rcases h.2 with ⟨h1, _⟩ | ⟨g, cap, cur, hv, hg, hh, _⟩
  · rw [h1] at hk; simp [Value.ownBlock] at hk
  · rw [hv] at hk
    have : g = k := by simpa [Value.ownBlock] using hk
    subst this
    exact ⟨cur, hh⟩
theorem block_ne {w : World} {E e : TypeId} (hE : E ≠ e) {k l : Nat} {c d : Array Value} (h : w.heap[k]? = some (.cells c E (0, 0))) (h' : w.heap[l]? = some (.cells d e (0, 0))) : k ≠ l := by
  rintro rfl
  rw [h] at h'
  simp only [Option.some.injEq, Obj.cells.injEq] at h'
  exact hE h'.2.1
theorem tab_nil (E e : TypeId) (w : World) (B : Nat) : tab E e w B (.slice none 0 0) [] := ⟨[], rfl, World.ownsRow_nil w B E 1, fun i hi => (by cases hi), fun i j hi => (by cases hi)⟩
theorem tab_made {E e : TypeId} {w : World} {B b m : Nat} {c : Array Value} (hb : b = w.heap.size) (hB : B ≤ w.heap.size) (hm : m ≤ maxLen) (hc : c.size = m) : tab E e (w.alloc (.cells c E)) B (.slice (some ⟨b, 0, none⟩) 0 m) [] :=
  ⟨[], rfl, hb ▸ World.ownsRow_made (e := E) (size := 1) w c m hB hm (by omega), fun i hi => (by cases hi), fun i j hi => (by cases hi)⟩
theorem tab.mono {E e : TypeId} {w : World} {B B' : Nat} {v : Value} {M : List (List Int)} (h : tab E e w B v M) (hB : B' ≤ B) : tab E e w B' v M := by
  obtain ⟨vs, h1, h2, h3, h4⟩ := h
  refine ⟨vs, h1, ⟨h2.1, ?_⟩, fun i hi => (h3 i hi).mono hB, h4⟩
  rcases h2.2 with h5 | ⟨g, cap, cur, hv, hg, r⟩
  · exact .inl h5
  · exact .inr ⟨g, cap, cur, hv, Nat.le_trans hB hg, r⟩
/-- a block outside the table is written -/
theorem tab.apart {E e : TypeId} {w w' : World} {B : Nat} {v : Value} {M : List (List Int)} {row : Option Nat} (h : tab E e w B v M) (hg : w.grownBy w' row) (hr : ∀ k, row = some k → k < B ∨ w.heap.size ≤ k) : tab E e w' B v M := by
  obtain ⟨vs, h1, h2, h3, h4⟩ := h
  refine ⟨vs, h1, h2.kept hg ?_, fun i hi => (h3 i hi).apart hg fun k hk e => ?_, h4⟩
  · cases hv : v.ownBlock with
    | none => exact .inl rfl
    | some k => exact .inr fun e => by have := h2.lt k hv; have := hr k e.symm; omega
  · have := (h3 i hi).lt k hk; have := hr k e; omega
theorem tab.kept {E e : TypeId} {w w' : World} {B : Nat} {v : Value} {M : List (List Int)} (h : tab E e w B v M) (hb : Below w.heap.size w w') : tab E e w' B v M :=
  h.apart (row := none) ⟨hb.os, hb.tape, hb.output, hb.size, fun k hk _ => hb.block k hk⟩ (fun k hk => by cases hk)
/-- what lies below the table is written, and more is made -/
theorem tab.len {E e : TypeId} {w : World} {B : Nat} {v : Value} {M : List (List Int)} (h : tab E e w B v M) : ∃ a c, v = .slice a M.length c := by
  obtain ⟨vs, h1, h2, h3, h4⟩ := h
  rcases h2.2 with ⟨rfl, hn⟩ | ⟨g, cap, cur, rfl, _⟩
  · exact ⟨none, 0, by rw [hn]⟩
  · exact ⟨_, cap, rfl⟩
/-- a row of a table: where it lies -/
theorem tab.row {E e : TypeId} {w : World} {B : Nat} {v : Value} {M : List (List Int)} (h : tab E e w B v M) {i : Nat} (hi : i < M.length) :
    ∃ g c rv, v = .slice (some ⟨g, 0, none⟩) M.length c ∧ g < w.heap.size ∧ w.cell? ⟨g, i, none⟩ = some rv ∧ own e w B rv (rowOf M i) := by
  obtain ⟨vs, h1, h2, h3, h4⟩ := h
  rcases h2.2 with ⟨rfl, hn⟩ | ⟨g, cap, cur, rfl, hg, hh, _⟩
  · omega
  · refine ⟨g, cap, slot vs i, rfl, (h2.lt g rfl).2, ?_, h3 i hi⟩
    have := World.ownsRow.cells h2 (g := g) rfl i (slot vs i) (slot_get (by omega))
    have e : (⟨g, 0, none⟩ : Addr).add i = ⟨g, 0 + i, none⟩ := by unfold Addr.add; split <;> simp_all
    rw [e, Nat.zero_add] at this
    exact this
theorem rowOf_set_same {M : List (List Int)} {i : Nat} {r : List Int} (hi : i < M.length) : rowOf (M.set i r) i = r := by simp [rowOf, hi]
theorem rowOf_set_other {M : List (List Int)} {i j : Nat} {r : List Int} (hij : i ≠ j) : rowOf (M.set i r) j = rowOf M j := by simp [rowOf, hij]
/-- a row of a table is written as a whole -/
theorem tab.wrote {E e : TypeId} {w : World} {B : Nat} {v : Value} {M : List (List Int)} (hE : E ≠ e) (h : tab E e w B v M) {i : Nat} (hi : i < M.length) :
    ∃ g c rv, v = .slice (some ⟨g, 0, none⟩) M.length c ∧ g < w.heap.size ∧ w.cell? ⟨g, i, none⟩ = some rv ∧ own e w B rv (rowOf M i) ∧ ∀ w' r, w.grownBy w' rv.ownBlock → own e w' B rv r → tab E e w' B v (M.set i r) := by
  obtain ⟨vs, h1, h2, h3, h4⟩ := h
  have hcell : ∃ g c, v = .slice (some ⟨g, 0, none⟩) M.length c ∧ g < w.heap.size ∧ w.cell? ⟨g, i, none⟩ = some (slot vs i) := by
    rcases h2.2 with ⟨rfl, hn⟩ | ⟨g, cap, cur, rfl, hg, hh, _⟩
    · omega
    · refine ⟨g, cap, rfl, (h2.lt g rfl).2, ?_⟩
      have := World.ownsRow.cells h2 (g := g) rfl i (slot vs i) (slot_get (by omega))
      have e : (⟨g, 0, none⟩ : Addr).add i = ⟨g, 0 + i, none⟩ := by unfold Addr.add; split <;> simp_all
      rw [e, Nat.zero_add] at this
      exact this
  obtain ⟨g, c, hv, hg, hc⟩ := hcell
  refine ⟨g, c, slot vs i, hv, hg, hc, h3 i hi, fun w' r hgr hr => ⟨vs, by rw [List.length_set]; exact h1, ?_, fun j hj => ?_, fun a b ha hb => h4 a b (by rwa [List.length_set] at ha) (by rwa [List.length_set] at hb)⟩⟩
  · rw [List.length_set]
    refine h2.kept hgr ?_
    cases hvo : v.ownBlock with
    | none => exact .inl rfl
    | some k =>
      refine .inr fun e => ?_
      obtain ⟨c1, hk⟩ := row_block h2 hvo
      obtain ⟨c2, hk2⟩ := own_block (h3 i hi) e.symm
      exact block_ne hE hk hk2 rfl
  · rw [List.length_set] at hj
    by_cases hij : i = j
    · subst hij
      rw [rowOf_set_same hi]
      exact hr
    · rw [rowOf_set_other hij]
      exact (h3 j hj).apart hgr fun k hk e => h4 i j hi hj hij k e hk
/-- a row is put behind a table -/
theorem tab.push {E e : TypeId} {w w' : World} {B : Nat} {v v' rv : Value} {M : List (List Int)} {r : List Int} (hE : E ≠ e) (h : tab E e w B v M) (hr : own e w B rv r) (hnew : ∀ vs : List Value, w.ownsRow B E 1 v M.length vs → w'.ownsRow B E 1 v' (M.length + 1) (vs ++ [rv]))
    (hgr : w.grownBy w' v.ownBlock) (hfar : ∀ vs : List Value, w.ownsRow B E 1 v M.length vs → ∀ i, i < M.length → ∀ k, (slot vs i).ownBlock = some k → rv.ownBlock ≠ some k) : tab E e w' B v' (M ++ [r]) := by
  obtain ⟨vs, h1, h2, h3, h4⟩ := h
  have hf := hfar vs h2
  have s1 : ∀ i, i < M.length → slot (vs ++ [rv]) i = slot vs i := fun i hi => by simp [slot, List.getElem?_append_left (show i < vs.length by omega)]
  have s2 : slot (vs ++ [rv]) M.length = rv := by rw [← h1]; simp [slot]
  have r1 : ∀ i, i < M.length → rowOf (M ++ [r]) i = rowOf M i := fun i hi => by simp [rowOf, List.getElem?_append_left hi]
  have r2 : rowOf (M ++ [r]) M.length = r := by simp [rowOf]
  have key : ∀ x y, own e w B x y → own e w' B x y := fun x y hx => hx.apart hgr fun k hk he => by
    obtain ⟨c1, hk1⟩ := row_block h2 he
    obtain ⟨c2, hk2⟩ := own_block hx hk
    exact block_ne hE hk1 hk2 rfl
  refine ⟨vs ++ [rv], by simp [h1], by simpa using hnew vs h2, fun i hi => ?_, fun i j hi hj hij => ?_⟩
  · rw [List.length_append, List.length_singleton] at hi
    by_cases e : i = M.length
    · subst e
      rw [s2, r2]
      exact key _ _ hr
    · rw [s1 i (by omega), r1 i (by omega)]
      exact key _ _ (h3 i (by omega))
  · rw [List.length_append, List.length_singleton] at hi hj
    intro k hk
    by_cases e : i = M.length
    · subst e
      rw [s2] at hk
      rw [s1 j (by omega)]
      intro hk2
      exact hf j (by omega) k hk2 hk
    · rw [s1 i (by omega)] at hk
      by_cases e2 : j = M.length
      · subst e2
        rw [s2]
        exact hf i (by omega) k hk
      · rw [s1 j (by omega)]
        exact h4 i j (by omega) (by omega) hij k hk
/-- the rows of a table lie below what comes later -/
theorem tab.rows_lt {E e : TypeId} {w : World} {B : Nat} {v : Value} {M : List (List Int)} (h : tab E e w B v M) {vs : List Value} (h2 : w.ownsRow B E 1 v M.length vs) : ∀ i, i < M.length → ∀ k, (slot vs i).ownBlock = some k → B ≤ k ∧ k < w.heap.size := by
  obtain ⟨vs', h1, h2', h3, h4⟩ := h
  have e : vs = vs' := by
    rcases h2.2 with ⟨rfl, hn⟩ | ⟨g, cap, cur, rfl, hg, hh, hn, hm, hs, ht⟩
    · have l1 := h2.1; have l2 := h2'.1
      rw [hn] at l1 l2
      rw [List.eq_nil_of_length_eq_zero (by omega : vs.length = 0), List.eq_nil_of_length_eq_zero (by omega : vs'.length = 0)]
    · rcases h2'.2 with ⟨hv, _⟩ | ⟨g', cap', cur', hv, hg', hh', hn', hm', hs', ht'⟩
      · cases hv
      · cases hv
        rw [hh] at hh'
        cases hh'
        rw [← ht, ← ht']
  subst e
  exact fun i hi k hk => (h3 i hi).lt k hk
/-- append of a row that lies alone in the block that was made last -/
theorem wpList_appendT {P : Program} {ops : Array Oper} {rest : List Oper} {o : Oper} {a : Act} {w : World} {Q : Exit → Act → World → Prop} (hgd : o.guard = none) (s x : Operand) (t : TypeId)
    (ho : o.op = .call { callee := .builtin .append, args := #[s, x], argTypes := #[t, t] }) (E e : TypeId) (ht : P.underlying t = some (.slice E)) (hi : (P.info? E).map (fun i => (i.zero, i.size, i.bytes)) = some (some (.slice none 0 0), 1, 24)) (hE : E ≠ e)
    (B : Nat) (v : Value) (M : List (List Int)) (hs : a.eval s = v) (b : Nat) (hx : a.eval x = .slice (some ⟨b, 0, none⟩) 1 1) (rv : Value) (r : List Int) (hu : w.cell? ⟨b, 0, none⟩ = some rv)
    (hown : tab E e w B v M) (hr : own e w B rv r) (hfar : ∀ k, rv.ownBlock = some k → ∀ vs : List Value, w.ownsRow B E 1 v M.length vs → ∀ i, i < M.length → (slot vs i).ownBlock ≠ some k) (hlen : M.length < 1000000000) (hB : B ≤ w.heap.size)
    (h : ∀ v' w', tab E e w' B v' (M ++ [r]) → w.grownBy w' v.ownBlock → Below B w w' → wpList P ops Q rest (a.put o.dst v') w') : wpList P ops Q (o :: rest) a w := by
  obtain ⟨i, h1, h2, h3, h4⟩ := info_parts hi
  obtain ⟨vs, g1, g2, g3, g4⟩ := id hown
  have hone : rv.oneCell' = true := by
    obtain ⟨a', c', he, _⟩ := hr.reads
    rw [he]; rfl
  refine wpList_append_own w hgd s x t ho B E i (.slice none 0 0) 1 24 ht h1 h2 h3 h4 rfl (by decide) v _ _ hs g2 ⟨b, 0, none⟩ 1 1 [rv] hx rfl ?_ ?_ (by unfold maxLen; omega) (by omega) hB ?_
  · intro j y hj
    match j, hj with
    | 0, hj => simp at hj; subst hj; simpa [Addr.add] using hu
  · intro y hy
    simp at hy
    subst hy
    exact hone
  · intro v' w' h5 h6 _
    refine h v' w' (hown.push hE hr ?_ h6 fun vs' hvs i hi k hk hk2 => hfar k hk2 vs' hvs i hi hk) h6 (below_of_grown h6 hB fun k hk => (g2.lt k hk).1)
    intro vs' hvs
    have e : vs' = vs := by
      rcases hvs.2 with ⟨rfl, hn⟩ | ⟨g, cap, cur, rfl, hg, hh, hn, hm, hs, ht⟩
      · have l1 := hvs.1; have l2 := g2.1
        rw [hn] at l1 l2
        rw [List.eq_nil_of_length_eq_zero (by omega : vs'.length = 0), List.eq_nil_of_length_eq_zero (by omega : vs.length = 0)]
      · rcases g2.2 with ⟨hv, _⟩ | ⟨g', cap', cur', hv, hg', hh', hn', hm', hs', ht'⟩
        · cases hv
        · cases hv
          rw [hh] at hh'
          cases hh'
          rw [← ht, ← ht']
    subst e
    exact h5
/-- a table that is only read -/
def readsT (w : World) (v : Value) (M : List (List Int)) : Prop :=
  ∃ a cap, v = .slice a M.length cap ∧ (M = [] ∨ ∃ b o, a = some ⟨b, o, none⟩ ∧ b < w.heap.size ∧ ∀ i, i < M.length → ∃ rv, w.cell? ⟨b, o + i, none⟩ = some rv ∧ reads w rv (rowOf M i))
theorem tab.reads {E e : TypeId} {w : World} {B : Nat} {v : Value} {M : List (List Int)} (h : tab E e w B v M) : readsT w v M := by
  cases M with
  | nil => obtain ⟨a, c, rfl⟩ := h.len; exact ⟨a, c, rfl, .inl rfl⟩
  | cons r M =>
    obtain ⟨g, c, rv, hv, hg, _, _⟩ := h.row (i := 0) (by simp)
    refine ⟨_, c, hv, .inr ⟨g, 0, rfl, hg, fun i hi => ?_⟩⟩
    obtain ⟨g', c', rv', hv', hg', hc', ho⟩ := h.row hi
    rw [hv] at hv'
    cases hv'
    exact ⟨rv', by rw [Nat.zero_add]; exact hc', ho.reads⟩
theorem readsT.kept {w w' : World} {v : Value} {M : List (List Int)} (h : readsT w v M) (hb : Below w.heap.size w w') : readsT w' v M := by
  obtain ⟨a, cap, hv, h⟩ := h
  refine ⟨a, cap, hv, ?_⟩
  rcases h with h | ⟨b, o, ha, hl, hc⟩
  · exact .inl h
  · refine .inr ⟨b, o, ha, Nat.lt_of_lt_of_le hl hb.size, fun i hi => ?_⟩
    obtain ⟨rv, h1, h2⟩ := hc i hi
    exact ⟨rv, by rw [hb.cell (p := ⟨b, o + i, none⟩) hl]; exact h1, h2.kept hb⟩
end Go.Proofs.Ytikakoclmmmjdaa
namespace Go.Proofs.Ytikakoclmmmjdaa
open Go.ChangeShapes Go.WideShapes Go.ChangeAt Go.RowKit
set_option linter.unusedVariables false
set_option linter.unusedSimpArgs false
/-- the slice v reads as n arrays s 0, s 1, .. -/
def readsA (w : World) (v : Value) (n : Nat) (s : Nat → Nat → Nat) : Prop :=
  ∃ a cap, v = .slice a n cap ∧ (n = 0 ∨ ∃ b o, a = some ⟨b, o, none⟩ ∧ ∀ i, i < n → ∀ k, k < 8 → w.cell? ⟨b, o + i * 8 + k, none⟩ = some (.int .u8 (s i k : Int)))
theorem readsA.kept {w w' : World} {v : Value} {n : Nat} {s : Nat → Nat → Nat} (h : readsA w v n s) (hb : Below w.heap.size w w') : readsA w' v n s := by
  obtain ⟨a, cap, hv, h⟩ := h
  refine ⟨a, cap, hv, ?_⟩
  rcases h with h | ⟨b, o, ha, hc⟩
  · exact .inl h
  · refine .inr ⟨b, o, ha, fun i hi k hk => ?_⟩
    have h1 := hc i hi k hk
    rw [hb.cell (p := ⟨b, o + i * 8 + k, none⟩) (World.block_lt_of_cell? w _ h1)]
    exact h1
section
variable {H : Type} {enc : TypeId × Value → H} {P : Program} {w : World} {base : Nat} {spare : Nat → Bool} {held : Bool}
/-- eight cells that read as an array of bytes -/
theorem open_cells8 {t e : TypeId} {fuel : Nat} {cs : List Value} {x : DataW H × List MemPlace} (ht : P.underlying t = some (.array 8 e)) (he : P.underlying e = some (.int .u8)) (hc : P.cellsOf e = 1) (hC : P.cellsOf t = 8)
    (hf : DataW.trod enc P w base spare held fuel t cs = some x) : ∃ s : Nat → Nat, ∀ k, k < 8 → cs[k]? = some (.int .u8 (s k : Int)) ∧ s k < 256 := by
  obtain ⟨xs, m, _, _, hsz, hl, hi⟩ := DataW.trod_array ht hf
  rw [hC] at hsz
  have key : ∀ i, i < 8 → ∃ n : Nat, cs[i]? = some (.int .u8 n) ∧ n < 256 := by
    intro i h8
    have h1 := hi i h8
    rw [hc, Nat.mul_one, List.getElem?_eq_getElem (by omega)] at h1
    obtain ⟨n, hn, _, hw⟩ := DataW.trod_int he h1
    have hb := bounds_u8 hw
    refine ⟨n.toNat, ?_, by omega⟩
    have h3 : ((cs.drop i).take 1)[0]? = some (.int .u8 n) := by rw [hn]; rfl
    rw [List.getElem?_take_of_lt (by omega), List.getElem?_drop] at h3
    rw [show ((n.toNat : Nat) : Int) = n by omega]
    simpa using h3
  refine ⟨fun i => if h : i < 8 then (key i h).choose else 0, fun i h8 => ?_⟩
  simp only [h8, dif_pos]
  exact (key i h8).choose_spec
theorem open_arrs {t e q : TypeId} {fuel : Nat} {cs : List Value} {x : DataW H × List MemPlace} (ht : P.underlying t = some (.slice e)) (he : P.underlying e = some (.array 8 q)) (hq : P.underlying q = some (.int .u8)) (hc : P.cellsOf q = 1) (hC : P.cellsOf e = 8)
    (hf : DataW.trod enc P w base spare held fuel t cs = some x) : ∃ v n s, cs = [v] ∧ readsA w v n s ∧ (∀ i, i < n → ∀ k, k < 8 → s i k < 256) ∧ n ≤ 9223372036854775807 := by
  rcases Go.Deep.open_slice ht hf with ⟨hcs, _⟩ | ⟨a, len, cap, m, n, D, Pl, hcs, _, hl, hm, hmm, _, hx⟩
  · exact ⟨_, 0, fun _ _ => 0, hcs, ⟨none, 0, rfl, .inl rfl⟩, fun i hi => by omega, by omega⟩
  · have hlm : len ≤ m := by rw [hmm]; split <;> omega
    have each : ∀ i, ∃ s : Nat → Nat, i < len → ∀ k, k < 8 → w.cell? ((a.add (i * 8)).add k) = some (.int .u8 (s k : Int)) ∧ s k < 256 := by
      intro i
      by_cases hi : i < len
      · obtain ⟨cs', h1, h2⟩ := hx i (by omega)
        rw [hC] at h1
        obtain ⟨_, hlen, hcell⟩ := World.cells?_some h1
        obtain ⟨s, hs⟩ := open_cells8 he hq hc hC h2
        exact ⟨s, fun _ k hk => ⟨by rw [hcell k hk]; exact (hs k hk).1, (hs k hk).2⟩⟩
      · exact ⟨fun _ => 0, fun h => absurd h hi⟩
    obtain ⟨S, hS⟩ : ∃ S : Nat → Nat → Nat, ∀ i, i < len → ∀ k, k < 8 → w.cell? ((a.add (i * 8)).add k) = some (.int .u8 (S i k : Int)) ∧ S i k < 256 := ⟨fun i => (each i).choose, fun i => (each i).choose_spec⟩
    clear each
    refine ⟨_, len, S, hcs, ⟨some a, cap, rfl, ?_⟩, fun i hi k hk => (hS i hi k hk).2, by unfold maxLen at hm; omega⟩
    by_cases h0 : len = 0
    · exact .inl h0
    · obtain ⟨b, off, spot⟩ := a
      have h8 := (hS 0 (by omega) 0 (by omega)).1
      have hspot : spot = none := by
        have := World.cell?_spot h8
        simpa [Addr.add] using this
      subst hspot
      refine .inr ⟨b, off, rfl, fun i hi k hk => ?_⟩
      have := (hS i hi k hk).1
      rw [Go.WideShapes.add_plain, Go.WideShapes.add_plain] at this
      exact this
/-- an argument that is a struct of two numbers and a slice of arrays -/
theorem open_nf {r : Reach} {b0 : Nat} {t e q : TypeId} {f0 f1 f2 : Field} {v : Value} {d : DataW H} {p : List MemPlace} (ht : P.underlying t = some (.struct #[f0, f1, f2])) (o0 : f0.offset = 0) (o1 : f1.offset = 1) (o2 : f2.offset = 2)
    (h0 : P.underlying f0.type = some (.int .i64)) (c0 : P.cellsOf f0.type = 1) (h1 : P.underlying f1.type = some (.int .i64)) (c1 : P.cellsOf f1.type = 1) (h2 : P.underlying f2.type = some (.slice e)) (c2 : P.cellsOf f2.type = 1)
    (he : P.underlying e = some (.array 8 q)) (hq : P.underlying q = some (.int .u8)) (hc : P.cellsOf q = 1) (hE : P.cellsOf e = 8) (hC : P.cellsOf t = 3)
    (hv : Value.okWide P w r b0 t v) (h : DataW.Trod enc P w base spare held t v d p) : ∃ n k v' m s, v = .agg #[.int .i64 n, .int .i64 k, v'] ∧ readsA w v' m s ∧ (∀ i, i < m → ∀ k, k < 8 → s i k < 256) ∧ m ≤ 9223372036854775807 := by
  obtain ⟨cs, rfl, hsz⟩ := okWide_struct ht hv
  obtain ⟨fuel, hf⟩ := h
  obtain ⟨y0, y1, y2, m, _, hl, e0, e1, e2⟩ := Go.Deep.trod_struct3 ht hf
  rw [o0, c0] at e0
  rw [o1, c1] at e1
  rw [o2, c2] at e2
  obtain ⟨n, hn, _, _⟩ := DataW.trod_int h0 e0
  obtain ⟨k, hk, _, _⟩ := DataW.trod_int h1 e1
  obtain ⟨v', len, s, hcs, r1, r2, r3⟩ := open_arrs h2 he hq hc hE e2
  refine ⟨n, k, v', len, s, ?_, r1, r2, r3⟩
  have hcl : (Value.agg cs).cells.toList = cs.toList := rfl
  rw [hcl] at hn hk hcs
  rw [hC] at hsz
  have hlen : cs.toList.length = 3 := by simpa using hsz
  congr 1
  match hl2 : cs.toList, hlen with
  | [u0, u1, u2], _ =>
    rw [hl2] at hn hk hcs
    simp at hn hk hcs
    apply Array.ext'
    rw [hl2, hn, hk, hcs]
end
/-- one array of a slice of arrays is read -/
theorem run_loadVar_sub {P : Program} (w : World) (b o : Nat) (ty e : TypeId) (s : Nat → Nat) (hu : P.underlying ty = some (.array 8 e)) (hi : (P.info? ty).map (·.size) = some 8)
    (hc : ∀ k, k < 8 → w.cell? ⟨b, o + k, none⟩ = some (.int .u8 (s k : Int))) : (loadVar ty ⟨b, o, none⟩).run P w = .ok (.agg (arrF .u8 8 (up s))) w := by
  have hl : (loadCells ⟨b, o, none⟩ (arrF .u8 8 (up s)).toList.length).run P w = .ok (arrF .u8 8 (up s)).toList.toArray w :=
    run_loadCells_list (P := P) w ⟨b, o, none⟩ (arrF .u8 8 (up s)).toList (fun j v hv => by
      have hj : j < 8 := by
        rcases Nat.lt_or_ge j 8 with h | h
        · exact h
        · rw [List.getElem?_eq_none (by rw [Array.length_toList, arrF_size]; exact h)] at hv; cases hv
      rw [Go.WideShapes.add_plain, hc j hj]
      rw [Array.getElem?_toList, arrF_get _ _ _ _ hj] at hv
      rw [← hv]; rfl)
  cases hq : P.info? ty with
  | none => simp [hq] at hi
  | some i =>
    have hs : i.size = 8 := by simpa [hq] using hi
    have hagg : (isAgg ty).run P w = .ok true w := by
      unfold isAgg
      rw [Sem.run_bind, run_underlying hu w]
      rfl
    simp only [Array.length_toList, Array.toArray_toList, arrF_size] at hl
    simp [loadVar, Sem.run_bind, hagg, sizeOf, typeInfo, hq, hs, hl]
theorem wpList_load_sub {P : Program} {ops : Array Oper} {rest : List Oper} {o : Oper} {a : Act} {w : World} {Q : Exit → Act → World → Prop} (hgd : o.guard = none) (ty e : TypeId) (x : Operand) (ho : o.op = .load ty x)
    (b off : Nat) (hx : a.eval x = .pointer (some ⟨b, off, none⟩)) (s : Nat → Nat) (hu : P.underlying ty = some (.array 8 e)) (hi : (P.info? ty).map (·.size) = some 8)
    (hc : ∀ k, k < 8 → w.cell? ⟨b, off + k, none⟩ = some (.int .u8 (s k : Int)))
    (h : wpList P ops Q rest (a.put o.dst (.agg (arrF .u8 8 (up s)))) w) : wpList P ops Q (o :: rest) a w :=
  wpList_plain hgd fun _ hK => by
    unfold Oper.wp execOp
    simp only [ho, hx, Instr.loadAt, Instr.sureAddr, Sem.run_bind, Sem.run_pure, Result.andThen_ok, run_loadVar_sub w b off ty e s hu hi hc]
    exact hK _ _ h
/-- an array is stored into a slice of arrays: the block's cells behind it -/
def putA (old : Array Value) (off : Nat) (cells : Array Value) : Array Value := (old.toList.take off ++ cells.toList ++ old.toList.drop (off + cells.size)).toArray
theorem putA_size {old cells : Array Value} {off : Nat} (h : off + cells.size ≤ old.size) : (putA old off cells).size = old.size := by
  simp [putA]; omega
theorem putA_get {old cells : Array Value} {off j : Nat} (h : off + cells.size ≤ old.size) : (putA old off cells)[j]? = if off ≤ j ∧ j < off + cells.size then cells[j - off]? else old[j]? := by
  simp only [putA, List.getElem?_toArray, List.getElem?_append, List.length_append, List.length_take, Array.length_toList, List.getElem?_take, Array.getElem?_toList, List.getElem?_drop]
  have e : min off old.size = off := by omega
  rw [e]
  by_cases h1 : j < off
  · have h2 : ¬ (off ≤ j ∧ j < off + cells.size) := by omega
    have h3 : j < off + cells.size := by omega
    have h4 : ¬ off ≤ j := by omega
    simp [h1, h4, h3]
  · by_cases h2 : j < off + cells.size
    · have h3 : off ≤ j ∧ j < off + cells.size := by omega
      simp [h1, h2, h3]
    · have h3 : ¬ (off ≤ j ∧ j < off + cells.size) := by omega
      simp only [h1, h2, h3, if_false]
      have e3 : off + cells.size + (j - (off + cells.size)) = j := by omega
      have e4 : off + cells.toList.length = off + cells.size := by simp
      simp [h1, h2, e3]
theorem run_storeVar_sub {P : Program} (w : World) (g off : Nat) (t ty : TypeId) (old cells : Array Value) (hg : w.heap[g]? = some (.cells old t (0, 0))) (hi : (P.info? ty).map (·.size) = some cells.size)
    (ho : off + cells.size ≤ old.size) (h1 : cells.all (·.oneCell') = true) : (storeVar ty ⟨g, off, none⟩ (.agg cells)).run P w = .ok () (w.setRow g (putA old off cells)) := by
  have := run_storeCells_at (P := P) g off t cells.toList 0 old w hg (by simpa using ho) (fun v hv => (Array.all_eq_true_iff_forall_mem.1 h1) v (by simpa using hv))
  simp only [Nat.add_zero, Array.length_toList] at this
  cases hq : P.info? ty with
  | none => simp [hq] at hi
  | some i =>
    have hs : cells.size = i.size := by simp [hq] at hi; omega
    simp [storeVar, sizeOf, typeInfo, hq, Value.cells, hs]
    exact this
theorem wpList_store_sub {P : Program} {ops : Array Oper} {rest : List Oper} {o : Oper} {a : Act} {w : World} {Q : Exit → Act → World → Prop} (hgd : o.guard = none) (hdst : o.dst = none) (ty : TypeId) (x y : Operand) (ho : o.op = .store ty x y)
    (g off : Nat) (hx : a.eval x = .pointer (some ⟨g, off, none⟩)) (cells : Array Value) (hy : a.eval y = .agg cells) (old : Array Value) (t : TypeId) (hg : w.heap[g]? = some (.cells old t (0, 0)))
    (hi : (P.info? ty).map (·.size) = some cells.size) (hs : off + cells.size ≤ old.size) (h1 : cells.all (·.oneCell') = true)
    (h : wpList P ops Q rest a (w.setRow g (putA old off cells))) : wpList P ops Q (o :: rest) a w :=
  wpList_plain hgd fun _ hK => by
    unfold Oper.wp execOp
    simp only [ho, hx, hy, Instr.storeAt, Instr.sureAddr, Sem.run_bind, Sem.run_pure, Result.andThen_ok, run_storeVar_sub w g off t ty old cells hg hi hs h1]
    refine hK _ _ ?_
    rw [hdst]; exact h
/-- a slice of arrays is made -/
theorem wpList_make_arrs {P : Program} (w : World) {ops : Array Oper} {rest : List Oper} {o : Oper} {a : Act} {Q : Exit → Act → World → Prop} (hg : o.guard = none) (l c : Operand) (t : TypeId) (hop : o.op = Op.makeSlice t l c)
    (e : TypeId) (h1 : P.underlying t = some (.slice e)) (z : Value) (hi : (P.info? e).map (fun i => (i.zero, i.size, i.bytes)) = some (some z, 8, 8)) (n : Nat) (hl : a.eval l = .int .i64 n) (hc : a.eval c = .int .i64 n) (hn : n ≤ 1000000000)
    (hK : ∀ w' cur, w'.heap[w.heap.size]? = some (.cells cur e (0, 0)) → cur.size = n * 8 → Below w.heap.size w w' → wpList P ops Q rest (a.put o.dst (.slice (some ⟨w.heap.size, 0, none⟩) n n)) w') : wpList P ops Q (o :: rest) a w := by
  obtain ⟨i, g1, g2, g3, g4⟩ : ∃ i, P.info? e = some i ∧ i.zero = some z ∧ i.size = 8 ∧ i.bytes = 8 := by
    cases hq : P.info? e with
    | none => simp [hq] at hi
    | some i => simp [hq] at hi; exact ⟨i, rfl, hi.1, hi.2.1, hi.2.2⟩
  refine wpList_make_full w hg l c t hop w.heap.size e i z 8 h1 g1 g2 g3 .i64 .i64 n n n hl hc rfl rfl (by rw [g4]; omega) (by unfold maxLen; omega) (Nat.le_refl _) fun w' r1 r2 => ?_
  rcases r1.2 with ⟨h, _⟩ | ⟨g, cap, cur, hv, hb, hh, _, _, hs, _⟩
  · cases h
  · simp only [Value.slice.injEq, Option.some.injEq, Addr.mk.injEq] at hv
    obtain ⟨⟨hg', _⟩, _, hcap⟩ := hv
    subst hcap
    rw [← hg'] at hh
    exact hK w' cur hh hs (below_of_grown r2 (Nat.le_refl _) fun k hk => by cases hk)
/-- a block of n arrays, of which the first k are s 0, .. -/
def ownP (e : TypeId) (w : World) (g n : Nat) (s : Nat → Nat → Nat) (k : Nat) : Prop :=
  ∃ cur, w.heap[g]? = some (.cells cur e (0, 0)) ∧ cur.size = n * 8 ∧ ∀ i, i < k → ∀ c, c < 8 → cur[i * 8 + c]? = some (.int .u8 (s i c : Int))
theorem ownP.lt {e : TypeId} {w : World} {g n k : Nat} {s : Nat → Nat → Nat} (h : ownP e w g n s k) : g < w.heap.size := by
  obtain ⟨cur, h1, _⟩ := h
  rcases Nat.lt_or_ge g w.heap.size with h | h
  · exact h
  · rw [Array.getElem?_eq_none h] at h1; cases h1
theorem ownP.same {e : TypeId} {w w' : World} {g n k : Nat} {s : Nat → Nat → Nat} (h : ownP e w g n s k) (hb : w'.heap[g]? = w.heap[g]?) : ownP e w' g n s k := by
  obtain ⟨cur, h1, h2⟩ := h
  exact ⟨cur, hb.trans h1, h2⟩
theorem ownP.kept {e : TypeId} {w w' : World} {g n k : Nat} {s : Nat → Nat → Nat} (h : ownP e w g n s k) (hb : Below w.heap.size w w') : ownP e w' g n s k :=
  h.same (hb.block g h.lt)
theorem ownP.zero {e : TypeId} {w : World} {g n : Nat} {s : Nat → Nat → Nat} {cur : Array Value} (h : w.heap[g]? = some (.cells cur e (0, 0))) (hs : cur.size = n * 8) : ownP e w g n s 0 :=
  ⟨cur, h, hs, fun i hi => by omega⟩
theorem ownP.put {e : TypeId} {w : World} {g n k : Nat} {s : Nat → Nat → Nat} {old : Array Value} (h : w.heap[g]? = some (.cells old e (0, 0))) (hs : old.size = n * 8) (hk : k < n) (ho : ∀ i, i < k → ∀ c, c < 8 → old[i * 8 + c]? = some (.int .u8 (s i c : Int))) :
    ownP e (w.setRow g (putA old (k * 8) (arrF .u8 8 (up (s k))))) g n s (k + 1) := by
  have hp : k * 8 + (arrF .u8 8 (up (s k))).size ≤ old.size := by rw [arrF_size]; omega
  refine ⟨_, setRow_heap w g old _ e (0, 0) h, by rw [putA_size hp, hs], fun i hi c hc => ?_⟩
  rw [putA_get hp, arrF_size]
  by_cases e1 : i = k
  · subst e1
    rw [if_pos (by omega), show i * 8 + c - i * 8 = c by omega, arrF_get _ _ _ _ hc]
    rfl
  · rw [if_neg (by omega)]
    exact ho i (by omega) c hc
theorem ownP.reads {e : TypeId} {w : World} {g n c : Nat} {s : Nat → Nat → Nat} (h : ownP e w g n s n) : readsA w (.slice (some ⟨g, 0, none⟩) n c) n s := by
  obtain ⟨cur, h1, h2, h3⟩ := h
  refine ⟨_, c, rfl, .inr ⟨g, 0, rfl, fun i hi k hk => ?_⟩⟩
  rw [Nat.zero_add]
  simp only [World.cell?, h1]
  exact h3 i hi k hk
theorem ownP_swap {e : TypeId} {X Y : World} {g n k d d' : Nat} {j : List Obj} {s : Nat → Nat → Nat} (hs : X.heap.size = Y.heap.size) (hB : X.heap.size ≤ g) (h : ownP e (plus X j d) g n s k) : ownP e (plus Y j d') g n s k := by
  refine h.same ?_
  show (Y.heap ++ j.toArray)[g]? = (X.heap ++ j.toArray)[g]?
  rw [Array.getElem?_append_right (by omega), Array.getElem?_append_right (by omega), hs]
/-- a normal form in memory of its own is handed back -/
def RetN (e : TypeId) (w : World) (n z : Int) (m : Nat) (s : Nat → Nat → Nat) : Ending → World → Prop := fun en w' => ∃ g, en = .returned (.agg #[.int .i64 n, .int .i64 z, .slice (some ⟨g, 0, none⟩) m m]) ∧ w.heap.size ≤ g ∧ ownP e w' g m s m ∧ Below w.heap.size w w'
theorem below_setRow (w : World) (B g : Nat) (c : Array Value) (h : B ≤ g) : Below B w (w.setRow g c) :=
  ⟨rfl, rfl, rfl, by simp, fun k hk => setRow_other w g k c (by omega)⟩
end Go.Proofs.Ytikakoclmmmjdaa
namespace Go.Proofs.Ytikakoclmmmjdaa
open Go.RowKit
set_option linter.unusedVariables false
set_option linter.unusedSimpArgs false
abbrev Pol := Int × List Int
abbrev Cont := World → Value → List Int → Prop
def lcells (qs : List (Int × Value)) : List Value := qs.flatMap fun q => [.int .i64 q.1, q.2]
def qAt (qs : List (Int × Value)) (i : Nat) : Int × Value := qs.getD i (0, .slice none 0 0)
def pAt (ps : List Pol) (i : Nat) : Pol := ps.getD i (0, [])
def prow (M : List (List Pol)) (i : Nat) : List Pol := M.getD i []
def qCell (q : Int × Value) (j : Nat) : Value := if j = 0 then .int .i64 q.1 else q.2
theorem lcells_length (qs : List (Int × Value)) : (lcells qs).length = 2 * qs.length := by
  induction qs with
  | nil => rfl
  | cons q qs ih => simp [lcells] at ih ⊢; omega
theorem lcells_append (xs ys : List (Int × Value)) : lcells (xs ++ ys) = lcells xs ++ lcells ys := by simp [lcells]
theorem lcells_at {qs : List (Int × Value)} {i j : Nat} (hi : i < qs.length) (hj : j < 2) : (lcells qs)[2 * i + j]? = some (qCell (qAt qs i) j) := by
  induction qs generalizing i with
  | nil => cases hi
  | cons q qs ih =>
    have hc : lcells (q :: qs) = [.int .i64 q.1, q.2] ++ lcells qs := rfl
    rw [hc]
    cases i with
    | zero =>
      match j, hj with
      | 0, _ => rfl
      | 1, _ => rfl
    | succ i =>
      rw [List.getElem?_append_right (by simp; omega)]
      have e : 2 * (i + 1) + j - [Value.int .i64 q.1, q.2].length = 2 * i + j := by simp; omega
      rw [e, ih (by simpa using hi)]
      rfl
theorem qAt_set_same {qs : List (Int × Value)} {i : Nat} {q : Int × Value} (h : i < qs.length) : qAt (qs.set i q) i = q := by simp [qAt, h]
theorem qAt_set_other {qs : List (Int × Value)} {i j : Nat} {q : Int × Value} (h : i ≠ j) : qAt (qs.set i q) j = qAt qs j := by simp [qAt, h]
theorem pAt_set_same {qs : List Pol} {i : Nat} {q : Pol} (h : i < qs.length) : pAt (qs.set i q) i = q := by simp [pAt, h]
theorem pAt_set_other {qs : List Pol} {i j : Nat} {q : Pol} (h : i ≠ j) : pAt (qs.set i q) j = pAt qs j := by simp [pAt, h]
theorem qAt_app {qs rs : List (Int × Value)} {i : Nat} (h : i < qs.length) : qAt (qs ++ rs) i = qAt qs i := by simp [qAt, List.getElem?_append_left h]
theorem pAt_app {qs rs : List Pol} {i : Nat} (h : i < qs.length) : pAt (qs ++ rs) i = pAt qs i := by simp [pAt, List.getElem?_append_left h]
theorem qAt_last {qs : List (Int × Value)} {q : Int × Value} : qAt (qs ++ [q]) qs.length = q := by simp [qAt]
theorem pAt_last {qs : List Pol} {q : Pol} : pAt (qs ++ [q]) qs.length = q := by simp [pAt]
/-! ## A row -/
def rowG (T : TypeId) (C : Cont) (w : World) (B : Nat) (v : Value) (ps : List Pol) : Prop :=
  ∃ qs : List (Int × Value), qs.length = ps.length ∧ w.ownsRow B T 2 v ps.length (lcells qs) ∧ ∀ i, i < ps.length → (qAt qs i).1 = (pAt ps i).1 ∧ C w (qAt qs i).2 (pAt ps i).2
theorem rowG.lt {T C w B v ps} (h : rowG T C w B v ps) : ∀ k, v.ownBlock = some k → B ≤ k ∧ k < w.heap.size := by
  obtain ⟨qs, h1, h2, h3⟩ := h
  exact h2.lt
theorem rowG.block {T C w B v ps} (h : rowG T C w B v ps) {k : Nat} (hk : v.ownBlock = some k) : ∃ cur, w.heap[k]? = some (.cells cur T (0, 0)) := by
  obtain ⟨qs, h1, h2, h3⟩ := h
  exact row_block h2 hk
theorem rowG.kept {T : TypeId} {C : Cont} {w w' : World} {B : Nat} {v : Value} {ps : List Pol} {row : Option Nat} (h : rowG T C w B v ps) (hg : w.grownBy w' row) (hne : ∀ k, v.ownBlock = some k → row ≠ some k) (hC : ∀ x xs, C w x xs → C w' x xs) : rowG T C w' B v ps := by
  obtain ⟨qs, h1, h2, h3⟩ := h
  refine ⟨qs, h1, h2.kept hg ?_, fun i hi => ⟨(h3 i hi).1, hC _ _ (h3 i hi).2⟩⟩
  cases hv : v.ownBlock with
  | none => exact .inl rfl
  | some k => exact .inr fun he => hne k hv he.symm
theorem rowG.below {T : TypeId} {C : Cont} {w w' : World} {B : Nat} {v : Value} {ps : List Pol} (h : rowG T C w B v ps) (hb : Below w.heap.size w w') (hC : ∀ x xs, C w x xs → C w' x xs) : rowG T C w' B v ps :=
  h.kept (row := none) ⟨hb.os, hb.tape, hb.output, hb.size, fun k hk _ => hb.block k hk⟩ (fun k _ e => by cases e) hC
theorem rowG.mono {T : TypeId} {C C' : Cont} {w : World} {B B' : Nat} {v : Value} {ps : List Pol} (h : rowG T C w B v ps) (hB : B' ≤ B) (hC : ∀ x xs, C w x xs → C' w x xs) : rowG T C' w B' v ps := by
  obtain ⟨qs, h1, h2, h3⟩ := h
  refine ⟨qs, h1, ⟨h2.1, ?_⟩, fun i hi => ⟨(h3 i hi).1, hC _ _ (h3 i hi).2⟩⟩
  rcases h2.2 with h5 | ⟨g, cap, cur, hv, hg, r⟩
  · exact .inl h5
  · exact .inr ⟨g, cap, cur, hv, Nat.le_trans hB hg, r⟩
theorem rowG.len {T C w B v ps} (h : rowG T C w B v ps) : ∃ a c, v = .slice a ps.length c := by
  obtain ⟨qs, h1, h2, h3⟩ := h
  rcases h2.2 with ⟨rfl, hn⟩ | ⟨g, cap, cur, rfl, _⟩
  · exact ⟨none, 0, by rw [hn]⟩
  · exact ⟨_, cap, rfl⟩
theorem rowG_nil (T : TypeId) (C : Cont) (w : World) (B : Nat) : rowG T C w B (.slice none 0 0) [] := ⟨[], rfl, World.ownsRow_nil w B T 2, fun i hi => by cases hi⟩
theorem rowG_made {T : TypeId} {C : Cont} {w : World} {B b m : Nat} {c : Array Value} (hb : b = w.heap.size) (hB : B ≤ w.heap.size) (hm : m ≤ maxLen) (hc : c.size = m * 2) : rowG T C (w.alloc (.cells c T)) B (.slice (some ⟨b, 0, none⟩) 0 m) [] :=
  ⟨[], rfl, hb ▸ World.ownsRow_made (e := T) (size := 2) w c m hB hm hc, fun i hi => (by cases hi)⟩
/-- an entry of a row: where it lies -/
theorem rowG.at {T C w B v ps} (h : rowG T C w B v ps) {i : Nat} (hi : i < ps.length) :
    ∃ g c sv, v = .slice (some ⟨g, 0, none⟩) ps.length c ∧ B ≤ g ∧ g < w.heap.size ∧ w.cell? ⟨g, i * 2, none⟩ = some (.int .i64 (pAt ps i).1) ∧ w.cell? ⟨g, i * 2 + 1, none⟩ = some sv ∧ C w sv (pAt ps i).2 := by
  obtain ⟨qs, h1, h2, h3⟩ := h
  have hl := h2.lt
  have hlc := fun g hg => World.ownsRow.cells h2 (g := g) hg
  rcases h2.2 with ⟨rfl, hn⟩ | ⟨g, cap, cur, rfl, hg, hh, _⟩
  · omega
  · refine ⟨g, cap, (qAt qs i).2, rfl, (hl g rfl).1, (hl g rfl).2, ?_, ?_, (h3 i hi).2⟩
    · have := hlc g rfl (2 * i + 0) _ (lcells_at (by omega) (by decide))
      have e : (⟨g, 0, none⟩ : Addr).add (2 * i + 0) = ⟨g, i * 2, none⟩ := by unfold Addr.add; split <;> simp_all <;> omega
      rw [e] at this
      rw [this, ← (h3 i hi).1]; rfl
    · have := hlc g rfl (2 * i + 1) _ (lcells_at (by omega) (by decide))
      have e : (⟨g, 0, none⟩ : Addr).add (2 * i + 1) = ⟨g, i * 2 + 1, none⟩ := by unfold Addr.add; split <;> simp_all <;> omega
      rw [e] at this
      exact this
/-- an entry of a row is written -/
theorem rowG.put {T : TypeId} {C : Cont} {w : World} {B g n c : Nat} {ps : List Pol} (h : rowG T C w B (.slice (some ⟨g, 0, none⟩) n c) ps) {t : Nat} (ht : t < ps.length) (l : Int) (sv : Value) (xs : List Int) :
    ∃ cur, w.heap[g]? = some (.cells cur T (0, 0)) ∧ t * 2 + (#[.int .i64 l, sv] : Array Value).size ≤ cur.size ∧ w.grownBy (w.setRow g (putA cur (t * 2) #[.int .i64 l, sv])) (some g) ∧
      ((∀ x ys, C w x ys → C (w.setRow g (putA cur (t * 2) #[.int .i64 l, sv])) x ys) → C (w.setRow g (putA cur (t * 2) #[.int .i64 l, sv])) sv xs → rowG T C (w.setRow g (putA cur (t * 2) #[.int .i64 l, sv])) B (.slice (some ⟨g, 0, none⟩) n c) (ps.set t (l, xs))) := by
  obtain ⟨qs, h1, ⟨h2, h4⟩, h3⟩ := h
  rcases h4 with ⟨h4, _⟩ | ⟨g', cap', cur, hv, hg, hh, hn, hm, hs, hk⟩
  · cases h4
  · simp only [Value.slice.injEq, Option.some.injEq, Addr.mk.injEq] at hv
    obtain ⟨⟨rfl, _⟩, rfl, rfl⟩ := hv
    have hz : (#[.int .i64 l, sv] : Array Value).size = 2 := rfl
    have hle : t * 2 + (#[.int .i64 l, sv] : Array Value).size ≤ cur.size := by rw [hz, hs]; omega
    refine ⟨cur, hh, hle, ⟨rfl, rfl, rfl, by simp, fun k _ hk => setRow_other _ _ k _ (fun e => hk (by rw [e]))⟩, fun hC hx => ⟨qs.set t (l, sv), by rw [List.length_set, List.length_set, h1], ⟨by rw [lcells_length, List.length_set, List.length_set]; omega, .inr ⟨g, c, _, by rw [List.length_set], hg, setRow_heap _ _ _ _ _ _ hh, by rw [List.length_set]; exact hn, hm, by rw [putA_size hle]; exact hs, ?_⟩⟩, fun i hi => ?_⟩⟩
    · rw [List.length_set]
      apply List.ext_getElem?
      intro j
      by_cases hj : j < ps.length * 2
      · have e : j = 2 * (j / 2) + j % 2 := by omega
        have g1 : j / 2 < (qs.set t (l, sv)).length := by rw [List.length_set]; omega
        have g2 := lcells_at g1 (show j % 2 < 2 by omega)
        rw [← e] at g2
        rw [g2, List.getElem?_take_of_lt hj, Array.getElem?_toList, putA_get hle, hz]
        by_cases ej : j / 2 = t
        · rw [if_pos (by omega), ej, qAt_set_same (by omega)]
          rcases (show j % 2 = 0 ∨ j % 2 = 1 by omega) with e0 | e0
          · rw [e0, show j - t * 2 = 0 by omega]; rfl
          · rw [e0, show j - t * 2 = 1 by omega]; rfl
        · rw [if_neg (by omega), qAt_set_other (fun e => ej e.symm)]
          have g3 := lcells_at (qs := qs) (i := j / 2) (j := j % 2) (by omega) (by omega)
          rw [← e, ← hk, List.getElem?_take_of_lt hj, Array.getElem?_toList] at g3
          exact g3
      · rw [List.getElem?_eq_none (by rw [List.length_take]; omega), List.getElem?_eq_none (by rw [lcells_length, List.length_set]; omega)]
    · rw [List.length_set] at hi
      by_cases e : t = i
      · subst e
        rw [qAt_set_same (by omega), pAt_set_same hi]
        exact ⟨rfl, hx⟩
      · rw [qAt_set_other e, pAt_set_other e]
        exact ⟨(h3 i hi).1, hC _ _ (h3 i hi).2⟩
theorem made_pols (n : Nat) : (madeCells (Value.agg #[.int .i64 0, .slice none 0 0]).cells (n * 2)).toList = lcells (List.replicate n (0, .slice none 0 0)) := by
  have hc : (Value.agg #[.int .i64 0, .slice none 0 0]).cells = #[.int .i64 0, .slice none 0 0] := rfl
  rw [hc]
  apply List.ext_getElem?
  intro j
  by_cases hj : j < n * 2
  · have e : j = 2 * (j / 2) + j % 2 := by omega
    have h1 : j / 2 < (List.replicate n ((0 : Int), Value.slice none 0 0)).length := by rw [List.length_replicate]; omega
    have h2 := lcells_at h1 (show j % 2 < 2 by omega)
    rw [← e] at h2
    have h3 : qAt (List.replicate n ((0 : Int), Value.slice none 0 0)) (j / 2) = (0, .slice none 0 0) := by
      rw [List.length_replicate] at h1
      simp [qAt, h1]
    rw [h2, h3]
    have h4 : (Array.range (n * 2)).toList[j]? = some j := by simp [hj]
    simp only [madeCells, Array.toList_map, List.getElem?_map, h4, Option.map_some]
    have h5 : (#[Value.int .i64 0, .slice none 0 0] : Array Value).size = 2 := rfl
    rw [h5]
    rcases (show j % 2 = 0 ∨ j % 2 = 1 by omega) with e0 | e0 <;> rw [e0] <;> rfl
  · rw [List.getElem?_eq_none (by simp [madeCells]; omega), List.getElem?_eq_none (by rw [lcells_length, List.length_replicate]; omega)]
/-- n empty polynomials are made -/
theorem wpList_make_pols {P : Program} (w : World) {ops : Array Oper} {rest : List Oper} {o : Oper} {a : Act} {Q : Exit → Act → World → Prop} (hg : o.guard = none) (l c : Operand) (t : TypeId) (hop : o.op = Op.makeSlice t l c)
    (T : TypeId) (h1 : P.underlying t = some (.slice T)) (hi : (P.info? T).map (fun i => (i.zero, i.size, i.bytes)) = some (some (.agg #[.int .i64 0, .slice none 0 0]), 2, 32)) (n : Nat) (hl : a.eval l = .int .i64 n) (hc : a.eval c = .int .i64 n) (hn : n ≤ 1000000000) (C : Cont) (hC : ∀ w, C w (.slice none 0 0) [])
    (hK : ∀ w', rowG T C w' w.heap.size (.slice (some ⟨w.heap.size, 0, none⟩) n n) (List.replicate n (0, [])) → Below w.heap.size w w' → w.grownBy w' none → wpList P ops Q rest (a.put o.dst (.slice (some ⟨w.heap.size, 0, none⟩) n n)) w') : wpList P ops Q (o :: rest) a w := by
  obtain ⟨i, g1, g2, g3, g4⟩ := info_parts hi
  refine wpList_make_full w hg l c t hop w.heap.size T i _ 2 h1 g1 g2 g3 .i64 .i64 n n n hl hc rfl rfl (by rw [g4]; omega) (by unfold maxLen; omega) (Nat.le_refl _) fun w' r1 r2 => ?_
  rw [made_pols] at r1
  refine hK w' ⟨List.replicate n (0, .slice none 0 0), by rw [List.length_replicate, List.length_replicate], by rw [List.length_replicate]; exact r1, fun i hi => ?_⟩ (below_of_grown r2 (Nat.le_refl _) fun k hk => by cases hk) r2
  rw [List.length_replicate] at hi
  have e1 : qAt (List.replicate n ((0 : Int), Value.slice none 0 0)) i = (0, .slice none 0 0) := by simp [qAt, hi]
  have e2 : pAt (List.replicate n ((0 : Int), ([] : List Int))) i = (0, []) := by simp [pAt, hi]
  rw [e1, e2]
  exact ⟨rfl, hC _⟩
/-- one polynomial is appended to a row of the call's own -/
theorem wpList_appendPol {P : Program} {ops : Array Oper} {rest : List Oper} {o : Oper} {a : Act} {w : World} {Q : Exit → Act → World → Prop} (hgd : o.guard = none) (s x : Operand) (t : TypeId)
    (ho : o.op = .call { callee := .builtin .append, args := #[s, x], argTypes := #[t, t] }) (T : TypeId) (ht : P.underlying t = some (.slice T)) (hi : (P.info? T).map (fun i => (i.zero, i.size, i.bytes)) = some (some (.agg #[.int .i64 0, .slice none 0 0]), 2, 32))
    (C : Cont) (B : Nat) (v : Value) (ps : List Pol) (hs : a.eval s = v) (b c : Nat) (hx : a.eval x = .slice (some ⟨b, 0, none⟩) 1 c) (l : Int) (sv : Value) (xs : List Int) (hone : sv.oneCell' = true) (hu0 : w.cell? ⟨b, 0, none⟩ = some (.int .i64 l)) (hu1 : w.cell? ⟨b, 1, none⟩ = some sv)
    (hown : rowG T C w B v ps) (hsv : C w sv xs) (hC : ∀ w' x ys, w.grownBy w' v.ownBlock → C w x ys → C w' x ys) (hlen : ps.length < 1000000000) (hB : B ≤ w.heap.size)
    (h : ∀ v' w', rowG T C w' B v' (ps ++ [(l, xs)]) → Below B w w' → w.grownBy w' v.ownBlock → wpList P ops Q rest (a.put o.dst v') w') : wpList P ops Q (o :: rest) a w := by
  obtain ⟨i, h1, h2, h3, h4⟩ := info_parts hi
  obtain ⟨qs, q1, q2, q3⟩ := hown
  refine wpList_append_own w hgd s x t ho B T i (.agg #[.int .i64 0, .slice none 0 0]) 2 32 ht h1 h2 h3 h4 rfl (by decide) v _ _ hs q2 ⟨b, 0, none⟩ 1 c (lcells [(l, sv)]) hx (by simp [lcells]) ?_ ?_ (by unfold maxLen; omega) (by omega) hB ?_
  · intro j y hj
    match j, hj with
    | 0, hj => simp [lcells] at hj; subst hj; simpa [Addr.add] using hu0
    | 1, hj => simp [lcells] at hj; subst hj; simpa [Addr.add] using hu1
    | j + 2, hj => simp [lcells] at hj
  · intro y hy
    simp [lcells] at hy
    rcases hy with rfl | rfl
    · rfl
    · exact hone
  · intro v' w' h5 h6 _
    refine h v' w' ⟨qs ++ [(l, sv)], by simp [q1], by rw [lcells_append]; simpa using h5, fun i hi => ?_⟩ (below_of_grown h6 hB fun k hk => (q2.lt k hk).1) h6
    rw [List.length_append, List.length_singleton] at hi
    by_cases e : i = ps.length
    · subst e
      rw [pAt_last, ← q1, qAt_last]
      exact ⟨rfl, hC w' _ _ h6 hsv⟩
    · rw [qAt_app (by omega), pAt_app (by omega)]
      exact ⟨(q3 i (by omega)).1, hC w' _ _ h6 (q3 i (by omega)).2⟩
/-! ## A table -/
def tabG (S T : TypeId) (C : Cont) (w : World) (B : Nat) (v : Value) (M : List (List Pol)) : Prop :=
  ∃ vs : List Value, vs.length = M.length ∧ w.ownsRow B S 1 v M.length vs ∧ (∀ i, i < M.length → rowG T C w B (slot vs i) (prow M i)) ∧ (∀ i j, i < M.length → j < M.length → i ≠ j → ∀ k, (slot vs i).ownBlock = some k → (slot vs j).ownBlock ≠ some k)
theorem tabG_nil (S T : TypeId) (C : Cont) (w : World) (B : Nat) : tabG S T C w B (.slice none 0 0) [] := ⟨[], rfl, World.ownsRow_nil w B S 1, fun i hi => (by cases hi), fun i j hi => (by cases hi)⟩
theorem tabG_made {S T : TypeId} {C : Cont} {w : World} {B b m : Nat} {c : Array Value} (hb : b = w.heap.size) (hB : B ≤ w.heap.size) (hm : m ≤ maxLen) (hc : c.size = m) : tabG S T C (w.alloc (.cells c S)) B (.slice (some ⟨b, 0, none⟩) 0 m) [] :=
  ⟨[], rfl, hb ▸ World.ownsRow_made (e := S) (size := 1) w c m hB hm (by omega), fun i hi => (by cases hi), fun i j hi => (by cases hi)⟩
theorem tabG.lt {S T C w B v M} (h : tabG S T C w B v M) : ∀ k, v.ownBlock = some k → B ≤ k ∧ k < w.heap.size := by
  obtain ⟨vs, h1, h2, h3, h4⟩ := h
  exact h2.lt
theorem tabG.block {S T C w B v M} (h : tabG S T C w B v M) {k : Nat} (hk : v.ownBlock = some k) : ∃ cur, w.heap[k]? = some (.cells cur S (0, 0)) := by
  obtain ⟨vs, h1, h2, h3, h4⟩ := h
  exact row_block h2 hk
theorem tabG.len {S T C w B v M} (h : tabG S T C w B v M) : ∃ a c, v = .slice a M.length c := by
  obtain ⟨vs, h1, h2, h3, h4⟩ := h
  rcases h2.2 with ⟨rfl, hn⟩ | ⟨g, cap, cur, rfl, _⟩
  · exact ⟨none, 0, by rw [hn]⟩
  · exact ⟨_, cap, rfl⟩
theorem tabG.mono {S T : TypeId} {C C' : Cont} {w : World} {B B' : Nat} {v : Value} {M : List (List Pol)} (h : tabG S T C w B v M) (hB : B' ≤ B) (hC : ∀ x xs, C w x xs → C' w x xs) : tabG S T C' w B' v M := by
  obtain ⟨vs, h1, h2, h3, h4⟩ := h
  refine ⟨vs, h1, ⟨h2.1, ?_⟩, fun i hi => (h3 i hi).mono hB hC, h4⟩
  rcases h2.2 with h5 | ⟨g, cap, cur, hv, hg, r⟩
  · exact .inl h5
  · exact .inr ⟨g, cap, cur, hv, Nat.le_trans hB hg, r⟩
/-- a block outside the table is written -/
theorem tabG.apart {S T : TypeId} {C : Cont} {w w' : World} {B : Nat} {v : Value} {M : List (List Pol)} {row : Option Nat} (h : tabG S T C w B v M) (hg : w.grownBy w' row) (hr : ∀ k, row = some k → k < B ∨ w.heap.size ≤ k) (hC : ∀ x xs, C w x xs → C w' x xs) : tabG S T C w' B v M := by
  obtain ⟨vs, h1, h2, h3, h4⟩ := h
  refine ⟨vs, h1, h2.kept hg ?_, fun i hi => (h3 i hi).kept hg (fun k hk e => ?_) hC, h4⟩
  · cases hv : v.ownBlock with
    | none => exact .inl rfl
    | some k => exact .inr fun e => by have := h2.lt k hv; have := hr k e.symm; omega
  · have := (h3 i hi).lt k hk; have := hr k e; omega
theorem tabG.below {S T : TypeId} {C : Cont} {w w' : World} {B : Nat} {v : Value} {M : List (List Pol)} (h : tabG S T C w B v M) (hb : Below w.heap.size w w') (hC : ∀ x xs, C w x xs → C w' x xs) : tabG S T C w' B v M :=
  h.apart (row := none) ⟨hb.os, hb.tape, hb.output, hb.size, fun k hk _ => hb.block k hk⟩ (fun k hk => by cases hk) hC
theorem prow_set_same {M : List (List Pol)} {i : Nat} {r : List Pol} (hi : i < M.length) : prow (M.set i r) i = r := by simp [prow, hi]
theorem prow_set_other {M : List (List Pol)} {i j : Nat} {r : List Pol} (hij : i ≠ j) : prow (M.set i r) j = prow M j := by simp [prow, hij]
/-- a row of a table: where it lies, and what follows when it is written -/
theorem tabG.wrote {S T : TypeId} {C : Cont} {w : World} {B : Nat} {v : Value} {M : List (List Pol)} (hST : S ≠ T) (h : tabG S T C w B v M) {i : Nat} (hi : i < M.length) :
    ∃ g c rv, v = .slice (some ⟨g, 0, none⟩) M.length c ∧ B ≤ g ∧ g < w.heap.size ∧ w.cell? ⟨g, i, none⟩ = some rv ∧ rowG T C w B rv (prow M i) ∧ ∀ w' r, w.grownBy w' rv.ownBlock → (∀ x xs, C w x xs → C w' x xs) → rowG T C w' B rv r → tabG S T C w' B v (M.set i r) := by
  obtain ⟨vs, h1, h2, h3, h4⟩ := h
  have hcell : ∃ g c, v = .slice (some ⟨g, 0, none⟩) M.length c ∧ B ≤ g ∧ g < w.heap.size ∧ w.cell? ⟨g, i, none⟩ = some (slot vs i) := by
    have hl := h2.lt
    have hlc := fun g hg => World.ownsRow.cells h2 (g := g) hg
    rcases h2.2 with ⟨rfl, hn⟩ | ⟨g, cap, cur, rfl, hg, hh, _⟩
    · omega
    · refine ⟨g, cap, rfl, (hl g rfl).1, (hl g rfl).2, ?_⟩
      have := hlc g rfl i (slot vs i) (slot_get (by omega))
      have e : (⟨g, 0, none⟩ : Addr).add i = ⟨g, 0 + i, none⟩ := by unfold Addr.add; split <;> simp_all
      rw [e, Nat.zero_add] at this
      exact this
  obtain ⟨g, c, hv, hgB, hg, hc⟩ := hcell
  refine ⟨g, c, slot vs i, hv, hgB, hg, hc, h3 i hi, fun w' r hgr hC hr => ⟨vs, by rw [List.length_set]; exact h1, ?_, fun j hj => ?_, fun a b ha hb => h4 a b (by rwa [List.length_set] at ha) (by rwa [List.length_set] at hb)⟩⟩
  · rw [List.length_set]
    refine h2.kept hgr ?_
    cases hvo : v.ownBlock with
    | none => exact .inl rfl
    | some k =>
      refine .inr fun e => ?_
      obtain ⟨c1, hk⟩ := row_block h2 hvo
      obtain ⟨c2, hk2⟩ := (h3 i hi).block e.symm
      exact block_ne hST hk hk2 rfl
  · rw [List.length_set] at hj
    by_cases hij : i = j
    · subst hij
      rw [prow_set_same hi]
      exact hr
    · rw [prow_set_other hij]
      exact (h3 j hj).kept hgr (fun k hk e => h4 i j hi hj hij k e hk) hC
/-- the rows of a table lie below what comes later -/
theorem tabG.rows_lt {S T C w B v M} (h : tabG S T C w B v M) {vs : List Value} (h2 : w.ownsRow B S 1 v M.length vs) : ∀ i, i < M.length → ∀ k, (slot vs i).ownBlock = some k → B ≤ k ∧ k < w.heap.size := by
  obtain ⟨vs', h1, h2', h3, h4⟩ := h
  have e : vs = vs' := by
    rcases h2.2 with ⟨rfl, hn⟩ | ⟨g, cap, cur, rfl, hg, hh, hn, hm, hs, ht⟩
    · have l1 := h2.1; have l2 := h2'.1
      rw [hn] at l1 l2
      rw [List.eq_nil_of_length_eq_zero (by omega : vs.length = 0), List.eq_nil_of_length_eq_zero (by omega : vs'.length = 0)]
    · rcases h2'.2 with ⟨hv, _⟩ | ⟨g', cap', cur', hv, hg', hh', hn', hm', hs', ht'⟩
      · cases hv
      · cases hv
        rw [hh] at hh'
        cases hh'
        rw [← ht, ← ht']
  subst e
  exact fun i hi k hk => (h3 i hi).lt k hk
/-- append of a row that lies alone in the block that was made last -/
theorem wpList_appendTab {P : Program} {ops : Array Oper} {rest : List Oper} {o : Oper} {a : Act} {w : World} {Q : Exit → Act → World → Prop} (hgd : o.guard = none) (s x : Operand) (t : TypeId)
    (ho : o.op = .call { callee := .builtin .append, args := #[s, x], argTypes := #[t, t] }) (S T : TypeId) (ht : P.underlying t = some (.slice S)) (hi : (P.info? S).map (fun i => (i.zero, i.size, i.bytes)) = some (some (.slice none 0 0), 1, 24)) (hST : S ≠ T) (C : Cont)
    (B : Nat) (v : Value) (M : List (List Pol)) (hs : a.eval s = v) (b : Nat) (hx : a.eval x = .slice (some ⟨b, 0, none⟩) 1 1) (rv : Value) (r : List Pol) (hu : w.cell? ⟨b, 0, none⟩ = some rv)
    (hown : tabG S T C w B v M) (hr : rowG T C w B rv r) (hfar : ∀ k, rv.ownBlock = some k → ∀ vs : List Value, w.ownsRow B S 1 v M.length vs → ∀ i, i < M.length → (slot vs i).ownBlock ≠ some k) (hC : ∀ w' x ys, w.grownBy w' v.ownBlock → C w x ys → C w' x ys) (hlen : M.length < 1000000000) (hB : B ≤ w.heap.size)
    (h : ∀ v' w', tabG S T C w' B v' (M ++ [r]) → w.grownBy w' v.ownBlock → Below B w w' → wpList P ops Q rest (a.put o.dst v') w') : wpList P ops Q (o :: rest) a w := by
  obtain ⟨i, h1, h2, h3, h4⟩ := info_parts hi
  obtain ⟨vs, g1, g2, g3, g4⟩ := id hown
  have hone : rv.oneCell' = true := by
    obtain ⟨a', c', he⟩ := hr.len
    rw [he]; rfl
  refine wpList_append_own w hgd s x t ho B S i (.slice none 0 0) 1 24 ht h1 h2 h3 h4 rfl (by decide) v _ _ hs g2 ⟨b, 0, none⟩ 1 1 [rv] hx rfl ?_ ?_ (by unfold maxLen; omega) (by omega) hB ?_
  · intro j y hj
    match j, hj with
    | 0, hj => simp at hj; subst hj; simpa [Addr.add] using hu
  · intro y hy
    simp at hy
    subst hy
    exact hone
  · intro v' w' h5 h6 _
    have s1 : ∀ i, i < M.length → slot (vs ++ [rv]) i = slot vs i := fun i hi => by simp [slot, List.getElem?_append_left (show i < vs.length by omega)]
    have s2 : slot (vs ++ [rv]) M.length = rv := by rw [← g1]; simp [slot]
    have r1 : ∀ i, i < M.length → prow (M ++ [r]) i = prow M i := fun i hi => by simp [prow, List.getElem?_append_left hi]
    have r2 : prow (M ++ [r]) M.length = r := by simp [prow]
    have key : ∀ x y, rowG T C w B x y → rowG T C w' B x y := fun x y hx => hx.kept h6 (fun k hk he => by
      obtain ⟨c1, hk1⟩ := row_block g2 he
      obtain ⟨c2, hk2⟩ := hx.block hk
      exact block_ne hST hk1 hk2 rfl) (fun x ys => hC w' x ys h6)
    have hf := fun i hi k hk hk2 => hfar k hk2 vs g2 i hi hk
    refine h v' w' ⟨vs ++ [rv], by simp [g1], by simpa using h5, fun i hi => ?_, fun i j hi hj hij => ?_⟩ h6 (below_of_grown h6 hB fun k hk => (g2.lt k hk).1)
    · rw [List.length_append, List.length_singleton] at hi
      by_cases e : i = M.length
      · subst e
        rw [s2, r2]
        exact key _ _ hr
      · rw [s1 i (by omega), r1 i (by omega)]
        exact key _ _ (g3 i (by omega))
    · rw [List.length_append, List.length_singleton] at hi hj
      intro k hk
      by_cases e : i = M.length
      · subst e
        rw [s2] at hk
        rw [s1 j (by omega)]
        intro hk2
        exact hf j (by omega) k hk2 hk
      · rw [s1 i (by omega)] at hk
        by_cases e2 : j = M.length
        · subst e2
          rw [s2]
          exact hf i (by omega) k hk
        · rw [s1 j (by omega)]
          exact g4 i j (by omega) (by omega) hij k hk
/-! ## Lists of numbers in typed blocks -/
def Co (e : TypeId) : Cont := fun w v xs => own e w 0 v xs
theorem Co_nil (e : TypeId) : ∀ w, Co e w (.slice none 0 0) [] := fun w => own_nil e w 0
theorem Co_below {e : TypeId} {w w' : World} (hb : Below w.heap.size w w') : ∀ x xs, Co e w x xs → Co e w' x xs := fun x xs h => own.kept h hb
theorem Co_block {e t : TypeId} {w w' : World} {k : Nat} {c : Array Value} (ht : t ≠ e) (hk : w.heap[k]? = some (.cells c t (0, 0))) (hg : w.grownBy w' (some k)) : ∀ x xs, Co e w x xs → Co e w' x xs := fun x xs h => own.apart h hg fun q hq he => by
  cases he
  obtain ⟨c2, h2⟩ := own_block h hq
  exact block_ne ht hk h2 rfl
theorem Co_row {e T : TypeId} {C : Cont} {w w' : World} {B : Nat} {v : Value} {ps : List Pol} (ht : T ≠ e) (h : rowG T C w B v ps) (hg : w.grownBy w' v.ownBlock) : ∀ x xs, Co e w x xs → Co e w' x xs := by
  cases hv : v.ownBlock with
  | none => rw [hv] at hg; exact fun x xs h => own.apart h hg fun q hq he => by cases he
  | some k => obtain ⟨c, hk⟩ := h.block hv; rw [hv] at hg; exact Co_block ht hk hg
theorem Co_tab {e S T : TypeId} {C : Cont} {w w' : World} {B : Nat} {v : Value} {M : List (List Pol)} (ht : S ≠ e) (h : tabG S T C w B v M) (hg : w.grownBy w' v.ownBlock) : ∀ x xs, Co e w x xs → Co e w' x xs := by
  cases hv : v.ownBlock with
  | none => rw [hv] at hg; exact fun x xs h => own.apart h hg fun q hq he => by cases he
  | some k => obtain ⟨c, hk⟩ := h.block hv; rw [hv] at hg; exact Co_block ht hk hg
theorem rowG.keep {T e : TypeId} {w w' : World} {B : Nat} {v : Value} {ps : List Pol} (h : rowG T (Co e) w B v ps) (hb : Below w.heap.size w w') : rowG T (Co e) w' B v ps := h.below hb (Co_below hb)
theorem tabG.keep {S T e : TypeId} {w w' : World} {B : Nat} {v : Value} {M : List (List Pol)} (h : tabG S T (Co e) w B v M) (hb : Below w.heap.size w w') : tabG S T (Co e) w' B v M := h.below hb (Co_below hb)
end Go.Proofs.Ytikakoclmmmjdaa
namespace Go.Proofs.Ytikakoclmmmjdaa
open Go.RowKit
set_option linter.unusedSimpArgs false
set_option linter.unusedVariables false
open Go.RowKit
/-- sums over 0, 1, .. -/
def sumT (f : Nat → Int) : Nat → Int
  | 0 => 0
  | n + 1 => sumT f n + f n
theorem sumT_ext {f g : Nat → Int} : ∀ {n : Nat}, (∀ i, i < n → f i = g i) → sumT f n = sumT g n
  | 0, _ => rfl
  | n + 1, h => by simp only [sumT]; rw [sumT_ext (fun i hi => h i (by omega)), h n (by omega)]
theorem sumT_zero {f : Nat → Int} : ∀ {n : Nat}, (∀ i, i < n → f i = 0) → sumT f n = 0
  | 0, _ => rfl
  | n + 1, h => by simp only [sumT]; rw [sumT_zero (fun i hi => h i (by omega)), h n (by omega)]; rfl
theorem sumT_add (f g : Nat → Int) : ∀ n, sumT (fun i => f i + g i) n = sumT f n + sumT g n
  | 0 => rfl
  | n + 1 => by simp only [sumT]; rw [sumT_add f g n]; omega
theorem sumT_mul (c : Int) (f : Nat → Int) : ∀ n, sumT (fun i => c * f i) n = c * sumT f n
  | 0 => by simp [sumT]
  | n + 1 => by simp only [sumT]; rw [sumT_mul c f n, Int.mul_add]
theorem sumT_shift (f : Nat → Int) : ∀ n, sumT f (n + 1) = f 0 + sumT (fun i => f (i + 1)) n
  | 0 => by simp [sumT]
  | n + 1 => by rw [sumT, sumT_shift f n]; simp only [sumT]; omega
theorem sumT_split (f : Nat → Int) (n : Nat) : ∀ d, sumT f (n + d) = sumT f n + sumT (fun i => f (n + i)) d
  | 0 => by simp [sumT]
  | d + 1 => by rw [show n + (d + 1) = (n + d) + 1 by omega, sumT, sumT_split f n d, sumT]; omega
theorem sumT_rev (f : Nat → Int) : ∀ n, sumT (fun i => f (n - i)) (n + 1) = sumT f (n + 1)
  | 0 => rfl
  | n + 1 => by
    rw [sumT_shift, sumT, Int.add_comm]
    congr 1
    rw [← sumT_rev f n]
    rw [sumT]
    congr 1
    · exact sumT_ext fun i hi => by rw [show n + 1 - (i + 1) = n - i by omega]
    · congr 1; omega
theorem fzo_nz {xs : List Int} : ∀ {i : Nat}, nth xs i ≠ 0 → fzo xs ≤ i := by
  induction xs with
  | nil => intro i h; exact absurd (nth_nil i) h
  | cons x xs ih =>
    intro i h
    simp only [fzo]
    by_cases hx : x = 0
    · rw [if_pos hx]
      cases i with
      | zero => rw [nth_zero] at h; exact absurd hx h
      | succ i => rw [nth_succ] at h; have := ih h; omega
    · rw [if_neg hx]; omega
theorem lzo_nz {xs : List Int} : ∀ {i : Nat}, nth xs i ≠ 0 → i < lzo xs := by
  induction xs with
  | nil => intro i h; exact absurd (nth_nil i) h
  | cons x xs ih =>
    intro i h
    simp only [lzo]
    cases i with
    | zero =>
      rw [nth_zero] at h
      split
      · first | omega | (rw [if_neg h]; omega)
      · omega
    | succ i =>
      rw [nth_succ] at h
      have := ih h
      rw [if_neg (by omega)]
      omega
/-- the balanced rest of x modulo 2 h -/
def rho (h x : Int) : Int := (x + h) % (2 * h) - h
theorem rho_form (h x : Int) : rho h x = x - 2 * h * ((x + h) / (2 * h)) := by
  have := Int.mul_ediv_add_emod (x + h) (2 * h)
  unfold rho
  omega
theorem rho_add_mul (h x q : Int) : rho h (x + 2 * h * q) = rho h x := by
  unfold rho
  rw [show x + 2 * h * q + h = (x + h) + 2 * h * q by omega, Int.add_mul_emod_self_left]
theorem rho_congr {h x y : Int} (q : Int) (e : x = y + 2 * h * q) : rho h x = rho h y := by rw [e, rho_add_mul]
theorem rho_rho (h x : Int) : rho h (rho h x) = rho h x := rho_congr (-((x + h) / (2 * h))) (by rw [rho_form, Int.mul_neg]; omega)
theorem rho_add (h x y : Int) : rho h (rho h x + rho h y) = rho h (x + y) := by
  refine rho_congr (-((x + h) / (2 * h)) - ((y + h) / (2 * h))) ?_
  rw [rho_form h x, rho_form h y, Int.mul_sub, Int.mul_neg]
  omega
theorem rho_add_right (h x y : Int) : rho h (x + rho h y) = rho h (x + y) := by
  refine rho_congr (-((y + h) / (2 * h))) ?_
  rw [rho_form h y, Int.mul_neg]
  omega
theorem rho_add_left (h x y : Int) : rho h (rho h x + y) = rho h (x + y) := by
  rw [Int.add_comm, rho_add_right, Int.add_comm]
theorem rho_mul_right (h x y : Int) : rho h (x * rho h y) = rho h (x * y) := by
  refine rho_congr (-(x * ((y + h) / (2 * h)))) ?_
  rw [rho_form h y, Int.mul_sub, Int.mul_neg, Int.mul_left_comm]
  omega
theorem rho_mul_left (h x y : Int) : rho h (rho h x * y) = rho h (x * y) := by
  rw [Int.mul_comm, rho_mul_right, Int.mul_comm]
theorem rho_mul (h x y : Int) : rho h (rho h x * rho h y) = rho h (x * y) := by rw [rho_mul_left, rho_mul_right]
theorem rho_neg (h x : Int) : rho h (-rho h x) = rho h (-x) := by
  refine rho_congr ((x + h) / (2 * h)) ?_
  rw [rho_form h x]
  omega
theorem rho_in {h x : Int} (h1 : -h ≤ x) (h2 : x < h) : rho h x = x := by
  unfold rho
  rw [Int.emod_eq_of_lt (by omega) (by omega)]
  omega
theorem rho_zero {h : Int} (h0 : 0 < h) : rho h 0 = 0 := rho_in (by omega) (by omega)
theorem rho_lt {h : Int} (h0 : 0 < h) (x : Int) : -h ≤ rho h x ∧ rho h x < h := by
  have h1 := Int.emod_nonneg (x + h) (show 2 * h ≠ 0 by omega)
  have h2 := Int.emod_lt_of_pos (x + h) (show 0 < 2 * h by omega)
  unfold rho
  omega
theorem rho_sumT (h : Int) (f : Nat → Int) : ∀ n, rho h (sumT (fun i => rho h (f i)) n) = rho h (sumT f n)
  | 0 => rfl
  | n + 1 => by simp only [sumT]; rw [← rho_add, rho_sumT h f n, rho_rho, rho_add]
theorem rho_wrap (x : Int) : rho 9223372036854775808 x = wrap64 x := by unfold rho wrap64; omega
/-! ## Polynomials as functions of the power -/
/-- the coefficients of a pair -/
def val (p : Pol) (k : Int) : Int := atP p.1 p.2 k
/-- no noughts at the ends -/
def isT (p : Pol) : Prop := (p.2 = [] ∧ p.1 = 0) ∨ (0 < p.2.length ∧ nth p.2 0 ≠ 0 ∧ nth p.2 (p.2.length - 1) ≠ 0)
theorem val_at (p : Pol) {i : Nat} (h : i < p.2.length) : val p (p.1 + i) = nth p.2 i := atP_in h
theorem val_out (p : Pol) {k : Int} (h : k < p.1 ∨ p.1 + p.2.length ≤ k) : val p k = 0 := by
  unfold val atP
  rw [if_neg (by omega)]
theorem val_nil (l k : Int) : val (l, []) k = 0 := val_out _ (by simp; omega)
theorem isT_eq {p q : Pol} (hp : isT p) (hq : isT q) (h : ∀ k, val p k = val q k) : p = q := by
  have e2 : ∀ p q : Pol, isT p → 0 < q.2.length → nth q.2 0 ≠ 0 → nth q.2 (q.2.length - 1) ≠ 0 → (∀ k, val p k = val q k) → 0 < p.2.length ∧ p.1 ≤ q.1 ∧ q.1 + q.2.length ≤ p.1 + p.2.length := by
    intro p q hp h0 h1 h2 h
    have k1 := h q.1
    have k2 := h (q.1 + ((q.2.length - 1 : Nat) : Int))
    have v1 := val_at q (i := 0) h0
    have v2 := val_at q (i := q.2.length - 1) (by omega)
    rw [show q.1 + ((0 : Nat) : Int) = q.1 by omega] at v1
    rw [v1] at k1
    rw [v2] at k2
    have w1 : ¬ (q.1 < p.1 ∨ p.1 + p.2.length ≤ q.1) := fun hh => h1 (by rw [← k1]; exact val_out p hh)
    have w2 : ¬ (q.1 + ((q.2.length - 1 : Nat) : Int) < p.1 ∨ p.1 + p.2.length ≤ q.1 + ((q.2.length - 1 : Nat) : Int)) := fun hh => h2 (by rw [← k2]; exact val_out p hh)
    omega
  rcases hq with ⟨q2, q1⟩ | ⟨q0, q1, q2⟩
  · rcases hp with ⟨p2, p1⟩ | ⟨p0, p1, p2⟩
    · obtain ⟨a, b⟩ := p; obtain ⟨c, d⟩ := q
      simp_all
    · have v1 := val_at p (i := 0) p0
      rw [h] at v1
      exact absurd (by rw [← v1]; exact val_out q (by rw [q2]; simp; omega)) p1
  · obtain ⟨p0, l1, l2⟩ := e2 p q hp q0 q1 q2 h
    have hp' : 0 < p.2.length ∧ nth p.2 0 ≠ 0 ∧ nth p.2 (p.2.length - 1) ≠ 0 := by
      rcases hp with ⟨e, _⟩ | hp
      · rw [e] at p0; cases p0
      · exact hp
    obtain ⟨_, l3, l4⟩ := e2 q p (.inr ⟨q0, q1, q2⟩) hp'.1 hp'.2.1 hp'.2.2 (fun k => (h k).symm)
    have el : p.2.length = q.2.length := by omega
    have e1 : p.1 = q.1 := by omega
    refine Prod.ext e1 (List.ext_getElem el fun i h1 h2 => ?_)
    have v1 := val_at p (i := i) h1
    have v2 := val_at q (i := i) h2
    rw [← h, ← e1, v1] at v2
    simpa [nth, h1, h2] using v2
/-- what trimming does -/
theorem trim_isT (low : Int) (xs : List Int) : isT (trimLow low xs, trimLst xs) ∧ (∀ k, val (trimLow low xs, trimLst xs) k = atP low xs k) ∧ ((trimLst xs).length = 0 ∨ (low ≤ trimLow low xs ∧ trimLow low xs + (trimLst xs).length ≤ low + xs.length)) := by
  by_cases hz : ∀ i, nth xs i = 0
  · have e := trim_is (low := low) (xs := xs) (a := 0) (m := 0) (fun i hi => by omega) (fun i _ => hz i) (.inl rfl)
    rw [e.1, e.2]
    refine ⟨.inl ⟨by simp, rfl⟩, fun k => ?_, .inl (by simp)⟩
    show val (0, []) k = _
    rw [val_nil]
    unfold atP
    split
    · exact (hz _).symm
    · rfl
  · obtain ⟨i, hi⟩ : ∃ i, nth xs i ≠ 0 := by simpa using hz
    obtain ⟨a, h1, h2, h1i⟩ : ∃ a, (∀ i, i < a → nth xs i = 0) ∧ nth xs a ≠ 0 ∧ a ≤ i := by
      have := fun j => @fzo_nz xs j
      refine ⟨fzo xs, fun j hj => ?_, ?_, this i hi⟩
      · by_cases h : nth xs j = 0
        · exact h
        · have := this j h; omega
      · clear hz this
        induction xs generalizing i with
        | nil => exact absurd (nth_nil i) hi
        | cons x xs ih =>
          simp only [fzo]
          by_cases hx : x = 0
          · rw [if_pos hx, nth_succ]
            cases i with
            | zero => rw [nth_zero] at hi; exact absurd hx hi
            | succ i => rw [nth_succ] at hi; exact ih i hi
          · rw [if_neg hx, nth_zero]; exact hx
    obtain ⟨p, h3, h4⟩ : ∃ p, (∀ i, p + 1 ≤ i → nth xs i = 0) ∧ nth xs p ≠ 0 := by
      have := fun j => @lzo_nz xs j
      clear h1 h2 h1i
      clear hz
      induction xs generalizing i with
      | nil => exact absurd (nth_nil i) hi
      | cons x xs ih =>
        by_cases hn : ∃ j, nth xs j ≠ 0
        · obtain ⟨j, hj⟩ := hn
          obtain ⟨p, h3, h4⟩ := ih j hj (fun j => @lzo_nz xs j)
          refine ⟨p + 1, fun i hi => ?_, by rw [nth_succ]; exact h4⟩
          obtain ⟨i, rfl⟩ : ∃ q, i = q + 1 := ⟨i - 1, by omega⟩
          rw [nth_succ]; exact h3 i (by omega)
        · have hn : ∀ j, nth xs j = 0 := by simpa using hn
          refine ⟨0, fun i hi => ?_, ?_⟩
          · obtain ⟨i, rfl⟩ : ∃ q, i = q + 1 := ⟨i - 1, by omega⟩
            rw [nth_succ]; exact hn i
          · cases i with
            | zero => exact hi
            | succ i => rw [nth_succ] at hi; exact absurd (hn i) hi
    have hap : a ≤ p := by
      rcases Nat.lt_or_ge p a with h | h
      · exact absurd (h3 a (by omega)) h2
      · exact h
    have hpl : p < xs.length := by
      rcases Nat.lt_or_ge p xs.length with h | h
      · exact h
      · exact absurd (nth_over h) h4
    have e := trim_is (low := low) (xs := xs) (a := a) (m := p + 1 - a) h1 (fun i hi => h3 i (by omega)) (.inr ⟨h2, by rw [show a + (p + 1 - a) - 1 = p by omega]; exact h4⟩)
    have hln : ((xs.drop a).take (p + 1 - a)).length = p + 1 - a := by rw [List.length_take, List.length_drop]; omega
    rw [e.1, e.2, if_neg (by omega)]
    refine ⟨.inr ?_, fun k => ?_, .inr ?_⟩
    · show 0 < ((xs.drop a).take (p + 1 - a)).length ∧ nth ((xs.drop a).take (p + 1 - a)) 0 ≠ 0 ∧ nth ((xs.drop a).take (p + 1 - a)) (((xs.drop a).take (p + 1 - a)).length - 1) ≠ 0
      rw [hln, nth_take (by omega), nth_take (by omega), nth_drop, nth_drop]
      refine ⟨by omega, h2, ?_⟩
      rw [show a + (p + 1 - a - 1) = p by omega]; exact h4
    · show atP (low + a) ((xs.drop a).take (p + 1 - a)) k = _
      unfold atP
      rw [hln]
      by_cases hk : low + (a : Int) ≤ k ∧ k < low + a + ((p + 1 - a : Nat) : Int)
      · rw [if_pos hk, if_pos (by omega), nth_take (by omega), nth_drop]
        congr 1; omega
      · rw [if_neg hk]
        split
        · rcases Nat.lt_or_ge (k - low).toNat a with h | h
          · exact (h1 _ h).symm
          · exact (h3 _ (by omega)).symm
        · rfl
    · rw [hln]; omega
/-- no coefficients beyond N -/
def sup (f : Int → Int) (N : Nat) : Prop := ∀ k : Int, k < -(N : Int) ∨ (N : Int) < k → f k = 0
theorem sup_le {f : Int → Int} {N M : Nat} (h : sup f N) (hm : N ≤ M) : sup f M := fun k hk => h k (by omega)
/-- p is the normal form of f modulo 2 h -/
structure isNf (h : Int) (N : Nat) (f : Int → Int) (p : Pol) : Prop where
  t : isT p
  lo : -(N : Int) ≤ p.1
  hi : p.1 + p.2.length ≤ N + 1
  ab : p.1 ≤ N
  v : ∀ k, val p k = rho h (f k)
theorem isNf_eq {h : Int} {N M : Nat} {f g : Int → Int} {p q : Pol} (hp : isNf h N f p) (hq : isNf h M g q) (e : ∀ k, rho h (f k) = rho h (g k)) : p = q :=
  isT_eq hp.t hq.t fun k => by rw [hp.v, hq.v, e]
theorem isNf.mono {h : Int} {N M : Nat} {f : Int → Int} {p : Pol} (hp : isNf h N f p) (hm : N ≤ M) : isNf h M f p := ⟨hp.t, by have := hp.lo; omega, by have := hp.hi; omega, by have := hp.ab; omega, hp.v⟩
theorem isNf.congr {h : Int} {N : Nat} {f g : Int → Int} {p : Pol} (hp : isNf h N f p) (e : ∀ k, rho h (f k) = rho h (g k)) : isNf h N g p := ⟨hp.t, hp.lo, hp.hi, hp.ab, fun k => by rw [hp.v, e]⟩
/-- the window tightens -/
theorem isNf.tight {h : Int} (h0 : 0 < h) {N M : Nat} {f : Int → Int} {p : Pol} (hp : isNf h N f p) (hs : sup f M) : isNf h M f p := by
  rcases hp.t with ⟨e2, e1⟩ | ⟨a, b, c⟩
  · exact ⟨hp.t, by omega, by rw [e1, e2]; simp; omega, by omega, hp.v⟩
  · have v1 := val_at p (i := 0) a
    have v2 := val_at p (i := p.2.length - 1) (by omega)
    have o1 : ¬ (p.1 + ((0 : Nat) : Int) < -(M : Int) ∨ (M : Int) < p.1 + ((0 : Nat) : Int)) := fun hh => b (by rw [← v1, hp.v, hs _ hh, rho_zero h0])
    have o2 : ¬ (p.1 + ((p.2.length - 1 : Nat) : Int) < -(M : Int) ∨ (M : Int) < p.1 + ((p.2.length - 1 : Nat) : Int)) := fun hh => c (by rw [← v2, hp.v, hs _ hh, rho_zero h0])
    exact ⟨hp.t, by omega, by omega, by omega, hp.v⟩
/-- a list over a window that holds the function, trimmed -/
theorem isNf_trim {h : Int} (h0 : 0 < h) {N M : Nat} {f : Int → Int} {lo : Int} {xs : List Int} (h1 : -(N : Int) ≤ lo) (h2 : lo + xs.length ≤ N + 1) (h3 : lo ≤ N) (hv : ∀ k, atP lo xs k = rho h (f k)) (hs : sup f M) : isNf h M f (trimLow lo xs, trimLst xs) := by
  obtain ⟨a, b, c⟩ := trim_isT lo xs
  have hw : isNf h (N + 0) f (trimLow lo xs, trimLst xs) := by
    refine ⟨a, ?_, ?_, ?_, fun k => by rw [b, hv]⟩
    all_goals
      rcases a with ⟨a2, a1⟩ | ⟨a1, _⟩
      · have a1 : trimLow lo xs = 0 := a1
        have a2 : trimLst xs = [] := a2
        simp only [a1, a2, List.length_nil]; omega
      · have a1 : 0 < (trimLst xs).length := a1
        simp only; omega
  exact hw.tight h0 hs
theorem nf_exists (h : Int) (f : Int → Int) : ∃ p : Pol, ∀ N : Nat, 0 < h → sup f N → isNf h N f p := by
  by_cases hx : ∃ N : Nat, 0 < h ∧ sup f N
  · obtain ⟨N, h0, hs⟩ := hx
    have hv : ∀ k, atP (-(N : Int)) (lstI (2 * N + 1) fun i => rho h (f ((i : Int) - N))) k = rho h (f k) := by
      intro k
      unfold atP
      rw [lstI_length]
      split
      · rw [nth_lstI (by omega)]
        congr 2; omega
      · rw [hs k (by omega), rho_zero h0]
    exact ⟨_, fun M _ hs2 => isNf_trim h0 (N := N) (Int.le_refl _) (by rw [lstI_length]; omega) (by omega) hv hs2⟩
  · exact ⟨(0, []), fun N h0 hs => absurd ⟨N, h0, hs⟩ hx⟩
/-- the normal form of f modulo 2 h -/
noncomputable def nf (h : Int) (f : Int → Int) : Pol := Classical.choose (nf_exists h f)
theorem nf_is {h : Int} (h0 : 0 < h) {f : Int → Int} {N : Nat} (hs : sup f N) : isNf h N f (nf h f) := Classical.choose_spec (nf_exists h f) N h0 hs
theorem nf_eq {h : Int} (h0 : 0 < h) {f : Int → Int} {N M : Nat} {p : Pol} (hs : sup f N) (hp : isNf h M f p) : nf h f = p := isNf_eq (nf_is h0 hs) hp fun _ => rfl
theorem nf_congr {h : Int} (h0 : 0 < h) {f g : Int → Int} {N M : Nat} (hf : sup f N) (hg : sup g M) (e : ∀ k, rho h (f k) = rho h (g k)) : nf h f = nf h g := isNf_eq (nf_is h0 hf) (nf_is h0 hg) e
theorem isNf.len {h : Int} {N : Nat} {f : Int → Int} {p : Pol} (hp : isNf h N f p) : p.2.length ≤ 2 * N + 1 := by have := hp.lo; have := hp.hi; omega
theorem isNf.bd {h : Int} (h0 : 0 < h) {N : Nat} {f : Int → Int} {p : Pol} (hp : isNf h N f p) (i : Nat) : -h ≤ nth p.2 i ∧ nth p.2 i < h := by
  rcases Nat.lt_or_ge i p.2.length with hi | hi
  · rw [← val_at p hi, hp.v]
    exact rho_lt h0 _
  · rw [nth_over hi]; omega
theorem isNf.fits {N : Nat} {f : Int → Int} {p : Pol} (hp : isNf 9223372036854775808 N f p) : Fits p.2 := fun x hx => by
  obtain ⟨i, hi, rfl⟩ := List.mem_iff_getElem.1 hx
  have := hp.bd (by decide) i
  rw [show nth p.2 i = p.2[i] by simp [nth, hi]] at this
  omega
theorem isNf.fw {N : Nat} {f : Int → Int} {p : Pol} (hp : isNf 57896044618658097711785492504343953926634992332820282019728792003956564819968 N f p) : Fw p.2 := fun i _ => hp.bd (by decide) i
theorem isNf.zero {h : Int} {N : Nat} {f : Int → Int} {p : Pol} (hp : isNf h N f p) (h1 : p.2.length = 0) (k : Int) : rho h (f k) = 0 := by rw [← hp.v]; exact val_out p (by omega)
end Go.Proofs.Ytikakoclmmmjdaa
namespace Go.Proofs.Ytikakoclmmmjdaa
open Go.RowKit
set_option linter.unusedSimpArgs false
set_option linter.unusedVariables false
open Go.RowKit
theorem atP_take_full (m : Int) (ys : List Int) (z : Int) : atP m (ys.take ys.length) z = atP m ys z := by rw [List.take_length]
/-- the list behind i rounds of the second loop -/
def fC (s n : Int) (xs : List Int) (m : Int) (ys : List Int) (lo : Int) (i : Nat) : Nat → Int := fun j => wrap64 (atP n xs (lo + j) + s * atP m (ys.take i) (lo + j))
theorem atP_bd {n : Int} {xs : List Int} {h : Int} (h0 : 0 < h) (hx : ∀ i, -h ≤ nth xs i ∧ nth xs i < h) (z : Int) : -h ≤ atP n xs z ∧ atP n xs z < h := by
  unfold atP
  split
  · exact hx _
  · omega
theorem fC_zero {s n : Int} {xs : List Int} {m : Int} {ys : List Int} {lo : Int} (hx : ∀ i, -9223372036854775808 ≤ nth xs i ∧ nth xs i < 9223372036854775808) : fA n xs lo xs.length = fC s n xs m ys lo 0 := by
  funext j
  have := atP_bd (n := n) (by decide) hx (lo + j)
  simp only [fA, fC, List.take_length, List.take_zero, atP_none, Int.mul_zero, Int.add_zero]
  rw [← rho_wrap, rho_in this.1 this.2]
theorem fC_step {s n : Int} {xs : List Int} {m : Int} {ys : List Int} {lo : Int} {k p N : Nat} (hk : k < ys.length) (hp : lo + p = m + k) : (lstI N (fC s n xs m ys lo k)).set p (wrap64 (fC s n xs m ys lo k p + wrap64 (s * nth ys k))) = lstI N (fC s n xs m ys lo (k + 1)) := by
  rw [lstI_set]
  refine lstI_ext fun j hj => ?_
  simp only [fC, atP_step hk]
  by_cases e : j = p
  · subst e
    rw [if_pos rfl, if_pos hp, hp, atP_end, Int.mul_zero, Int.add_zero, ← rho_wrap, ← rho_wrap, ← rho_wrap, ← rho_wrap, rho_add]
  · rw [if_neg e, if_neg (by omega)]
theorem rho_lin (h s x y : Int) : rho h (rho h x + s * rho h y) = rho h (x + s * y) := by
  rw [rho_add_left, ← rho_add_right h x (s * rho h y), rho_mul_right, rho_add_right]
theorem add_fin {s : Int} {f g : Int → Int} {N A M : Nat} {n : Int} {xs : List Int} {m : Int} {ys : List Int} {lo : Int} (hp : isNf 9223372036854775808 A f (n, xs)) (hq : isNf 9223372036854775808 A g (m, ys)) (hM : sup (fun x => f x + s * g x) M) (h1 : -(A : Int) ≤ lo) (h2 : lo + N ≤ A + 1) (h3 : lo ≤ A)
    (hx : xs.length = 0 ∨ (lo ≤ n ∧ n + xs.length ≤ lo + N)) (hy : ys.length = 0 ∨ (lo ≤ m ∧ m + ys.length ≤ lo + N)) : nf 9223372036854775808 (fun x => f x + s * g x) = (trimLow lo (lstI N (fC s n xs m ys lo ys.length)), trimLst (lstI N (fC s n xs m ys lo ys.length))) := by
  refine nf_eq (by decide) hM (isNf_trim (by decide) (N := A) h1 (by rw [lstI_length]; exact h2) h3 (fun k => ?_) hM)
  have v1 : atP n xs k = rho 9223372036854775808 (f k) := hp.v k
  have v2 : atP m ys k = rho 9223372036854775808 (g k) := hq.v k
  have hr : rho 9223372036854775808 (f k + s * g k) = rho 9223372036854775808 (atP n xs k + s * atP m ys k) := by
    rw [v1, v2]
    exact (rho_lin _ s (f k) (g k)).symm
  show atP lo (lstI N (fC s n xs m ys lo ys.length)) k = _
  rw [hr]
  by_cases hk : lo ≤ k ∧ k < lo + N
  · obtain ⟨j, rfl⟩ : ∃ j : Nat, k = lo + j := ⟨(k - lo).toNat, by omega⟩
    have hj : j < N := by omega
    rw [atP_in (by rw [lstI_length]; exact hj), nth_lstI hj]
    simp only [fC, List.take_length]
    rw [rho_wrap]
  · have e1 : atP n xs k = 0 := by
      unfold atP
      rw [if_neg (by omega)]
    have e2 : atP m ys k = 0 := by
      unfold atP
      rw [if_neg (by omega)]
    rw [e1, e2, Int.mul_zero, Int.add_zero, rho_zero (by decide)]
    unfold atP
    rw [lstI_length, if_neg (by omega)]
theorem add_right_nil {s : Int} {f g : Int → Int} {A B M : Nat} {n : Int} {xs : List Int} {m : Int} {ys : List Int} (hp : isNf 9223372036854775808 A f (n, xs)) (hq : isNf 9223372036854775808 B g (m, ys)) (hM : sup (fun x => f x + s * g x) M) (hy : ys.length = 0) : nf 9223372036854775808 (fun x => f x + s * g x) = (n, xs) :=
  nf_eq (by decide) hM (hp.congr fun k => by
    have := hq.zero hy k
    rw [← rho_add_right, ← rho_mul_right, this, Int.mul_zero, rho_zero (by decide), Int.add_zero])
theorem sup_add {f g : Int → Int} {N : Nat} (s : Int) (hf : sup f N) (hg : sup g N) : sup (fun x => f x + s * g x) N := fun k hk => by
  show f k + s * g k = 0
  rw [hf k hk, hg k hk, Int.mul_zero]; rfl
set_option maxHeartbeats 4000000 in
theorem l05Add_nf (s n : Int) (v1 : Value) (xs : List Int) (m : Int) (v2 : Value) (ys : List Int) (f g : Int → Int) (A : Nat) (w : World) (h1 : reads w v1 xs) (h2 : reads w v2 ys) (k1 : isNf 9223372036854775808 A f (n, xs)) (k2 : isNf 9223372036854775808 A g (m, ys)) (hA : A ≤ 3000) (hM : sup (fun x => f x + s * g x) A) : Calls Try.prog 35 #[.agg #[.int .i64 n, v1], .agg #[.int .i64 m, v2], .int .i64 s] w (RetB 2 w (nf 9223372036854775808 (fun x => f x + s * g x)).1 (nf 9223372036854775808 (fun x => f x + s * g x)).2) := by
  have i1 : -(A : Int) ≤ n := k1.lo
  have i2 : n + xs.length ≤ A + 1 := k1.hi
  have i3 : n ≤ A := k1.ab
  have l1 : -(A : Int) ≤ m := k2.lo
  have l2 : m + ys.length ≤ A + 1 := k2.hi
  have l3 : m ≤ A := k2.ab
  have HX := Lib.hid (k1.bd (by decide))
  have H1 := Lib.hid h1
  have H2 := Lib.hid h2
  obtain ⟨a1, c1, rfl⟩ := readsL_form h1
  obtain ⟨a2, c2, rfl⟩ := readsL_form h2
  by_cases hy : ys.length = 0
  · rw [add_right_nil k1 k2 hM hy]
    obtain rfl := List.eq_nil_of_length_eq_zero hy
    have HC := Lib.hid (fun w' (hb : Below w.heap.size w w') => l01Own_any _ xs w' (h1.kept hb) (by omega))
    clear h1 h2 k1 k2 hM hy
    go_enter Try.func35, Try.ntmps35
    go_upto_region 2 with (fail)
    go_region_with (first | (go_at_call 54; refine Calls.mono (HC.out _ ?_) ?_; (repeat (first | (with_reducible exact Below.refl _ _) | (with_reducible assumption) | (with_reducible refine below_plus' ?_ ?_; ((try simp only [plus_size, World.size_alloc, World.size_drew, World.size_setCell, size_setRow, World.heap_drewN, List.length_append]) <;> omega)) | (with_reducible refine below_alloc' ?_ ?_; ((try simp only [plus_size, World.size_alloc, World.size_drew, World.size_setCell, size_setRow, World.heap_drewN, List.length_append]) <;> omega)) | with_reducible refine Below.drew ?_ | (with_reducible refine below_drewN' ?_ _) | exact Below.refl _ _)); intro e w' hh; obtain ⟨vG, rfl, hB, hoG⟩ := retI_form hh; clear hh; have hrG := hoG.reads; obtain ⟨aG, cG, rfl⟩ := readsL_form hrG; obtain ⟨j, d, rfl⟩ := plus_of_below hB; clear hB))
    all_goals
      go_wp2
      refine bodyPost_ret (v := .agg #[.int .i64 n, .slice aG xs.length cG]) (by simp [results, Try.results35, go_sem]) rfl ?_
      exact ⟨_, rfl, by (repeat (first | (with_reducible exact Below.refl _ _) | (with_reducible assumption) | (with_reducible refine below_plus' ?_ ?_; ((try simp only [plus_size, World.size_alloc, World.size_drew, World.size_setCell, size_setRow, World.heap_drewN, List.length_append]) <;> omega)) | (with_reducible refine below_alloc' ?_ ?_; ((try simp only [plus_size, World.size_alloc, World.size_drew, World.size_setCell, size_setRow, World.heap_drewN, List.length_append]) <;> omega)) | with_reducible refine Below.drew ?_ | (with_reducible refine below_drewN' ?_ _) | exact Below.refl _ _)), by ((try simp only [plus_plus] at hoG ⊢); exact own_farG hoG (by ((try simp only [plus_size, World.size_alloc, World.size_drew, World.size_setCell, size_setRow, World.heap_drewN, List.length_append]) <;> omega)) (by ((try simp only [plus_size, World.size_alloc, World.size_drew, World.size_setCell, size_setRow, World.heap_drewN, List.length_append]) <;> omega)) (by ((try simp only [plus_size, World.size_alloc, World.size_drew, World.size_setCell, size_setRow, World.heap_drewN, List.length_append]) <;> omega)) (by (repeat (first | (with_reducible exact List.prefix_rfl) | (with_reducible exact List.nil_prefix) | (refine List.IsPrefix.trans ?_ (List.prefix_append _ _))))))⟩
  · have hyb : ((ys.length : Int) == 0) = false := beq_eq_false_iff_ne.2 (by omega)
    by_cases hx : xs.length = 0
    · rw [add_fin (N := ys.length) (lo := m) k1 k2 hM l1 l2 l3 (.inl hx) (.inr ⟨by omega, by omega⟩)]
      have HX0 := Lib.hid hx
      have hxn : ¬ (0 : Int) < (xs.length : Int) := by omega
      clear hx
      have hNN : m + (ys.length : Int) - m = (ys.length : Int) := by omega
      generalize hr : trimLow m (lstI ys.length (fC s n xs m ys m ys.length)) = r
      generalize hR : trimLst (lstI ys.length (fC s n xs m ys m ys.length)) = R
      have HrR := Lib.hid (And.intro hr hR)
      clear hr hR
      clear h1 h2 k1 k2 hM
      go_enter Try.func35, Try.ntmps35
      go_upto_region 3 with (fail)
      go_quiet (fail)
      go_wp2_with (first | (at_make; refine wpList_make_ints _ rfl _ _ 22 rfl 2 Try.underlying22 infoI ys.length rfl rfl (by omega) ?_; intro w' ho hB; replace hB := Below.trans (show Below (((w.alloc (.cells #[.int .i64 n, .slice a1 xs.length c1] 37)).alloc (.cells #[.int .i64 m, .slice a2 ys.length c2] 37)).alloc (.cells #[.int .i64 0, .slice none 0 0] 37)).heap.size (((w.alloc (.cells #[.int .i64 n, .slice a1 xs.length c1] 37)).alloc (.cells #[.int .i64 m, .slice a2 ys.length c2] 37)).alloc (.cells #[.int .i64 0, .slice none 0 0] 37)) _ by (repeat (first | (with_reducible exact Below.refl _ _) | (with_reducible assumption) | (with_reducible refine below_plus' ?_ ?_; ((try simp only [plus_size, World.size_alloc, World.size_drew, World.size_setCell, size_setRow, World.heap_drewN, List.length_append]) <;> omega)) | (with_reducible refine below_alloc' ?_ ?_; ((try simp only [plus_size, World.size_alloc, World.size_drew, World.size_setCell, size_setRow, World.heap_drewN, List.length_append]) <;> omega)) | with_reducible refine Below.drew ?_ | (with_reducible refine below_drewN' ?_ _) | exact Below.refl _ _))) hB; (simp only [lstI_zero, World.heap_drewN, World.size_alloc] at ho)))
      go_loopw [10] (fun sl wr => ∃ (k : Nat), k ≤ xs.length ∧ sl = .int .i64 k ∧ own 2 wr (((w.alloc (.cells #[.int .i64 n, .slice a1 xs.length c1] 37)).alloc (.cells #[.int .i64 m, .slice a2 ys.length c2] 37)).alloc (.cells #[.int .i64 0, .slice none 0 0] 37)).heap.size (.slice (some ⟨w.heap.size + 1 + 1 + 1, 0, none⟩) ys.length ys.length) (lstI ys.length (fA n xs m k)) ∧ Below (((w.alloc (.cells #[.int .i64 n, .slice a1 xs.length c1] 37)).alloc (.cells #[.int .i64 m, .slice a2 ys.length c2] 37)).alloc (.cells #[.int .i64 0, .slice none 0 0] 37)).heap.size (((w.alloc (.cells #[.int .i64 n, .slice a1 xs.length c1] 37)).alloc (.cells #[.int .i64 m, .slice a2 ys.length c2] 37)).alloc (.cells #[.int .i64 0, .slice none 0 0] 37)) wr) (fun sl _ => xs.length - (intOf sl).toNat)
      case atStart => exact ⟨0, by omega, by go_num, by rw [fA_zero]; exact ho.mono (by ((try simp only [plus_size, World.size_alloc, World.size_drew, World.size_setCell, size_setRow, World.heap_drewN, List.length_append]) <;> omega)), by (repeat (first | (with_reducible exact Below.refl _ _) | (with_reducible assumption) | (with_reducible refine below_plus' ?_ ?_; ((try simp only [plus_size, World.size_alloc, World.size_drew, World.size_setCell, size_setRow, World.heap_drewN, List.length_append]) <;> omega)) | (with_reducible refine below_alloc' ?_ ?_; ((try simp only [plus_size, World.size_alloc, World.size_drew, World.size_setCell, size_setRow, World.heap_drewN, List.length_append]) <;> omega)) | with_reducible refine Below.drew ?_ | (with_reducible refine below_drewN' ?_ _) | exact Below.refl _ _))⟩
      case round =>
        clear ho hB
        obtain ⟨k, hk, rfl, hown, hbel⟩ := hrel
        obtain ⟨j0, d0, rfl⟩ := plus_of_below hbel
        obtain rfl : k = xs.length := by have := HX0.out; omega
        rw [fC_zero (s := s) (m := m) (ys := ys) HX.out] at hown
        go_wp2
        go_loopw [11] (fun sl wr => ∃ (k : Nat), k ≤ ys.length ∧ sl = .int .i64 k ∧ own 2 wr (((w.alloc (.cells #[.int .i64 n, .slice a1 xs.length c1] 37)).alloc (.cells #[.int .i64 m, .slice a2 ys.length c2] 37)).alloc (.cells #[.int .i64 0, .slice none 0 0] 37)).heap.size (.slice (some ⟨w.heap.size + 1 + 1 + 1, 0, none⟩) ys.length ys.length) (lstI ys.length (fC s n xs m ys m k)) ∧ Below (((w.alloc (.cells #[.int .i64 n, .slice a1 xs.length c1] 37)).alloc (.cells #[.int .i64 m, .slice a2 ys.length c2] 37)).alloc (.cells #[.int .i64 0, .slice none 0 0] 37)).heap.size (((w.alloc (.cells #[.int .i64 n, .slice a1 xs.length c1] 37)).alloc (.cells #[.int .i64 m, .slice a2 ys.length c2] 37)).alloc (.cells #[.int .i64 0, .slice none 0 0] 37)) wr) (fun sl _ => ys.length - (intOf sl).toNat)
        case atStart => exact ⟨0, by omega, by go_num, hown, hbel⟩
        case round =>
          clear hown hbel
          obtain ⟨k, hk, rfl, hown, hbel⟩ := hrel
          obtain ⟨j0, d0, rfl⟩ := plus_of_below hbel
          by_cases hlt : k < ys.length
          · obtain ⟨b, o, rfl, hbk, mm⟩ := reads_cells H2.out (by omega)
            have g1 := mm k hlt
            have hb1 : b < w.heap.size + 1 := by omega
            have hb2 : b < w.heap.size + 1 + 1 := by omega
            have hb3 : b < w.heap.size + 1 + 1 + 1 := by omega
            have hb4 : b < w.heap.size + 1 + 1 + 1 + j0.length := by omega
            clear mm
            have hp : m - m + (k : Int) = k := by omega
            have hp1 : (k : Int) < (ys.length : Int) := by omega
            have hpn : k < ys.length := by omega
            have hgl := (hown.lt _ rfl).2
            (simp only [plus_size, World.size_alloc] at hgl)
            have c5 := hown.cell (i := k) (by rw [lstI_length]; exact hpn)
            rw [nth_lstI hpn] at c5
            have HST := Lib.hid (fC_step (s := s) (n := n) (xs := xs) (m := m) (ys := ys) (lo := m) (k := k) (p := k) (N := ys.length) hlt (by omega))
            generalize fC s n xs m ys m k k = C at c5 HST
            go_wp2_with fail
            refine region_plus_tail 15 (by kernel_rfl) (by kernel_rfl) ?_
            simp only [List.take_succ_cons, List.take_zero, List.drop_succ_cons, List.drop_zero]
            repeat (go_big_quiet_step (first | fail))
            refine wpQuiet_nil ?_
            intro _ hw'
            obtain ⟨q, hw''⟩ := hw'
            subst hw''
            rw [plusq_eq]
            generalize q.j = j
            generalize q.d = d
            clear q
            rw [plus_plus]
            have hown1 := own_plus (j' := j) (d' := d) hown
            have f1 := hown1.free k
            have c6 := hown1.cell (i := k) (by rw [lstI_length]; exact hpn)
            have hg1 := (hown1.lt _ rfl).2
            (simp only [plus_size, World.size_alloc] at hg1)
            go_wp2
            refine ⟨⟨k + 1, by omega, by go_num, ?_, ?_⟩, ?_⟩
            · have e := hown1.set k (wrap64 (C + wrap64 (s * nth ys k)))
              rw [HST.out] at e
              exact e
            · exact (show Below (((w.alloc (.cells #[.int .i64 n, .slice a1 xs.length c1] 37)).alloc (.cells #[.int .i64 m, .slice (some ⟨b, o, none⟩) ys.length c2] 37)).alloc (.cells #[.int .i64 0, .slice none 0 0] 37)).heap.size (((w.alloc (.cells #[.int .i64 n, .slice a1 xs.length c1] 37)).alloc (.cells #[.int .i64 m, .slice (some ⟨b, o, none⟩) ys.length c2] 37)).alloc (.cells #[.int .i64 0, .slice none 0 0] 37)) (plus (((w.alloc (.cells #[.int .i64 n, .slice a1 xs.length c1] 37)).alloc (.cells #[.int .i64 m, .slice (some ⟨b, o, none⟩) ys.length c2] 37)).alloc (.cells #[.int .i64 0, .slice none 0 0] 37)) (j0 ++ j) d) by (repeat (first | (with_reducible exact Below.refl _ _) | (with_reducible assumption) | (with_reducible refine below_plus' ?_ ?_; ((try simp only [plus_size, World.size_alloc, World.size_drew, World.size_setCell, size_setRow, World.heap_drewN, List.length_append]) <;> omega)) | (with_reducible refine below_alloc' ?_ ?_; ((try simp only [plus_size, World.size_alloc, World.size_drew, World.size_setCell, size_setRow, World.heap_drewN, List.length_append]) <;> omega)) | with_reducible refine Below.drew ?_ | (with_reducible refine below_drewN' ?_ _) | exact Below.refl _ _))).trans (below_of_grown (grownBy_setCell _ _ _ _) (by ((try simp only [plus_size, World.size_alloc, World.size_drew, World.size_setCell, size_setRow, World.heap_drewN, List.length_append]) <;> omega)) (fun q hq => by cases hq; ((try simp only [plus_size, World.size_alloc, World.size_drew, World.size_setCell, size_setRow, World.heap_drewN, List.length_append]) <;> omega)))
            · simp [intOf]; omega
          · obtain rfl : k = ys.length := by omega
            have HTr := l05Trim_any m _ ys.length (lstI ys.length (fC s n xs m ys m ys.length)) _ (by rw [lstI_length]; exact hown.reads) (by rw [lstI_length]; exact Nat.le_refl _) (by rw [lstI_length]; omega) (by omega) (by omega)
            rw [lstI_length, HrR.out.1, HrR.out.2] at HTr
            replace HTr := Lib.hid HTr
            clear hown
            go_wp2_with (first | (go_at_call 55; with_reducible refine Calls.mono HTr.out ?_; intro e w' hh; obtain ⟨vG, rfl, hB, hoG⟩ := retB_form hh; clear hh; have hrG := hoG.reads; obtain ⟨aG, cG, rfl⟩ := readsL_form hrG; obtain ⟨j, d, rfl⟩ := plus_of_below hB; clear hB))
            refine bodyPost_ret (v := .agg #[.int .i64 r, .slice aG R.length cG]) (by simp [results, Try.results35, go_sem]) rfl ?_
            exact ⟨_, rfl, by (repeat (first | (with_reducible exact Below.refl _ _) | (with_reducible assumption) | (with_reducible refine below_plus' ?_ ?_; ((try simp only [plus_size, World.size_alloc, World.size_drew, World.size_setCell, size_setRow, World.heap_drewN, List.length_append]) <;> omega)) | (with_reducible refine below_alloc' ?_ ?_; ((try simp only [plus_size, World.size_alloc, World.size_drew, World.size_setCell, size_setRow, World.heap_drewN, List.length_append]) <;> omega)) | with_reducible refine Below.drew ?_ | (with_reducible refine below_drewN' ?_ _) | exact Below.refl _ _)), by ((try simp only [plus_plus] at hoG ⊢); exact own_farG hoG (by ((try simp only [plus_size, World.size_alloc, World.size_drew, World.size_setCell, size_setRow, World.heap_drewN, List.length_append]) <;> omega)) (by ((try simp only [plus_size, World.size_alloc, World.size_drew, World.size_setCell, size_setRow, World.heap_drewN, List.length_append]) <;> omega)) (by ((try simp only [plus_size, World.size_alloc, World.size_drew, World.size_setCell, size_setRow, World.heap_drewN, List.length_append]) <;> omega)) (by (repeat (first | (with_reducible exact List.prefix_rfl) | (with_reducible exact List.nil_prefix) | (refine List.IsPrefix.trans ?_ (List.prefix_append _ _))))))⟩
    · obtain ⟨lo, hlo⟩ : ∃ lo, loP n m = lo := ⟨_, rfl⟩
      obtain ⟨hi, hhi⟩ : ∃ hi, hiP n m xs ys = hi := ⟨_, rfl⟩
      have q1 : (if n < m then n else m) = lo := by rw [← hlo]; unfold loP; split <;> split <;> omega
      have q2 : (if m + (ys.length : Int) < n + (xs.length : Int) then n + (xs.length : Int) else m + (ys.length : Int)) = hi := by rw [← hhi]; unfold hiP; split <;> split <;> omega
      have b1 : lo ≤ n := by rw [← q1]; split <;> omega
      have b2 : lo ≤ m := by rw [← q1]; split <;> omega
      have b3 : n + xs.length ≤ hi := by rw [← q2]; split <;> omega
      have b4 : m + ys.length ≤ hi := by rw [← q2]; split <;> omega
      have b5 : -(A : Int) ≤ lo := by rw [← q1]; split <;> omega
      have b6 : hi ≤ A + 1 := by rw [← q2]; split <;> omega
      obtain ⟨N, rfl⟩ : ∃ N : Nat, hi = lo + N := ⟨(hi - lo).toNat, by omega⟩
      have hNN : lo + (N : Int) - lo = (N : Int) := by omega
      rw [add_fin (N := N) (lo := lo) k1 k2 hM b5 (by omega) (by omega) (.inr ⟨b1, b3⟩) (.inr ⟨b2, b4⟩)]
      have hxb : ((xs.length : Int) == 0) = false := beq_eq_false_iff_ne.2 (by omega)
      generalize hr : trimLow lo (lstI N (fC s n xs m ys lo ys.length)) = r
      generalize hR : trimLst (lstI N (fC s n xs m ys lo ys.length)) = R
      have HrR := Lib.hid (And.intro hr hR)
      clear hr hR
      clear h1 h2 k1 k2 hM hlo hhi
      go_enter Try.func35, Try.ntmps35
      go_upto_region 3 with (fail)
      go_quiet (fail)
      go_upto_region 7 with (fail)
      clear q1 q2
      go_wp2_with (first | (at_make; refine wpList_make_ints _ rfl _ _ 22 rfl 2 Try.underlying22 infoI N rfl rfl (by omega) ?_; intro w' ho hB; replace hB := Below.trans (show Below (((w.alloc (.cells #[.int .i64 n, .slice a1 xs.length c1] 37)).alloc (.cells #[.int .i64 m, .slice a2 ys.length c2] 37)).alloc (.cells #[.int .i64 0, .slice none 0 0] 37)).heap.size (((w.alloc (.cells #[.int .i64 n, .slice a1 xs.length c1] 37)).alloc (.cells #[.int .i64 m, .slice a2 ys.length c2] 37)).alloc (.cells #[.int .i64 0, .slice none 0 0] 37)) _ by (repeat (first | (with_reducible exact Below.refl _ _) | (with_reducible assumption) | (with_reducible refine below_plus' ?_ ?_; ((try simp only [plus_size, World.size_alloc, World.size_drew, World.size_setCell, size_setRow, World.heap_drewN, List.length_append]) <;> omega)) | (with_reducible refine below_alloc' ?_ ?_; ((try simp only [plus_size, World.size_alloc, World.size_drew, World.size_setCell, size_setRow, World.heap_drewN, List.length_append]) <;> omega)) | with_reducible refine Below.drew ?_ | (with_reducible refine below_drewN' ?_ _) | exact Below.refl _ _))) hB; (simp only [lstI_zero, World.heap_drewN, World.size_alloc] at ho)))
      go_loopw [10] (fun sl wr => ∃ (k : Nat), k ≤ xs.length ∧ sl = .int .i64 k ∧ own 2 wr (((w.alloc (.cells #[.int .i64 n, .slice a1 xs.length c1] 37)).alloc (.cells #[.int .i64 m, .slice a2 ys.length c2] 37)).alloc (.cells #[.int .i64 0, .slice none 0 0] 37)).heap.size (.slice (some ⟨w.heap.size + 1 + 1 + 1, 0, none⟩) N N) (lstI N (fA n xs lo k)) ∧ Below (((w.alloc (.cells #[.int .i64 n, .slice a1 xs.length c1] 37)).alloc (.cells #[.int .i64 m, .slice a2 ys.length c2] 37)).alloc (.cells #[.int .i64 0, .slice none 0 0] 37)).heap.size (((w.alloc (.cells #[.int .i64 n, .slice a1 xs.length c1] 37)).alloc (.cells #[.int .i64 m, .slice a2 ys.length c2] 37)).alloc (.cells #[.int .i64 0, .slice none 0 0] 37)) wr) (fun sl _ => xs.length - (intOf sl).toNat)
      case atStart => exact ⟨0, by omega, by go_num, by rw [fA_zero]; exact ho.mono (by ((try simp only [plus_size, World.size_alloc, World.size_drew, World.size_setCell, size_setRow, World.heap_drewN, List.length_append]) <;> omega)), by (repeat (first | (with_reducible exact Below.refl _ _) | (with_reducible assumption) | (with_reducible refine below_plus' ?_ ?_; ((try simp only [plus_size, World.size_alloc, World.size_drew, World.size_setCell, size_setRow, World.heap_drewN, List.length_append]) <;> omega)) | (with_reducible refine below_alloc' ?_ ?_; ((try simp only [plus_size, World.size_alloc, World.size_drew, World.size_setCell, size_setRow, World.heap_drewN, List.length_append]) <;> omega)) | with_reducible refine Below.drew ?_ | (with_reducible refine below_drewN' ?_ _) | exact Below.refl _ _))⟩
      case round =>
        clear ho hB
        obtain ⟨k, hk, rfl, hown, hbel⟩ := hrel
        obtain ⟨j0, d0, rfl⟩ := plus_of_below hbel
        by_cases hlt : k < xs.length
        · obtain ⟨b, o, rfl, hbk, mm⟩ := reads_cells H1.out (by omega)
          have g1 := mm k hlt
          have hb1 : b < w.heap.size + 1 := by omega
          have hb2 : b < w.heap.size + 1 + 1 := by omega
          have hb3 : b < w.heap.size + 1 + 1 + 1 := by omega
          have hb4 : b < w.heap.size + 1 + 1 + 1 + j0.length := by omega
          clear mm
          obtain ⟨p, hp⟩ : ∃ p : Nat, n - lo + (k : Int) = p := ⟨(n - lo + (k : Int)).toNat, by omega⟩
          have hp1 : (p : Int) < (N : Int) := by omega
          have hpn : p < N := by omega
          have hgl := (hown.lt _ rfl).2
          (simp only [plus_size, World.size_alloc] at hgl)
          go_wp2_with fail
          refine region_plus_tail 13 (by kernel_rfl) (by kernel_rfl) ?_
          simp only [List.take_succ_cons, List.take_zero, List.drop_succ_cons, List.drop_zero]
          repeat (go_big_quiet_step (first | fail))
          refine wpQuiet_nil ?_
          intro _ hw'
          obtain ⟨q, hw''⟩ := hw'
          subst hw''
          rw [plusq_eq]
          generalize q.j = j
          generalize q.d = d
          clear q
          rw [plus_plus]
          have hown1 := own_plus (j' := j) (d' := d) hown
          have f1 := hown1.free p
          have c6 := hown1.cell (i := p) (by rw [lstI_length]; exact hpn)
          have hg1 := (hown1.lt _ rfl).2
          (simp only [plus_size, World.size_alloc] at hg1)
          go_wp2
          refine ⟨⟨k + 1, by omega, by go_num, ?_, ?_⟩, ?_⟩
          · have e := hown1.set p (nth xs k)
            rw [fA_step hlt (by omega)] at e
            exact e
          · exact (show Below (((w.alloc (.cells #[.int .i64 n, .slice (some ⟨b, o, none⟩) xs.length c1] 37)).alloc (.cells #[.int .i64 m, .slice a2 ys.length c2] 37)).alloc (.cells #[.int .i64 0, .slice none 0 0] 37)).heap.size (((w.alloc (.cells #[.int .i64 n, .slice (some ⟨b, o, none⟩) xs.length c1] 37)).alloc (.cells #[.int .i64 m, .slice a2 ys.length c2] 37)).alloc (.cells #[.int .i64 0, .slice none 0 0] 37)) (plus (((w.alloc (.cells #[.int .i64 n, .slice (some ⟨b, o, none⟩) xs.length c1] 37)).alloc (.cells #[.int .i64 m, .slice a2 ys.length c2] 37)).alloc (.cells #[.int .i64 0, .slice none 0 0] 37)) (j0 ++ j) d) by (repeat (first | (with_reducible exact Below.refl _ _) | (with_reducible assumption) | (with_reducible refine below_plus' ?_ ?_; ((try simp only [plus_size, World.size_alloc, World.size_drew, World.size_setCell, size_setRow, World.heap_drewN, List.length_append]) <;> omega)) | (with_reducible refine below_alloc' ?_ ?_; ((try simp only [plus_size, World.size_alloc, World.size_drew, World.size_setCell, size_setRow, World.heap_drewN, List.length_append]) <;> omega)) | with_reducible refine Below.drew ?_ | (with_reducible refine below_drewN' ?_ _) | exact Below.refl _ _))).trans (below_of_grown (grownBy_setCell _ _ _ _) (by ((try simp only [plus_size, World.size_alloc, World.size_drew, World.size_setCell, size_setRow, World.heap_drewN, List.length_append]) <;> omega)) (fun q hq => by cases hq; ((try simp only [plus_size, World.size_alloc, World.size_drew, World.size_setCell, size_setRow, World.heap_drewN, List.length_append]) <;> omega)))
          · simp [intOf]; omega
        · obtain rfl : k = xs.length := by omega
          rw [fC_zero (s := s) (m := m) (ys := ys) HX.out] at hown
          go_wp2
          go_loopw [11] (fun sl wr => ∃ (k : Nat), k ≤ ys.length ∧ sl = .int .i64 k ∧ own 2 wr (((w.alloc (.cells #[.int .i64 n, .slice a1 xs.length c1] 37)).alloc (.cells #[.int .i64 m, .slice a2 ys.length c2] 37)).alloc (.cells #[.int .i64 0, .slice none 0 0] 37)).heap.size (.slice (some ⟨w.heap.size + 1 + 1 + 1, 0, none⟩) N N) (lstI N (fC s n xs m ys lo k)) ∧ Below (((w.alloc (.cells #[.int .i64 n, .slice a1 xs.length c1] 37)).alloc (.cells #[.int .i64 m, .slice a2 ys.length c2] 37)).alloc (.cells #[.int .i64 0, .slice none 0 0] 37)).heap.size (((w.alloc (.cells #[.int .i64 n, .slice a1 xs.length c1] 37)).alloc (.cells #[.int .i64 m, .slice a2 ys.length c2] 37)).alloc (.cells #[.int .i64 0, .slice none 0 0] 37)) wr) (fun sl _ => ys.length - (intOf sl).toNat)
          case atStart => exact ⟨0, by omega, by go_num, hown, hbel⟩
          case round =>
            clear hown hbel
            obtain ⟨k, hk, rfl, hown, hbel⟩ := hrel
            obtain ⟨j0, d0, rfl⟩ := plus_of_below hbel
            by_cases hlt : k < ys.length
            · obtain ⟨b, o, rfl, hbk, mm⟩ := reads_cells H2.out (by omega)
              have g1 := mm k hlt
              have hb1 : b < w.heap.size + 1 := by omega
              have hb2 : b < w.heap.size + 1 + 1 := by omega
              have hb3 : b < w.heap.size + 1 + 1 + 1 := by omega
              have hb4 : b < w.heap.size + 1 + 1 + 1 + j0.length := by omega
              clear mm
              obtain ⟨p, hp⟩ : ∃ p : Nat, m - lo + (k : Int) = p := ⟨(m - lo + (k : Int)).toNat, by omega⟩
              have hp1 : (p : Int) < (N : Int) := by omega
              have hpn : p < N := by omega
              have hgl := (hown.lt _ rfl).2
              (simp only [plus_size, World.size_alloc] at hgl)
              have c5 := hown.cell (i := p) (by rw [lstI_length]; exact hpn)
              rw [nth_lstI hpn] at c5
              have HST := Lib.hid (fC_step (s := s) (n := n) (xs := xs) (m := m) (ys := ys) (lo := lo) (k := k) (p := p) (N := N) hlt (by omega))
              generalize fC s n xs m ys lo k p = C at c5 HST
              go_wp2_with fail
              refine region_plus_tail 15 (by kernel_rfl) (by kernel_rfl) ?_
              simp only [List.take_succ_cons, List.take_zero, List.drop_succ_cons, List.drop_zero]
              repeat (go_big_quiet_step (first | fail))
              refine wpQuiet_nil ?_
              intro _ hw'
              obtain ⟨q, hw''⟩ := hw'
              subst hw''
              rw [plusq_eq]
              generalize q.j = j
              generalize q.d = d
              clear q
              rw [plus_plus]
              have hown1 := own_plus (j' := j) (d' := d) hown
              have f1 := hown1.free p
              have c6 := hown1.cell (i := p) (by rw [lstI_length]; exact hpn)
              have hg1 := (hown1.lt _ rfl).2
              (simp only [plus_size, World.size_alloc] at hg1)
              go_wp2
              refine ⟨⟨k + 1, by omega, by go_num, ?_, ?_⟩, ?_⟩
              · have e := hown1.set p (wrap64 (C + wrap64 (s * nth ys k)))
                rw [HST.out] at e
                exact e
              · exact (show Below (((w.alloc (.cells #[.int .i64 n, .slice a1 xs.length c1] 37)).alloc (.cells #[.int .i64 m, .slice (some ⟨b, o, none⟩) ys.length c2] 37)).alloc (.cells #[.int .i64 0, .slice none 0 0] 37)).heap.size (((w.alloc (.cells #[.int .i64 n, .slice a1 xs.length c1] 37)).alloc (.cells #[.int .i64 m, .slice (some ⟨b, o, none⟩) ys.length c2] 37)).alloc (.cells #[.int .i64 0, .slice none 0 0] 37)) (plus (((w.alloc (.cells #[.int .i64 n, .slice a1 xs.length c1] 37)).alloc (.cells #[.int .i64 m, .slice (some ⟨b, o, none⟩) ys.length c2] 37)).alloc (.cells #[.int .i64 0, .slice none 0 0] 37)) (j0 ++ j) d) by (repeat (first | (with_reducible exact Below.refl _ _) | (with_reducible assumption) | (with_reducible refine below_plus' ?_ ?_; ((try simp only [plus_size, World.size_alloc, World.size_drew, World.size_setCell, size_setRow, World.heap_drewN, List.length_append]) <;> omega)) | (with_reducible refine below_alloc' ?_ ?_; ((try simp only [plus_size, World.size_alloc, World.size_drew, World.size_setCell, size_setRow, World.heap_drewN, List.length_append]) <;> omega)) | with_reducible refine Below.drew ?_ | (with_reducible refine below_drewN' ?_ _) | exact Below.refl _ _))).trans (below_of_grown (grownBy_setCell _ _ _ _) (by ((try simp only [plus_size, World.size_alloc, World.size_drew, World.size_setCell, size_setRow, World.heap_drewN, List.length_append]) <;> omega)) (fun q hq => by cases hq; ((try simp only [plus_size, World.size_alloc, World.size_drew, World.size_setCell, size_setRow, World.heap_drewN, List.length_append]) <;> omega)))
              · simp [intOf]; omega
            · obtain rfl : k = ys.length := by omega
              have HTr := l05Trim_any lo _ N (lstI N (fC s n xs m ys lo ys.length)) _ (by rw [lstI_length]; exact hown.reads) (by rw [lstI_length]; exact Nat.le_refl _) (by rw [lstI_length]; omega) (by omega) (by omega)
              rw [lstI_length, HrR.out.1, HrR.out.2] at HTr
              replace HTr := Lib.hid HTr
              clear hown
              go_wp2_with (first | (go_at_call 55; with_reducible refine Calls.mono HTr.out ?_; intro e w' hh; obtain ⟨vG, rfl, hB, hoG⟩ := retB_form hh; clear hh; have hrG := hoG.reads; obtain ⟨aG, cG, rfl⟩ := readsL_form hrG; obtain ⟨j, d, rfl⟩ := plus_of_below hB; clear hB))
              refine bodyPost_ret (v := .agg #[.int .i64 r, .slice aG R.length cG]) (by simp [results, Try.results35, go_sem]) rfl ?_
              exact ⟨_, rfl, by (repeat (first | (with_reducible exact Below.refl _ _) | (with_reducible assumption) | (with_reducible refine below_plus' ?_ ?_; ((try simp only [plus_size, World.size_alloc, World.size_drew, World.size_setCell, size_setRow, World.heap_drewN, List.length_append]) <;> omega)) | (with_reducible refine below_alloc' ?_ ?_; ((try simp only [plus_size, World.size_alloc, World.size_drew, World.size_setCell, size_setRow, World.heap_drewN, List.length_append]) <;> omega)) | with_reducible refine Below.drew ?_ | (with_reducible refine below_drewN' ?_ _) | exact Below.refl _ _)), by ((try simp only [plus_plus] at hoG ⊢); exact own_farG hoG (by ((try simp only [plus_size, World.size_alloc, World.size_drew, World.size_setCell, size_setRow, World.heap_drewN, List.length_append]) <;> omega)) (by ((try simp only [plus_size, World.size_alloc, World.size_drew, World.size_setCell, size_setRow, World.heap_drewN, List.length_append]) <;> omega)) (by ((try simp only [plus_size, World.size_alloc, World.size_drew, World.size_setCell, size_setRow, World.heap_drewN, List.length_append]) <;> omega)) (by (repeat (first | (with_reducible exact List.prefix_rfl) | (with_reducible exact List.nil_prefix) | (refine List.IsPrefix.trans ?_ (List.prefix_append _ _))))))⟩
end Go.Proofs.Ytikakoclmmmjdaa
namespace Go.Proofs.Ytikakoclmmmjdaa
open Go.RowKit
set_option linter.unusedSimpArgs false
set_option linter.unusedVariables false
open Go.RowKit
/-- the sums of products, behind i rounds, and behind k steps of the next one -/
def cvR (xs ys : List Int) : Nat → Nat → Int
  | 0, _ => 0
  | i + 1, t => cvR xs ys i t + (if i ≤ t then nth xs i * nth ys (t - i) else 0)
def cvP (xs ys : List Int) (i k t : Nat) : Int := cvR xs ys i t + (if i ≤ t ∧ t < i + k then nth xs i * nth ys (t - i) else 0)
theorem cvP_zero (xs ys : List Int) (i : Nat) : cvP xs ys i 0 = cvR xs ys i := by
  funext t
  unfold cvP
  rw [if_neg (by omega), Int.add_zero]
theorem cvP_full {xs ys : List Int} {i N : Nat} : lstI N (cvP xs ys i ys.length) = lstI N (cvR xs ys (i + 1)) := by
  refine lstI_ext fun j hj => ?_
  unfold cvP
  rw [cvR]
  by_cases h : i ≤ j
  · by_cases h2 : j < i + ys.length
    · rw [if_pos ⟨h, h2⟩, if_pos h]
    · rw [if_neg (by omega), if_pos h, nth_over (xs := ys) (by omega), Int.mul_zero]
  · rw [if_neg (by omega), if_neg h]
theorem cvR_zero (xs ys : List Int) : cvR xs ys 0 = fun _ => 0 := by funext t; rfl
theorem cvR_sum (xs ys : List Int) (t : Nat) : ∀ i, cvR xs ys i t = sumT (fun j => if j ≤ t then nth xs j * nth ys (t - j) else 0) i
  | 0 => rfl
  | i + 1 => by rw [cvR, cvR_sum xs ys t i]; rfl
theorem sumT_win {h : Nat → Int} {a len n : Nat} (hl : a + len ≤ n) (h0 : ∀ i, i < n → ¬ (a ≤ i ∧ i < a + len) → h i = 0) : sumT h n = sumT (fun j => h (a + j)) len := by
  obtain ⟨d, rfl⟩ : ∃ d, n = (a + len) + d := ⟨n - (a + len), by omega⟩
  rw [sumT_split, sumT_split, sumT_zero (f := h) (fun i hi => h0 i (by omega) (by omega)), sumT_zero (f := fun i => h (a + len + i)) (fun i hi => h0 _ (by omega) (by omega)), Int.zero_add, Int.add_zero]
/-- the product of two functions of the power, the first within A -/
def cvf (A : Nat) (f g : Int → Int) (z : Int) : Int := sumT (fun i => f ((i : Int) - A) * g (z - ((i : Int) - A))) (2 * A + 1)
theorem atP_nn (m : Int) (ys : List Int) (i : Nat) : atP m ys (m + i) = nth ys i := by
  rcases Nat.lt_or_ge i ys.length with h | h
  · exact atP_in h
  · rw [nth_over h]
    unfold atP
    rw [if_neg (by omega)]
/-- the product's coefficient by the lists -/
def cvD (n : Int) (xs : List Int) (m : Int) (ys : List Int) (z : Int) : Int := sumT (fun j => nth xs j * atP m ys (z - n - j)) xs.length
theorem cvf_D {h : Int} {A B : Nat} {f g : Int → Int} {n : Int} {xs : List Int} {m : Int} {ys : List Int} (hp : isNf h A f (n, xs)) (hq : isNf h B g (m, ys)) (z : Int) : rho h (cvf A f g z) = rho h (cvD n xs m ys z) := by
  have p1 : -(A : Int) ≤ n := hp.lo
  have p2 : n + xs.length ≤ A + 1 := hp.hi
  have p3 : ∀ k, atP n xs k = rho h (f k) := hp.v
  have q3 : ∀ k, atP m ys k = rho h (g k) := hq.v
  have e1 : rho h (cvf A f g z) = rho h (sumT (fun i => atP n xs ((i : Int) - A) * atP m ys (z - ((i : Int) - A))) (2 * A + 1)) := by
    unfold cvf
    rw [← rho_sumT, ← rho_sumT h (fun i => atP n xs ((i : Int) - A) * atP m ys (z - ((i : Int) - A)))]
    congr 1
    exact sumT_ext fun i _ => by rw [p3, q3, rho_mul]
  rw [e1]
  congr 1
  obtain ⟨a, ha⟩ : ∃ a : Nat, n + A = a := ⟨(n + A).toNat, by omega⟩
  rw [sumT_win (a := a) (len := xs.length) (by omega) (fun i _ hi => by
    have : atP n xs ((i : Int) - A) = 0 := by
      unfold atP
      rw [if_neg (by omega)]
    rw [this, Int.zero_mul])]
  exact sumT_ext fun j hj => by rw [show ((a + j : Nat) : Int) - (A : Int) = n + j by omega, atP_nn, show z - (n + (j : Int)) = z - n - j by omega]
theorem cvD_in (n : Int) (xs : List Int) (m : Int) (ys : List Int) (t : Nat) : cvR xs ys xs.length t = cvD n xs m ys (n + m + t) := by
  rw [cvR_sum]
  refine sumT_ext fun j _ => ?_
  by_cases h : j ≤ t
  · rw [if_pos h, show n + m + (t : Int) - n - (j : Int) = m + ((t - j : Nat) : Int) by omega, atP_nn]
  · rw [if_neg h]
    have : atP m ys (n + m + (t : Int) - n - (j : Int)) = 0 := by
      unfold atP
      rw [if_neg (by omega)]
    rw [this, Int.mul_zero]
theorem cvD_out {n : Int} {xs : List Int} {m : Int} {ys : List Int} {z : Int} (h : z < n + m ∨ n + m + xs.length + ys.length ≤ z + 1) : cvD n xs m ys z = 0 := sumT_zero fun j hj => by
  have : atP m ys (z - n - (j : Int)) = 0 := by
    unfold atP
    rw [if_neg (by omega)]
  rw [this, Int.mul_zero]
/-- the list of the product's coefficients is the product's normal form -/
theorem mul_fin {h : Int} (h0 : 0 < h) {A B M : Nat} {f g : Int → Int} {n : Int} {xs : List Int} {m : Int} {ys : List Int} (hp : isNf h A f (n, xs)) (hq : isNf h B g (m, ys)) (hM : sup (cvf A f g) M) {N : Nat} (hN : xs.length + ys.length - 1 = N) (hx : 0 < xs.length) (hy : 0 < ys.length) :
    nf h (cvf A f g) = (trimLow (n + m) (lstI N fun t => rho h (cvR xs ys xs.length t)), trimLst (lstI N fun t => rho h (cvR xs ys xs.length t))) := by
  have p1 : -(A : Int) ≤ n := hp.lo
  have p2 : n + xs.length ≤ A + 1 := hp.hi
  have q1 : -(B : Int) ≤ m := hq.lo
  have q2 : m + ys.length ≤ B + 1 := hq.hi
  refine nf_eq h0 hM (isNf_trim h0 (N := A + B) (by omega) (by rw [lstI_length]; omega) (by omega) (fun k => ?_) hM)
  rw [cvf_D hp hq]
  by_cases hk : n + m ≤ k ∧ k < n + m + N
  · obtain ⟨t, rfl⟩ : ∃ t : Nat, k = n + m + t := ⟨(k - (n + m)).toNat, by omega⟩
    rw [atP_in (by rw [lstI_length]; omega), nth_lstI (by omega), cvD_in n xs m ys]
  · rw [cvD_out (by omega), rho_zero h0]
    unfold atP
    rw [lstI_length, if_neg (by omega)]
theorem mul_nil {h : Int} (h0 : 0 < h) {A B M : Nat} {f g : Int → Int} {n : Int} {xs : List Int} {m : Int} {ys : List Int} (hp : isNf h A f (n, xs)) (hq : isNf h B g (m, ys)) (hM : sup (cvf A f g) M) (he : xs.length = 0 ∨ ys.length = 0) : nf h (cvf A f g) = (0, []) :=
  nf_eq h0 hM (M := 0) ⟨.inl ⟨rfl, rfl⟩, by simp, by simp, by simp, fun k => by
    rw [val_nil, cvf_D hp hq]
    have : cvD n xs m ys k = 0 := by
      rcases he with e | e
      · unfold cvD; rw [e]; rfl
      · have e2 := List.eq_nil_of_length_eq_zero e
        subst e2
        exact sumT_zero fun j _ => by rw [atP_none, Int.mul_zero]
    rw [this, rho_zero h0]⟩
/-- the list, modulo 2^64 -/
def cvW (xs ys : List Int) (i k : Nat) : Nat → Int := fun t => wrap64 (cvP xs ys i k t)
theorem cvW_start (xs ys : List Int) : cvW xs ys 0 0 = fun _ => 0 := by
  funext t
  rw [cvW, cvP_zero, cvR_zero, ← rho_wrap, rho_zero (by decide)]
theorem cvW_step {xs ys : List Int} {i k p N : Nat} (hp : i + k = p) : (lstI N (cvW xs ys i k)).set p (wrap64 (cvW xs ys i k p + wrap64 (nth xs i * nth ys k))) = lstI N (cvW xs ys i (k + 1)) := by
  subst hp
  rw [lstI_set]
  refine lstI_ext fun j hj => ?_
  unfold cvW cvP
  by_cases e : j = i + k
  · subst e
    rw [if_pos rfl, if_neg (by omega), if_pos (by omega), show i + k - i = k by omega, Int.add_zero, ← rho_wrap, ← rho_wrap, ← rho_wrap, ← rho_wrap, rho_add]
  · rw [if_neg e]
    by_cases h : i ≤ j ∧ j < i + k
    · rw [if_pos h, if_pos (by omega)]
    · rw [if_neg h, if_neg (by omega)]
theorem cvW_full {xs ys : List Int} {i N : Nat} : lstI N (cvW xs ys i ys.length) = lstI N (cvW xs ys (i + 1) 0) := by
  refine lstI_ext fun j hj => ?_
  unfold cvW
  congr 1
  rw [cvP_zero]
  unfold cvP
  rw [cvR]
  by_cases h : i ≤ j
  · by_cases h2 : j < i + ys.length
    · rw [if_pos ⟨h, h2⟩, if_pos h]
    · rw [if_neg (by omega), if_pos h, nth_over (xs := ys) (by omega), Int.mul_zero]
  · rw [if_neg (by omega), if_neg h]
theorem cvW_end (xs ys : List Int) (N i : Nat) : lstI N (cvW xs ys i 0) = lstI N (fun t => rho 9223372036854775808 (cvR xs ys i t)) := lstI_ext fun t _ => by rw [cvW, cvP_zero, rho_wrap]
theorem sumT_zero' {f : Nat → Int} {n : Nat} (h : ∀ i, f i = 0) : sumT f n = 0 := sumT_zero fun i _ => h i
theorem sup_cvf {A B : Nat} {f g : Int → Int} (hg : sup g B) : sup (cvf A f g) (A + B) := fun k hk => sumT_zero fun i hi => by rw [hg _ (by omega), Int.mul_zero]
theorem cvf_mono {A C : Nat} (hAC : A ≤ C) {f g : Int → Int} (hf : sup f A) : cvf C f g = cvf A f g := by
  funext z
  unfold cvf
  rw [sumT_win (a := C - A) (len := 2 * A + 1) (by omega) (fun i _ hi => by rw [hf _ (by omega), Int.zero_mul])]
  exact sumT_ext fun j hj => by rw [show ((C - A + j : Nat) : Int) - (C : Int) = (j : Int) - A by omega]
set_option maxHeartbeats 4000000 in
theorem l05Times_nf (n : Int) (v1 : Value) (xs : List Int) (m : Int) (v2 : Value) (ys : List Int) (f g : Int → Int) (A B M : Nat) (w : World) (h1 : reads w v1 xs) (h2 : reads w v2 ys) (k1 : isNf 9223372036854775808 A f (n, xs)) (k2 : isNf 9223372036854775808 B g (m, ys)) (hA : A ≤ 3000) (hB : B ≤ 3000) (hM : sup (cvf A f g) M) : Calls Try.prog 64 #[.agg #[.int .i64 n, v1], .agg #[.int .i64 m, v2]] w (RetB 2 w (nf 9223372036854775808 (cvf A f g)).1 (nf 9223372036854775808 (cvf A f g)).2) := by
  have i1 : -(A : Int) ≤ n := k1.lo
  have i2 : n + xs.length ≤ A + 1 := k1.hi
  have i3 : n ≤ A := k1.ab
  have l1 : -(B : Int) ≤ m := k2.lo
  have l2 : m + ys.length ≤ B + 1 := k2.hi
  have l3 : m ≤ B := k2.ab
  have H1 := Lib.hid h1
  have H2 := Lib.hid h2
  obtain ⟨a1, c1, rfl⟩ := readsL_form h1
  obtain ⟨a2, c2, rfl⟩ := readsL_form h2
  clear h1 h2
  by_cases hx : xs.length = 0
  · rw [mul_nil (by decide) k1 k2 hM (.inl hx)]
    have hxb : ((xs.length : Int) == 0) = true := by rw [hx]; rfl
    have HX := Lib.hid hx
    clear hx k1 k2 hM
    go_enter Try.func64, Try.ntmps64
    go_wp2
    refine bodyPost_ret (v := .agg #[.int .i64 0, .slice none 0 0]) (by simp [results, Try.results64, go_sem]) rfl ?_
    exact ⟨_, rfl, by (repeat (first | (with_reducible exact Below.refl _ _) | (with_reducible assumption) | (with_reducible refine below_plus' ?_ ?_; ((try simp only [plus_size, World.size_alloc, World.size_drew, World.size_setCell, size_setRow, World.heap_drewN, List.length_append]) <;> omega)) | (with_reducible refine below_alloc' ?_ ?_; ((try simp only [plus_size, World.size_alloc, World.size_drew, World.size_setCell, size_setRow, World.heap_drewN, List.length_append]) <;> omega)) | with_reducible refine Below.drew ?_ | (with_reducible refine below_drewN' ?_ _) | exact Below.refl _ _)), own_nil _ _ _⟩
  · have hxb : ((xs.length : Int) == 0) = false := beq_eq_false_iff_ne.2 (by omega)
    by_cases hy : ys.length = 0
    · rw [mul_nil (by decide) k1 k2 hM (.inr hy)]
      have hyb : ((ys.length : Int) == 0) = true := by rw [hy]; rfl
      have HY := Lib.hid hy
      clear hy k1 k2 hM
      go_enter Try.func64, Try.ntmps64
      go_wp2
      refine bodyPost_ret (v := .agg #[.int .i64 0, .slice none 0 0]) (by simp [results, Try.results64, go_sem]) rfl ?_
      exact ⟨_, rfl, by (repeat (first | (with_reducible exact Below.refl _ _) | (with_reducible assumption) | (with_reducible refine below_plus' ?_ ?_; ((try simp only [plus_size, World.size_alloc, World.size_drew, World.size_setCell, size_setRow, World.heap_drewN, List.length_append]) <;> omega)) | (with_reducible refine below_alloc' ?_ ?_; ((try simp only [plus_size, World.size_alloc, World.size_drew, World.size_setCell, size_setRow, World.heap_drewN, List.length_append]) <;> omega)) | with_reducible refine Below.drew ?_ | (with_reducible refine below_drewN' ?_ _) | exact Below.refl _ _)), own_nil _ _ _⟩
    · have hyb : ((ys.length : Int) == 0) = false := beq_eq_false_iff_ne.2 (by omega)
      obtain ⟨N, hN⟩ : ∃ N : Nat, xs.length + ys.length - 1 = N := ⟨_, rfl⟩
      rw [mul_fin (by decide) k1 k2 hM hN (by omega) (by omega), ← cvW_end]
      generalize hr : trimLow (n + m) (lstI N (cvW xs ys xs.length 0)) = r
      generalize hR : trimLst (lstI N (cvW xs ys xs.length 0)) = R
      have HrR := Lib.hid (And.intro hr hR)
      have hNN : (xs.length : Int) + (ys.length : Int) - 1 = (N : Int) := by omega
      have hN3 : N ≤ 13000 := by omega
      have hnm : IntKind.i64.wrap (n + m) = n + m := by rw [IntKind.wrap_i64]; omega
      have hxl : 0 < xs.length := by omega
      have hyl : 0 < ys.length := by omega
      have HN := Lib.hid hN
      clear hr hR k1 k2 hM hx hy hN
      obtain ⟨b1, o1, rfl, hbk1, mm1⟩ := reads_cells H1.out hxl
      obtain ⟨b2, o2, rfl, hbk2, mm2⟩ := reads_cells H2.out hyl
      have MM1 := Lib.hid mm1
      have MM2 := Lib.hid mm2
      clear mm1 mm2
      go_enter Try.func64, Try.ntmps64
      go_wp2_with (first | (at_make; refine wpList_make_ints _ rfl _ _ 22 rfl 2 Try.underlying22 infoI N rfl rfl (by omega) ?_; intro w' ho hB; replace hB := Below.trans (show Below (((w.alloc (.cells #[.int .i64 n, .slice (some ⟨b1, o1, none⟩) xs.length c1] 37)).alloc (.cells #[.int .i64 m, .slice (some ⟨b2, o2, none⟩) ys.length c2] 37)).alloc (.cells #[.int .i64 0, .slice none 0 0] 37)).heap.size (((w.alloc (.cells #[.int .i64 n, .slice (some ⟨b1, o1, none⟩) xs.length c1] 37)).alloc (.cells #[.int .i64 m, .slice (some ⟨b2, o2, none⟩) ys.length c2] 37)).alloc (.cells #[.int .i64 0, .slice none 0 0] 37)) _ by (repeat (first | (with_reducible exact Below.refl _ _) | (with_reducible assumption) | (with_reducible refine below_plus' ?_ ?_; ((try simp only [plus_size, World.size_alloc, World.size_drew, World.size_setCell, size_setRow, World.heap_drewN, List.length_append]) <;> omega)) | (with_reducible refine below_alloc' ?_ ?_; ((try simp only [plus_size, World.size_alloc, World.size_drew, World.size_setCell, size_setRow, World.heap_drewN, List.length_append]) <;> omega)) | with_reducible refine Below.drew ?_ | (with_reducible refine below_drewN' ?_ _) | exact Below.refl _ _))) hB; (simp only [lstI_zero, World.heap_drewN, World.size_alloc] at ho)))
      go_loopw [6, 7] (fun si sk wr => ∃ (i : Nat), i ≤ xs.length ∧ si = .int .i64 i ∧ own 2 wr (((w.alloc (.cells #[.int .i64 n, .slice (some ⟨b1, o1, none⟩) xs.length c1] 37)).alloc (.cells #[.int .i64 m, .slice (some ⟨b2, o2, none⟩) ys.length c2] 37)).alloc (.cells #[.int .i64 0, .slice none 0 0] 37)).heap.size (.slice (some ⟨w.heap.size + 1 + 1 + 1, 0, none⟩) N N) (lstI N (cvW xs ys i 0)) ∧ Below (((w.alloc (.cells #[.int .i64 n, .slice (some ⟨b1, o1, none⟩) xs.length c1] 37)).alloc (.cells #[.int .i64 m, .slice (some ⟨b2, o2, none⟩) ys.length c2] 37)).alloc (.cells #[.int .i64 0, .slice none 0 0] 37)).heap.size (((w.alloc (.cells #[.int .i64 n, .slice (some ⟨b1, o1, none⟩) xs.length c1] 37)).alloc (.cells #[.int .i64 m, .slice (some ⟨b2, o2, none⟩) ys.length c2] 37)).alloc (.cells #[.int .i64 0, .slice none 0 0] 37)) wr) (fun si _ _ => xs.length - (intOf si).toNat)
      case atStart => exact ⟨0, by omega, by go_num, by rw [cvW_start]; exact ho.mono (by ((try simp only [plus_size, World.size_alloc, World.size_drew, World.size_setCell, size_setRow, World.heap_drewN, List.length_append]) <;> omega)), by (repeat (first | (with_reducible exact Below.refl _ _) | (with_reducible assumption) | (with_reducible refine below_plus' ?_ ?_; ((try simp only [plus_size, World.size_alloc, World.size_drew, World.size_setCell, size_setRow, World.heap_drewN, List.length_append]) <;> omega)) | (with_reducible refine below_alloc' ?_ ?_; ((try simp only [plus_size, World.size_alloc, World.size_drew, World.size_setCell, size_setRow, World.heap_drewN, List.length_append]) <;> omega)) | with_reducible refine Below.drew ?_ | (with_reducible refine below_drewN' ?_ _) | exact Below.refl _ _))⟩
      case round =>
        clear ho hB
        obtain ⟨i, hi, rfl, hown, hbel⟩ := hrel
        obtain ⟨j0, d0, rfl⟩ := plus_of_below hbel
        by_cases hlt : i < xs.length
        · have hilt : (i : Int) < (xs.length : Int) := by omega
          go_wp2
          go_loopw [7] (fun sk wr => ∃ (k : Nat), k ≤ ys.length ∧ sk = .int .i64 k ∧ own 2 wr (((w.alloc (.cells #[.int .i64 n, .slice (some ⟨b1, o1, none⟩) xs.length c1] 37)).alloc (.cells #[.int .i64 m, .slice (some ⟨b2, o2, none⟩) ys.length c2] 37)).alloc (.cells #[.int .i64 0, .slice none 0 0] 37)).heap.size (.slice (some ⟨w.heap.size + 1 + 1 + 1, 0, none⟩) N N) (lstI N (cvW xs ys i k)) ∧ Below (((w.alloc (.cells #[.int .i64 n, .slice (some ⟨b1, o1, none⟩) xs.length c1] 37)).alloc (.cells #[.int .i64 m, .slice (some ⟨b2, o2, none⟩) ys.length c2] 37)).alloc (.cells #[.int .i64 0, .slice none 0 0] 37)).heap.size (((w.alloc (.cells #[.int .i64 n, .slice (some ⟨b1, o1, none⟩) xs.length c1] 37)).alloc (.cells #[.int .i64 m, .slice (some ⟨b2, o2, none⟩) ys.length c2] 37)).alloc (.cells #[.int .i64 0, .slice none 0 0] 37)) wr) (fun sk _ => ys.length - (intOf sk).toNat)
          case atStart => exact ⟨0, by omega, by go_num, hown, hbel⟩
          case round =>
            clear hown hbel
            obtain ⟨k, hk, rfl, hown, hbel⟩ := hrel
            obtain ⟨j0, d0, rfl⟩ := plus_of_below hbel
            by_cases hkt : k < ys.length
            · have hklt : (k : Int) < (ys.length : Int) := by omega
              have g1 := MM1.out i hlt
              have g2 := MM2.out k hkt
              have hb11 : b1 < w.heap.size + 1 + 1 + 1 + j0.length := by omega
              have hb12 : b1 < w.heap.size + 1 + 1 + 1 := by omega
              have hb13 : b1 < w.heap.size + 1 + 1 := by omega
              have hb14 : b1 < w.heap.size + 1 := by omega
              have hb21 : b2 < w.heap.size + 1 + 1 + 1 + j0.length := by omega
              have hb22 : b2 < w.heap.size + 1 + 1 + 1 := by omega
              have hb23 : b2 < w.heap.size + 1 + 1 := by omega
              have hb24 : b2 < w.heap.size + 1 := by omega
              obtain ⟨p, hpe⟩ : ∃ p, i + k = p := ⟨_, rfl⟩
              have hp : (i : Int) + (k : Int) = (p : Int) := by omega
              have hpn : p < N := by have := HN.out; omega
              have hp1 : (p : Int) < (N : Int) := by omega
              have c5 := hown.cell (i := p) (by rw [lstI_length]; exact hpn)
              rw [nth_lstI hpn] at c5
              have hgl := (hown.lt _ rfl).2
              (simp only [plus_size, World.size_alloc] at hgl)
              have HST := Lib.hid (cvW_step (xs := xs) (ys := ys) (N := N) hpe)
              generalize cvW xs ys i k p = C at c5 HST
              generalize nth xs i = x at g1 HST
              generalize nth ys k = y at g2 HST
              have HPE := Lib.hid hpe
              clear hpe
              go_upto_region 10 with (fail)
              refine region_plus_tail 23 (by kernel_rfl) (by kernel_rfl) ?_
              simp only [List.take_succ_cons, List.take_zero, List.drop_succ_cons, List.drop_zero]
              repeat (go_big_quiet_step (first | fail))
              refine wpQuiet_nil ?_
              intro _ hw'
              obtain ⟨q, hw''⟩ := hw'
              subst hw''
              rw [plusq_eq]
              generalize q.j = j
              generalize q.d = d
              clear q
              rw [plus_plus]
              have hown1 := own_plus (j' := j) (d' := d) hown
              have f1 := hown1.free p
              have c6 := hown1.cell (i := p) (by rw [lstI_length]; exact hpn)
              have hg1 := (hown1.lt _ rfl).2
              (simp only [plus_size, World.size_alloc] at hg1)
              go_wp2
              go_roundw
              case rel =>
                refine ⟨k + 1, by omega, by go_num, ?_, ?_⟩
                · have e := hown1.set p (wrap64 (C + wrap64 (x * y)))
                  rw [HST.out] at e
                  exact e
                · exact (show Below (((w.alloc (.cells #[.int .i64 n, .slice (some ⟨b1, o1, none⟩) xs.length c1] 37)).alloc (.cells #[.int .i64 m, .slice (some ⟨b2, o2, none⟩) ys.length c2] 37)).alloc (.cells #[.int .i64 0, .slice none 0 0] 37)).heap.size (((w.alloc (.cells #[.int .i64 n, .slice (some ⟨b1, o1, none⟩) xs.length c1] 37)).alloc (.cells #[.int .i64 m, .slice (some ⟨b2, o2, none⟩) ys.length c2] 37)).alloc (.cells #[.int .i64 0, .slice none 0 0] 37)) (plus (((w.alloc (.cells #[.int .i64 n, .slice (some ⟨b1, o1, none⟩) xs.length c1] 37)).alloc (.cells #[.int .i64 m, .slice (some ⟨b2, o2, none⟩) ys.length c2] 37)).alloc (.cells #[.int .i64 0, .slice none 0 0] 37)) (j0 ++ j) d) by (repeat (first | (with_reducible exact Below.refl _ _) | (with_reducible assumption) | (with_reducible refine below_plus' ?_ ?_; ((try simp only [plus_size, World.size_alloc, World.size_drew, World.size_setCell, size_setRow, World.heap_drewN, List.length_append]) <;> omega)) | (with_reducible refine below_alloc' ?_ ?_; ((try simp only [plus_size, World.size_alloc, World.size_drew, World.size_setCell, size_setRow, World.heap_drewN, List.length_append]) <;> omega)) | with_reducible refine Below.drew ?_ | (with_reducible refine below_drewN' ?_ _) | exact Below.refl _ _))).trans (below_of_grown (grownBy_setCell _ _ _ _) (by ((try simp only [plus_size, World.size_alloc, World.size_drew, World.size_setCell, size_setRow, World.heap_drewN, List.length_append]) <;> omega)) (fun q hq => by cases hq; ((try simp only [plus_size, World.size_alloc, World.size_drew, World.size_setCell, size_setRow, World.heap_drewN, List.length_append]) <;> omega)))
              case measure => simp [intOf]; omega
            · obtain rfl : k = ys.length := by omega
              rw [cvW_full] at hown
              go_wp2
              go_roundw
              case rel => exact ⟨i + 1, by omega, by go_num, hown, hbel⟩
              case measure => simp [intOf]; omega
        · obtain rfl : i = xs.length := by omega
          have HTr := l05Trim_any (n + m) _ N (lstI N (cvW xs ys xs.length 0)) _ (by rw [lstI_length]; exact hown.reads) (by rw [lstI_length]; exact Nat.le_refl _) (by rw [lstI_length]; omega) (by omega) (by omega)
          rw [lstI_length, HrR.out.1, HrR.out.2] at HTr
          replace HTr := Lib.hid HTr
          clear hown
          go_wp2_with (first | (go_at_call 55; with_reducible refine Calls.mono HTr.out ?_; intro e w' hh; obtain ⟨vG, rfl, hB, hoG⟩ := retB_form hh; clear hh; have hrG := hoG.reads; obtain ⟨aG, cG, rfl⟩ := readsL_form hrG; obtain ⟨j, d, rfl⟩ := plus_of_below hB; clear hB))
          refine bodyPost_ret (v := .agg #[.int .i64 r, .slice aG R.length cG]) (by simp [results, Try.results64, go_sem]) rfl ?_
          exact ⟨_, rfl, by (repeat (first | (with_reducible exact Below.refl _ _) | (with_reducible assumption) | (with_reducible refine below_plus' ?_ ?_; ((try simp only [plus_size, World.size_alloc, World.size_drew, World.size_setCell, size_setRow, World.heap_drewN, List.length_append]) <;> omega)) | (with_reducible refine below_alloc' ?_ ?_; ((try simp only [plus_size, World.size_alloc, World.size_drew, World.size_setCell, size_setRow, World.heap_drewN, List.length_append]) <;> omega)) | with_reducible refine Below.drew ?_ | (with_reducible refine below_drewN' ?_ _) | exact Below.refl _ _)), by ((try simp only [plus_plus] at hoG ⊢); exact own_farG hoG (by ((try simp only [plus_size, World.size_alloc, World.size_drew, World.size_setCell, size_setRow, World.heap_drewN, List.length_append]) <;> omega)) (by ((try simp only [plus_size, World.size_alloc, World.size_drew, World.size_setCell, size_setRow, World.heap_drewN, List.length_append]) <;> omega)) (by ((try simp only [plus_size, World.size_alloc, World.size_drew, World.size_setCell, size_setRow, World.heap_drewN, List.length_append]) <;> omega)) (by (repeat (first | (with_reducible exact List.prefix_rfl) | (with_reducible exact List.nil_prefix) | (refine List.IsPrefix.trans ?_ (List.prefix_append _ _))))))⟩
end Go.Proofs.Ytikakoclmmmjdaa
namespace Go.Proofs.Ytikakoclmmmjdaa
open Go.RowKit
set_option linter.unusedSimpArgs false
set_option linter.unusedVariables false
open Go.RowKit
theorem reads_one1 {w : World} {e : TypeId} {b : Nat} {u : Int} (hb : b = w.heap.size) : reads (w.alloc (.cells #[.int .i64 u] e)) (.slice (some ⟨b, 0, none⟩) 1 1) [u] := by
  refine ⟨_, 1, rfl, .inr ⟨b, 0, rfl, fun i hi => ?_⟩⟩
  have : i = 0 := by simp at hi; omega
  subst this
  rw [World.cell?_alloc_at _ _ _ _ (by omega)]; rfl
theorem trim_one {n k : Int} (hk : k ≠ 0) : trimLow n [k] = n ∧ trimLst [k] = [k] := by
  have h := trim_is (low := n) (xs := [k]) (a := 0) (m := 1) (fun i hi => by omega) (fun i hi => nth_over (by simpa using hi)) (.inr ⟨by simpa [nth] using hk, by simpa [nth] using hk⟩)
  simpa using h
set_option maxHeartbeats 400000 in
theorem l05Term_any (k n : Int) (w : World) (hk : k ≠ 0) (hn1 : -100000 ≤ n) (hn2 : n ≤ 100000) : Calls Try.prog 63 #[.int .i64 k, .int .i64 n] w (RetB 2 w n [k]) := by
  have HT := Lib.hid (trim_one (n := n) hk)
  go_enter Try.func63, Try.ntmps63
  go_wp2_with (first | (go_at_call 55; go_loud (refine Calls.mono (l05Trim_any n _ _ [k] _ ?_ (by simp) (by simp) hn1 hn2) ?_; exact reads_one1 (by ((try simp only [plus_size, World.size_alloc, World.size_drew, World.size_setCell, size_setRow, World.heap_drewN, List.length_append]) <;> omega)); rw [HT.out.1, HT.out.2]); rintro e w' ⟨vG, rfl, hB, hoG⟩; have hrG := hoG.reads; obtain ⟨aG, cG, rfl⟩ := readsL_form hrG; obtain ⟨j, d, rfl⟩ := plus_of_below hB; clear hB))
  refine bodyPost_ret (v := .agg #[.int .i64 n, .slice aG 1 cG]) (by simp [results, Try.results63, go_sem]) rfl ?_
  exact ⟨_, rfl, by (repeat (first | (with_reducible exact Below.refl _ _) | (with_reducible assumption) | (with_reducible refine below_plus' ?_ ?_; ((try simp only [plus_size, World.size_alloc, World.size_drew, World.size_setCell, size_setRow, World.heap_drewN, List.length_append]) <;> omega)) | (with_reducible refine below_alloc' ?_ ?_; ((try simp only [plus_size, World.size_alloc, World.size_drew, World.size_setCell, size_setRow, World.heap_drewN, List.length_append]) <;> omega)) | with_reducible refine Below.drew ?_ | (with_reducible refine below_drewN' ?_ _) | exact Below.refl _ _)), own_farG hoG (by ((try simp only [plus_size, World.size_alloc, World.size_drew, World.size_setCell, size_setRow, World.heap_drewN, List.length_append]) <;> omega)) (by ((try simp only [plus_size, World.size_alloc, World.size_drew, World.size_setCell, size_setRow, World.heap_drewN, List.length_append]) <;> omega)) (by ((try simp only [plus_size, World.size_alloc, World.size_drew, World.size_setCell, size_setRow, World.heap_drewN, List.length_append]) <;> omega)) (by (repeat (first | (with_reducible exact List.prefix_rfl) | (with_reducible exact List.nil_prefix) | (refine List.IsPrefix.trans ?_ (List.prefix_append _ _)))))⟩
end Go.Proofs.Ytikakoclmmmjdaa
