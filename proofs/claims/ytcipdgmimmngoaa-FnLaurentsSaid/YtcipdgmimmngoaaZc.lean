/- Two polynomials added. Conditions: as each theorem says. -/
import Derived.Test.YtcipdgmimmngoaaZb
namespace Go.Proofs.Ytcipdgmimmngoaa
open Go.RowKit
set_option linter.unusedSimpArgs false
set_option linter.unusedVariables false
open Go.RowKit
/-- two worlds that differ in one block at most -/
def OffB (K : Nat) (X Y : World) : Prop := X.heap.size = Y.heap.size ∧ ∀ b, b ≠ K → X.heap[b]? = Y.heap[b]?
theorem OffB.plus {K : Nat} {X Y : World} (h : OffB K X Y) (j : List Obj) (d d' : Nat) : OffB K (plus X j d) (plus Y j d') := by
  refine ⟨?_, fun b hb => ?_⟩
  · show (X.heap ++ j.toArray).size = (Y.heap ++ j.toArray).size
    rw [Array.size_append, Array.size_append, h.1]
  · show (X.heap ++ j.toArray)[b]? = (Y.heap ++ j.toArray)[b]?
    rw [Array.getElem?_append, Array.getElem?_append, h.1, h.2 b hb]
theorem OffB.alloc {K : Nat} {X Y : World} (h : OffB K X Y) (o : Obj) : OffB K (X.alloc o) (Y.alloc o) := by
  refine ⟨?_, fun b hb => ?_⟩
  · show (X.heap.push o).size = (Y.heap.push o).size
    rw [Array.size_push, Array.size_push, h.1]
  · show (X.heap.push o)[b]? = (Y.heap.push o)[b]?
    rw [Array.getElem?_push, Array.getElem?_push, h.1, h.2 b hb]
theorem OffB.here {K : Nat} (C : World) (o o' : Obj) (hK : C.heap.size = K) : OffB K (C.alloc o) (C.alloc o') := by
  subst hK
  refine ⟨?_, fun b hb => ?_⟩
  · show (C.heap.push o).size = (C.heap.push o').size
    rw [Array.size_push, Array.size_push]
  · show (C.heap.push o)[b]? = (C.heap.push o')[b]?
    rw [Array.getElem?_push, Array.getElem?_push, if_neg hb, if_neg hb]
theorem readsW.off {K : Nat} {X Y : World} {v : Value} {xs : List Int} (h : readsW X v xs) (hK : OffB K X Y) {i : Int} {a : Option Addr} {n c : Nat} {T : TypeId} (hx : X.heap[K]? = some (.cells #[.int .i64 i, .slice a n c] T)) : readsW Y v xs := by
  obtain ⟨ao, co, hv, h⟩ := h
  refine ⟨ao, co, hv, h.imp id ?_⟩
  rintro ⟨b, q, ha, mm⟩
  refine ⟨b, q, ha, fun i hi j hj => ?_⟩
  have h1 := mm i hi j hj
  by_cases hb : b = K
  · exfalso
    subst hb
    simp only [World.cell?, hx] at h1
    generalize q + 4 * i + j = m at h1
    rcases m with _ | _ | m
    · simp at h1
    · simp at h1
    · simp at h1
  · simp only [World.cell?] at h1 ⊢
    rw [← hK.2 b hb]
    exact h1
theorem ownW.cap {e : TypeId} {w : World} {B : Nat} {ao : Option Addr} {n co : Nat} {xs : List Int} (h : ownW e w B (.slice ao n co) xs) : xs.length ≤ co := by
  rcases h.2 with ⟨h1, h2⟩ | ⟨g, cap, cur, h1, _, _, h2, _⟩
  · omega
  · cases h1; exact h2
/-- the sum of two polynomials -/
def loP (lp lq : Int) : Int := if lq < lp then lq else lp
def hiP (lp lq : Int) (xs ys : List Int) : Int := if lp + xs.length < lq + ys.length then lq + ys.length else lp + xs.length
def sumP (lp : Int) (xs : List Int) (lq : Int) (ys : List Int) : List Int := (List.range (hiP lp lq xs ys - loP lp lq).toNat).map fun (i : Nat) => atP lp xs (loP lp lq + i) + atP lq ys (loP lp lq + i)
def addLow (lp : Int) (xs : List Int) (lq : Int) (ys : List Int) : Int := if xs.length = 0 then lq else if ys.length = 0 then lp else trimLow (loP lp lq) (sumP lp xs lq ys)
def addLst (lp : Int) (xs : List Int) (lq : Int) (ys : List Int) : List Int := if xs.length = 0 then ys else if ys.length = 0 then xs else trimLst (sumP lp xs lq ys)
theorem sumP_take {lp : Int} {xs : List Int} {lq : Int} {ys : List Int} {k : Nat} (h : k < (hiP lp lq xs ys - loP lp lq).toNat) : (sumP lp xs lq ys).take k ++ [atP lp xs (loP lp lq + k) + atP lq ys (loP lp lq + k)] = (sumP lp xs lq ys).take (k + 1) := by
  have h1 : k < (sumP lp xs lq ys).length := by simp [sumP]; omega
  rw [← take_snoc h1]
  congr 2
  simp [nth, sumP, List.getElem?_range h]
theorem trim_sl (low : Int) (a0 : Option Addr) (c0 : Nat) (xs : List Int) (w : World) (h : readsW w (.slice a0 xs.length c0) xs) (hc0 : xs.length ≤ c0) (hlen : xs.length ≤ 100000) (hl1 : -100000 ≤ low) (hl2 : low ≤ 100000) (hf : Fw xs) : Calls Try.prog 56 #[.agg #[.int .i64 low, .slice a0 xs.length c0]] w fun e w' => (∃ a3 c3, e = .returned (.agg #[.int .i64 (trimLow low xs), .slice a3 (trimLst xs).length c3]) ∧ readsW w (.slice a3 (trimLst xs).length c3) (trimLst xs)) ∧ Below w.heap.size w w' := by
  refine (trim_any low a0 c0 xs w h hc0 hlen hl1 hl2 hf).mono ?_
  rintro e w' ⟨⟨v', rfl, hR⟩, hB⟩
  obtain ⟨a3, c3, rfl, hr⟩ := id hR
  exact ⟨⟨a3, c3, rfl, hR⟩, hB⟩
set_option maxHeartbeats 2000000 in
theorem add_any (lp : Int) (v1 : Value) (xs : List Int) (lq : Int) (v2 : Value) (ys : List Int) (w : World) (h1 : readsW w v1 xs) (h2 : readsW w v2 ys) (hl1 : xs.length ≤ 5000) (hl2 : ys.length ≤ 5000) (hp1 : -5000 ≤ lp) (hp2 : lp ≤ 5000) (hq1 : -5000 ≤ lq) (hq2 : lq ≤ 5000) (hf : Fw (sumP lp xs lq ys)) : Calls Try.prog 33 #[.agg #[.int .i64 lp, v1], .agg #[.int .i64 lq, v2]] w fun e w' => (∃ v', e = .returned (.agg #[.int .i64 (addLow lp xs lq ys), v']) ∧ readsW w' v' (addLst lp xs lq ys)) ∧ Below w.heap.size w w' := by
  have HP := Lib.hid (fun (k : Int) (hk1 : -1000000 ≤ k) (hk2 : k ≤ 1000000) w' (hb : Below w.heap.size w w') => at_any lp v1 xs k w' (h1.kept hb) (by omega) (by omega) (by omega) hk1 hk2)
  have HQ := Lib.hid (fun (k : Int) (hk1 : -1000000 ≤ k) (hk2 : k ≤ 1000000) w' (hb : Below w.heap.size w w') => at_any lq v2 ys k w' (h2.kept hb) (by omega) (by omega) (by omega) hk1 hk2)
  have H1 := Lib.hid h1
  have H2 := Lib.hid h2
  obtain ⟨a1, c1, rfl, hr1⟩ := h1
  obtain ⟨a2, c2, rfl, hr2⟩ := h2
  clear hr1 hr2
  by_cases hx : xs.length = 0
  · have HA := Lib.hid (show addLow lp xs lq ys = lq ∧ addLst lp xs lq ys = ys by simp [addLow, addLst, hx])
    clear hf
    go_enter Try.func33, Try.ntmps33
    go_wp2
    refine bodyPost_ret (v := .agg #[.int .i64 lq, .slice a2 ys.length c2]) (by simp [results, Try.results33, go_sem]) rfl ?_
    refine ⟨⟨_, by rw [HA.out.1], ?_⟩, by (repeat (first | (with_reducible exact Below.refl _ _) | (with_reducible assumption) | (with_reducible refine below_plus' ?_ ?_; ((try simp only [plus_size, World.size_alloc, World.size_drew, World.size_setCell, size_setRow, World.heap_drewN, List.length_append]) <;> omega)) | (with_reducible refine below_alloc' ?_ ?_; ((try simp only [plus_size, World.size_alloc, World.size_drew, World.size_setCell, size_setRow, World.heap_drewN, List.length_append]) <;> omega)) | with_reducible refine Below.drew ?_ | (with_reducible refine below_drewN' ?_ _) | exact Below.refl _ _))⟩
    rw [HA.out.2]
    exact H2.out.kept (by (repeat (first | (with_reducible exact Below.refl _ _) | (with_reducible assumption) | (with_reducible refine below_plus' ?_ ?_; ((try simp only [plus_size, World.size_alloc, World.size_drew, World.size_setCell, size_setRow, World.heap_drewN, List.length_append]) <;> omega)) | (with_reducible refine below_alloc' ?_ ?_; ((try simp only [plus_size, World.size_alloc, World.size_drew, World.size_setCell, size_setRow, World.heap_drewN, List.length_append]) <;> omega)) | with_reducible refine Below.drew ?_ | (with_reducible refine below_drewN' ?_ _) | exact Below.refl _ _)))
  · by_cases hy : ys.length = 0
    · have HA := Lib.hid (show addLow lp xs lq ys = lp ∧ addLst lp xs lq ys = xs by simp [addLow, addLst, hx, hy])
      clear hf
      go_enter Try.func33, Try.ntmps33
      go_wp2
      refine bodyPost_ret (v := .agg #[.int .i64 lp, .slice a1 xs.length c1]) (by simp [results, Try.results33, go_sem]) rfl ?_
      refine ⟨⟨_, by rw [HA.out.1], ?_⟩, by (repeat (first | (with_reducible exact Below.refl _ _) | (with_reducible assumption) | (with_reducible refine below_plus' ?_ ?_; ((try simp only [plus_size, World.size_alloc, World.size_drew, World.size_setCell, size_setRow, World.heap_drewN, List.length_append]) <;> omega)) | (with_reducible refine below_alloc' ?_ ?_; ((try simp only [plus_size, World.size_alloc, World.size_drew, World.size_setCell, size_setRow, World.heap_drewN, List.length_append]) <;> omega)) | with_reducible refine Below.drew ?_ | (with_reducible refine below_drewN' ?_ _) | exact Below.refl _ _))⟩
      rw [HA.out.2]
      exact H1.out.kept (by (repeat (first | (with_reducible exact Below.refl _ _) | (with_reducible assumption) | (with_reducible refine below_plus' ?_ ?_; ((try simp only [plus_size, World.size_alloc, World.size_drew, World.size_setCell, size_setRow, World.heap_drewN, List.length_append]) <;> omega)) | (with_reducible refine below_alloc' ?_ ?_; ((try simp only [plus_size, World.size_alloc, World.size_drew, World.size_setCell, size_setRow, World.heap_drewN, List.length_append]) <;> omega)) | with_reducible refine Below.drew ?_ | (with_reducible refine below_drewN' ?_ _) | exact Below.refl _ _)))
    · have HA := Lib.hid (show addLow lp xs lq ys = trimLow (loP lp lq) (sumP lp xs lq ys) ∧ addLst lp xs lq ys = trimLst (sumP lp xs lq ys) by simp [addLow, addLst, hx, hy])
      have HF := Lib.hid hf
      clear hf
      go_enter Try.func33, Try.ntmps33
      go_upto_region 7 with (fail)
      obtain ⟨lo, hlo⟩ : ∃ lo, loP lp lq = lo := ⟨_, rfl⟩
      obtain ⟨hi, hhi⟩ : ∃ hi, hiP lp lq xs ys = hi := ⟨_, rfl⟩
      have e1 : (if lq < lp then lq else lp) = lo := hlo
      have e2 : (if lp + (xs.length : Int) < lq + (ys.length : Int) then lq + (ys.length : Int) else lp + (xs.length : Int)) = hi := hhi
      rw [e1, e2]
      have b1 : -5000 ≤ lo := by rw [← e1]; split <;> omega
      have b2 : lo ≤ 5000 := by rw [← e1]; split <;> omega
      have b3 : hi ≤ 10000 := by rw [← e2]; split <;> omega
      have b4 : lo ≤ hi := by rw [← e1, ← e2]; split <;> split <;> omega
      rw [hlo] at HA
      have HS := Lib.hid (fun (k : Nat) (h : lo + k < hi) => sumP_take (lp := lp) (xs := xs) (lq := lq) (ys := ys) (k := k) (by rw [hlo, hhi]; omega))
      have HN := Lib.hid (show (sumP lp xs lq ys).length = (hi - lo).toNat by simp [sumP, hlo, hhi])
      rw [hlo] at HS
      generalize sumP lp xs lq ys = ss at *
      clear e1 e2 hlo hhi
      have hxb : ((xs.length : Int) == 0) = false := beq_eq_false_iff_ne.2 (by omega)
      have hyb : ((ys.length : Int) == 0) = false := beq_eq_false_iff_ne.2 (by omega)
      simp only [hxb, hyb]
      go_wp2
      go_loopw [8] (fun sl wr => ∃ (vo : Value) (l : List Int) (k : Nat) (j : List Obj) (d : Nat), Hid (l = ss.take k) ∧ lo + k ≤ hi ∧ sl = .int .i64 (lo + k) ∧ wr = plus ((((w.alloc (.cells #[.int .i64 lp, .slice a1 xs.length c1] 48)).alloc (.cells #[.int .i64 lq, .slice a2 ys.length c2] 48)).alloc (.cells #[.int .i64 0, .slice none 0 0] 48)).alloc (.cells #[.int .i64 lo, vo] 48)) j d ∧ ownW 68 (plus ((((w.alloc (.cells #[.int .i64 lp, .slice a1 xs.length c1] 48)).alloc (.cells #[.int .i64 lq, .slice a2 ys.length c2] 48)).alloc (.cells #[.int .i64 0, .slice none 0 0] 48)).alloc (.cells #[.int .i64 lo, vo] 48)) j d) ((((w.alloc (.cells #[.int .i64 lp, .slice a1 xs.length c1] 48)).alloc (.cells #[.int .i64 lq, .slice a2 ys.length c2] 48)).alloc (.cells #[.int .i64 0, .slice none 0 0] 48)).alloc (.cells #[.int .i64 lo, vo] 48)).heap.size vo l) (fun sl _ => (hi - intOf sl).toNat)
      case atStart => exact ⟨_, [], 0, [], w.drawn, Lib.hid rfl, by omega, by go_num, (plus_nil _).symm, ownW_nil _ _ _⟩
      case round =>
        obtain ⟨vo, l, k, j, d, HLl, hk, rfl, rfl, hown⟩ := hrel
        obtain ⟨ao, co, rfl, hs⟩ := id hown.reads
        clear hs
        by_cases hlt : lo + k < hi
        · have hll : l.length < 1000000000 := by have := congrArg List.length HLl.out; simp at this; omega
          have HPk := Lib.hid (fun w' (hb : Below w.heap.size w w') => HP.out (lo + k) (by omega) (by omega) w' hb)
          have HQk := Lib.hid (fun w' (hb : Below w.heap.size w w') => HQ.out (lo + k) (by omega) (by omega) w' hb)
          have HBx := Lib.hid (show l ++ [atP lp xs (lo + k) + atP lq ys (lo + k)] = ss.take (k + 1) from (congrArg (· ++ [atP lp xs (lo + k) + atP lq ys (lo + k)]) HLl.out).trans (HS.out k hlt))
          generalize atP lp xs (lo + k) = x at HPk HBx
          generalize atP lq ys (lo + k) = y at HQk HBx
          go_wp2
          refine region_ghostW (W := ((((w.alloc (.cells #[.int .i64 lp, .slice a1 xs.length c1] 48)).alloc (.cells #[.int .i64 lq, .slice a2 ys.length c2] 48)).alloc (.cells #[.int .i64 0, .slice none 0 0] 48)).alloc (.cells #[.int .i64 lo, .slice ao l.length co] 48))) [9, 10, 12] (by kernel_rfl) (by kernel_rfl) (by kernel_rfl) ?_
          repeat (refine wpPlain_step (fun K hK => ?_); go_simp; first | (refine hK _ ?_; clear hK K) | (apply Exists.intro; refine ⟨fun _ => ?_, hK _ ?_⟩; (first | (go_at_call 54; with_reducible refine Calls.mono (HPk.out _ ?_) ?_; rw [plusq_eq]; (repeat (first | (with_reducible exact Below.refl _ _) | (with_reducible assumption) | (with_reducible refine below_plus' ?_ ?_; ((try simp only [plus_size, World.size_alloc, World.size_drew, World.size_setCell, size_setRow, World.heap_drewN, List.length_append]) <;> omega)) | (with_reducible refine below_alloc' ?_ ?_; ((try simp only [plus_size, World.size_alloc, World.size_drew, World.size_setCell, size_setRow, World.heap_drewN, List.length_append]) <;> omega)) | with_reducible refine Below.drew ?_ | (with_reducible refine below_drewN' ?_ _) | exact Below.refl _ _)); rintro e w'' ⟨he, hB⟩; exact ⟨he, hB⟩) | (go_at_call 54; with_reducible refine Calls.mono (HQk.out _ ?_) ?_; rw [plusq_eq]; (repeat (first | (with_reducible exact Below.refl _ _) | (with_reducible assumption) | (with_reducible refine below_plus' ?_ ?_; ((try simp only [plus_size, World.size_alloc, World.size_drew, World.size_setCell, size_setRow, World.heap_drewN, List.length_append]) <;> omega)) | (with_reducible refine below_alloc' ?_ ?_; ((try simp only [plus_size, World.size_alloc, World.size_drew, World.size_setCell, size_setRow, World.heap_drewN, List.length_append]) <;> omega)) | with_reducible refine Below.drew ?_ | (with_reducible refine below_drewN' ?_ _) | exact Below.refl _ _)); rintro e w'' ⟨he, hB⟩; exact ⟨he, hB⟩) | (go_at_call 55; refine Calls.mono (plus_any x y _) ?_; rintro e w'' ⟨he, hB⟩; exact ⟨he, hB⟩)); clear hK K))
          refine wpPlain_nil ?_
          intro j1 d1
          rw [plus_plus]
          have hown1 := ownW_plus (j' := j1) (d' := d1) hown
          refine gchain_cons _ rfl ?_
          go_wp2
          refine gExit_normal ⟨.inr (later_of_below (by (repeat (first | (with_reducible exact Below.refl _ _) | (with_reducible assumption) | (with_reducible refine below_plus' ?_ ?_; ((try simp only [plus_size, World.size_alloc, World.size_drew, World.size_setCell, size_setRow, World.heap_drewN, List.length_append]) <;> omega)) | (with_reducible refine below_alloc' ?_ ?_; ((try simp only [plus_size, World.size_alloc, World.size_drew, World.size_setCell, size_setRow, World.heap_drewN, List.length_append]) <;> omega)) | with_reducible refine Below.drew ?_ | (with_reducible refine below_drewN' ?_ _) | exact Below.refl _ _)))), fun j2 d2 => ?_⟩
          refine gchain_cons _ rfl ?_
          refine wpList_appendWide rfl _ _ 46 rfl 68 _ Try.underlying46 infoW rfl ((((w.alloc (.cells #[.int .i64 lp, .slice a1 xs.length c1] 48)).alloc (.cells #[.int .i64 lq, .slice a2 ys.length c2] 48)).alloc (.cells #[.int .i64 0, .slice none 0 0] 48)).alloc (.cells #[.int .i64 lo, .slice ao l.length co] 48)).heap.size (.slice ao l.length co) l rfl _ 1 rfl ((x + y)) ?_ (hown1.kept (by (repeat (first | (with_reducible exact Below.refl _ _) | (with_reducible assumption) | (with_reducible refine below_plus' ?_ ?_; ((try simp only [plus_size, World.size_alloc, World.size_drew, World.size_setCell, size_setRow, World.heap_drewN, List.length_append]) <;> omega)) | (with_reducible refine below_alloc' ?_ ?_; ((try simp only [plus_size, World.size_alloc, World.size_drew, World.size_setCell, size_setRow, World.heap_drewN, List.length_append]) <;> omega)) | with_reducible refine Below.drew ?_ | (with_reducible refine below_drewN' ?_ _) | exact Below.refl _ _)))) hll (by ((try simp only [plus_size, World.size_alloc, World.size_drew, World.size_setCell, size_setRow, World.heap_drewN, List.length_append]) <;> omega)) ?_
          · intro j hj
            rw [plus_cell _ _ _ _ _ (by ((try simp only [plus_size, World.size_alloc, World.size_drew, World.size_setCell, size_setRow, World.heap_drewN, List.length_append]) <;> omega)), World.cell?_alloc_at _ _ _ _ (by ((try simp only [plus_size, World.size_alloc, World.size_drew, World.size_setCell, size_setRow, World.heap_drewN, List.length_append]) <;> omega))]
            exact arrF_get _ _ _ _ hj
          intro v' w3 hown2 hB _
          go_wp2
          have hW3 : Below ((((w.alloc (.cells #[.int .i64 lp, .slice a1 xs.length c1] 48)).alloc (.cells #[.int .i64 lq, .slice a2 ys.length c2] 48)).alloc (.cells #[.int .i64 0, .slice none 0 0] 48)).alloc (.cells #[.int .i64 lo, .slice ao l.length co] 48)).heap.size ((((w.alloc (.cells #[.int .i64 lp, .slice a1 xs.length c1] 48)).alloc (.cells #[.int .i64 lq, .slice a2 ys.length c2] 48)).alloc (.cells #[.int .i64 0, .slice none 0 0] 48)).alloc (.cells #[.int .i64 lo, .slice ao l.length co] 48)) w3 := Below.trans (by (repeat (first | (with_reducible exact Below.refl _ _) | (with_reducible assumption) | (with_reducible refine below_plus' ?_ ?_; ((try simp only [plus_size, World.size_alloc, World.size_drew, World.size_setCell, size_setRow, World.heap_drewN, List.length_append]) <;> omega)) | (with_reducible refine below_alloc' ?_ ?_; ((try simp only [plus_size, World.size_alloc, World.size_drew, World.size_setCell, size_setRow, World.heap_drewN, List.length_append]) <;> omega)) | with_reducible refine Below.drew ?_ | (with_reducible refine below_drewN' ?_ _) | exact Below.refl _ _))) hB
          obtain ⟨ja, da, rfl⟩ := plus_of_below hW3
          refine gExit_normal ⟨.inr (later_of_below hW3), fun j3 d3 => ?_⟩
          obtain ⟨av, cv, rfl, hs⟩ := id hown2.reads
          clear hs
          have hown3 := ownW_plus (j' := j3) (d' := d3) hown2
          have hL : (l ++ [(x + y)]).length = l.length + 1 := by simp
          rw [hL] at hown3
          clear hL
          rw [plus_plus]
          refine gchain_cons _ rfl ?_
          go_wp2
          refine gExit_normal ⟨.inl (by kernel_rfl), fun j4 d4 => ?_⟩
          refine gchain_nil ?_
          go_wp2
          
          refine ⟨⟨.slice av (l.length + 1) cv, l ++ [x + y], k + 1, (ja ++ j3) ++ j4, d4, HBx, by omega, by go_num, by rw [plus_plus], ownW_plus (d := d3) ((ownW_swap (X := ((((w.alloc (.cells #[.int .i64 lp, .slice a1 xs.length c1] 48)).alloc (.cells #[.int .i64 lq, .slice a2 ys.length c2] 48)).alloc (.cells #[.int .i64 0, .slice none 0 0] 48)).alloc (.cells #[.int .i64 lo, .slice ao l.length co] 48))) (Y := ((((w.alloc (.cells #[.int .i64 lp, .slice a1 xs.length c1] 48)).alloc (.cells #[.int .i64 lq, .slice a2 ys.length c2] 48)).alloc (.cells #[.int .i64 0, .slice none 0 0] 48)).alloc (.cells #[.int .i64 lo, .slice av (l.length + 1) cv] 48))) (by ((try simp only [plus_size, World.size_alloc, World.size_drew, World.size_setCell, size_setRow, World.heap_drewN, List.length_append]) <;> omega)) (Nat.le_refl _) hown3).mono (by ((try simp only [plus_size, World.size_alloc, World.size_drew, World.size_setCell, size_setRow, World.heap_drewN, List.length_append]) <;> omega)))⟩, ?_⟩
          simp [intOf]; omega
        · have HEl : l = ss := by rw [HLl.out, List.take_of_length_le (by rw [HN.out]; omega)]
          have hsl := HN.out
          have hcap := hown.cap
          have hrd := hown.reads
          have HTr := Lib.hid (trim_sl lo ao co l _ hrd hcap (by rw [HEl]; omega) (by omega) (by omega) (by rw [HEl]; exact HF.out))
          have HE := Lib.hid HEl
          clear hown hrd hcap hsl HEl
          go_wp2_with (first | (go_at_call 56; with_reducible refine Calls.mono HTr.out ?_; rintro e w' ⟨⟨a3, c3, rfl, hR⟩, hB⟩; obtain ⟨j, d, rfl⟩ := plus_of_below hB; clear hB))
          refine bodyPost_ret (v := .agg #[.int .i64 (trimLow lo l), .slice a3 (trimLst l).length c3]) (by simp [results, Try.results33, go_sem]) rfl ?_
          refine ⟨⟨_, by rw [HA.out.1, ← HE.out], ?_⟩, by (repeat (first | (with_reducible exact Below.refl _ _) | (with_reducible assumption) | (with_reducible refine below_plus' ?_ ?_; ((try simp only [plus_size, World.size_alloc, World.size_drew, World.size_setCell, size_setRow, World.heap_drewN, List.length_append]) <;> omega)) | (with_reducible refine below_alloc' ?_ ?_; ((try simp only [plus_size, World.size_alloc, World.size_drew, World.size_setCell, size_setRow, World.heap_drewN, List.length_append]) <;> omega)) | with_reducible refine Below.drew ?_ | (with_reducible refine below_drewN' ?_ _) | exact Below.refl _ _))⟩
          rw [HA.out.2, ← HE.out]
          have hR2 := hR.kept (below_plus (Below.refl _ _) (Nat.le_refl _) j d)
          exact hR2.off (K := w.heap.size + 1 + 1) ((((OffB.here _ _ _ (by ((try simp only [plus_size, World.size_alloc, World.size_drew, World.size_setCell, size_setRow, World.heap_drewN, List.length_append]) <;> omega))).alloc _).plus _ _ _).plus _ _ _) (by (repeat (first | (refine heap_at _ _ _ ?_; ((try simp only [plus_size, World.size_alloc, World.size_drew, World.size_setCell, size_setRow, World.heap_drewN, List.length_append]) <;> omega)) | (refine heap_past' ?_ ?_; ((try simp only [plus_size, World.size_alloc, World.size_drew, World.size_setCell, size_setRow, World.heap_drewN, List.length_append]) <;> omega)) | (refine heap_plus' ?_ ?_; ((try simp only [plus_size, World.size_alloc, World.size_drew, World.size_setCell, size_setRow, World.heap_drewN, List.length_append]) <;> omega)) | assumption)))
end Go.Proofs.Ytcipdgmimmngoaa
