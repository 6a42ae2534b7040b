/- The program's polynomials modulo 2^256: opposites and shifts. Conditions: as each theorem says. -/
import Derived.Test.YtikakoclmmmjdaaOb
namespace Go.Proofs.Ytikakoclmmmjdaa
open Go.RowKit
set_option linter.unusedSimpArgs false
set_option linter.unusedVariables false
open Go.RowKit
theorem plus_split {W : World} {j : List Obj} {d : Nat} {o : Obj} (h : (plus W j d).heap[W.heap.size]? = some o) : ∃ j', plus W j d = plus (W.alloc o) j' d := by
  have h2 : (W.heap ++ j.toArray)[W.heap.size]? = some o := h
  cases j with
  | nil =>
    rw [Array.getElem?_eq_none (by simp)] at h2
    cases h2
  | cons a j =>
    rw [Array.getElem?_append_right (Nat.le_refl _)] at h2
    simp at h2
    subst h2
    refine ⟨j, ?_⟩
    have e : W.alloc a = plus W [a] W.drawn := by
      have := plus_alloc W [] W.drawn a
      rwa [← plus_nil W] at this
    rw [e, plus_plus]; rfl
theorem wp_plus0 {P : Program} {c : Code} {Q : Exit → Act → World → Prop} {a : Act} {w : World} (h : c.wp P Q a (plus w [] w.drawn)) : c.wp P Q a w := by rw [plus_nil] at h; exact h
def ngF (f : Int → Int) : Int → Int := fun x => -f x
def shF (s : Int) (f : Int → Int) : Int → Int := fun k => f (k - s)
theorem sup_ngF {f : Int → Int} {N : Nat} (hf : sup f N) : sup (ngF f) N := fun k hk => by
  show -f k = 0
  rw [hf k hk]; rfl
theorem sup_shF {f : Int → Int} {N : Nat} {s : Int} (hf : sup f N) (h1 : -1 ≤ s) (h2 : s ≤ 1) : sup (shF s f) (N + 1) := fun k hk => hf _ (by omega)
def negL0 (xs : List Int) : List Int := xs.map fun x => -x
theorem negL0_length (xs : List Int) : (negL0 xs).length = xs.length := by simp [negL0]
theorem nth_negL0 (xs : List Int) (i : Nat) : nth (negL0 xs) i = -nth xs i := by
  by_cases h : i < xs.length
  · simp [nth, negL0, h]
  · rw [nth_over (by rw [negL0_length]; omega), nth_over (by omega)]; rfl
theorem negL0_take {xs : List Int} {k : Nat} (h : k < xs.length) : negL0 (xs.take k) ++ [-nth xs k] = negL0 (xs.take (k + 1)) := by
  rw [← take_snoc h]; simp [negL0]
theorem neg_fin {f : Int → Int} {A M : Nat} {low : Int} {xs : List Int} (hp : isNf 57896044618658097711785492504343953926634992332820282019728792003956564819968 A f (low, xs)) (hM : sup (ngF f) M) : nf 57896044618658097711785492504343953926634992332820282019728792003956564819968 (ngF f) = (low, rhoL (negL0 xs)) := by
  have hnz : ∀ i, nth xs i ≠ 0 → nth (rhoL (negL0 xs)) i ≠ 0 := fun i h e => by
    rw [nth_rhoL, nth_negL0] at e
    have h1 := hp.bd (by decide) i
    have h2 := rho_form 57896044618658097711785492504343953926634992332820282019728792003956564819968 (-nth xs i)
    rw [e] at h2
    have h1 : -57896044618658097711785492504343953926634992332820282019728792003956564819968 ≤ nth xs i ∧ nth xs i < 57896044618658097711785492504343953926634992332820282019728792003956564819968 := h1
    omega
  refine nf_eq (by decide) hM (M := A) ⟨?_, hp.lo, by show low + (rhoL (negL0 xs)).length ≤ _; rw [rhoL_length, negL0_length]; exact hp.hi, hp.ab, fun k => ?_⟩
  · rcases hp.t with ⟨e2, e1⟩ | ⟨a, b, c⟩
    · have e2 : xs = [] := e2
      exact .inl ⟨by subst e2; rfl, e1⟩
    · refine .inr ⟨by show 0 < (rhoL (negL0 xs)).length; rw [rhoL_length, negL0_length]; exact a, hnz 0 b, ?_⟩
      show nth (rhoL (negL0 xs)) ((rhoL (negL0 xs)).length - 1) ≠ 0
      rw [rhoL_length, negL0_length]
      exact hnz _ c
  · have v1 : atP low xs k = rho 57896044618658097711785492504343953926634992332820282019728792003956564819968 (f k) := hp.v k
    show atP low (rhoL (negL0 xs)) k = rho _ (-f k)
    rw [atP_rhoL]
    have e : atP low (negL0 xs) k = -atP low xs k := by
      unfold atP
      rw [negL0_length]
      split
      · rw [nth_negL0]
      · rfl
    rw [e, v1, rho_neg]
theorem shift_fin {f : Int → Int} {A M : Nat} {s low : Int} {xs : List Int} (hp : isNf 57896044618658097711785492504343953926634992332820282019728792003956564819968 A f (low, xs)) (hM : sup (shF s f) M) (h1 : -1 ≤ s) (h2 : s ≤ 1) : nf 57896044618658097711785492504343953926634992332820282019728792003956564819968 (shF s f) = (if xs.length = 0 then low else low + s, xs) := by
  have p1 : -(A : Int) ≤ low := hp.lo
  have p2 : low + xs.length ≤ A + 1 := hp.hi
  have p3 : low ≤ A := hp.ab
  by_cases h0 : xs.length = 0
  · rw [if_pos h0]
    exact nf_eq (by decide) hM (hp.congr fun k => by rw [hp.zero h0 k]; exact (hp.zero h0 (k - s)).symm)
  · rw [if_neg h0]
    refine nf_eq (by decide) hM (M := A + 1) ⟨?_, by show -((A + 1 : Nat) : Int) ≤ low + s; omega, by show low + s + xs.length ≤ ((A + 1 : Nat) : Int) + 1; omega, by show low + s ≤ ((A + 1 : Nat) : Int); omega, fun k => ?_⟩
    · rcases hp.t with ⟨e2, e1⟩ | h
      · have e2 : xs = [] := e2
        rw [e2] at h0; exact absurd rfl h0
      · exact .inr h
    · have v1 : atP low xs (k - s) = rho 57896044618658097711785492504343953926634992332820282019728792003956564819968 (f (k - s)) := hp.v (k - s)
      show atP (low + s) xs k = rho _ (f (k - s))
      rw [← v1]
      unfold atP
      by_cases hk : low + s ≤ k ∧ k < low + s + xs.length
      · rw [if_pos hk, if_pos (by omega)]
        congr 1; omega
      · rw [if_neg hk, if_neg (by omega)]
theorem wpx_gen {P : Program} {c : Code} {Q : Exit → Act → World → Prop} {a : Act} {X : World} (F : World → Prop) (hf : F X) (h : ∀ Y, F Y → c.wp P Q a Y) : c.wp P Q a X := h X hf
theorem minus0_any (x : Int) (w : World) : Calls Try.prog 65 #[.agg (arrF .u64 4 zeroF), .agg (arrF .u64 4 (wrd x))] w fun e w' => e = .returned (.agg (arrF .u64 4 (wrd (-x)))) ∧ Below w.heap.size w w' := by
  rw [arr_zero, ← Int.zero_sub]
  exact minus_any 0 x w
set_option maxHeartbeats 2000000 in
theorem negative_nf (low : Int) (v : Value) (xs : List Int) (f : Int → Int) (A : Nat) (w : World) (h : rdW 78 w v xs) (k1 : isNf 57896044618658097711785492504343953926634992332820282019728792003956564819968 A f (low, xs)) (hA : A ≤ 2400) (hM : sup (ngF f) A) : Calls Try.prog 53 #[.agg #[.int .i64 low, v]] w (RetP w (ngF f)) := by
  have hlen := k1.len
  have HA := Lib.hid (neg_fin k1 hM)
  have H := Lib.hid h
  obtain ⟨a, c, rfl⟩ := rdW_form h
  have hlen : xs.length ≤ 2 * A + 1 := hlen
  clear k1 hM h
  go_enter Try.func53, Try.ntmps53
  go_wp2
  go_loopw [12] (fun sl wr => ∃ (vo : Value) (l : List Int) (k : Nat) (j : List Obj) (d : Nat), Hid (l = negL0 (xs.take k)) ∧ k ≤ xs.length ∧ sl = .int .i64 k ∧ wr = plus (((w.alloc (.cells #[.int .i64 low, .slice a xs.length c] 57)).alloc (.cells #[.int .i64 0, .slice none 0 0] 57)).alloc (.cells #[.int .i64 low, vo] 57)) j d ∧ ownW 78 (plus (((w.alloc (.cells #[.int .i64 low, .slice a xs.length c] 57)).alloc (.cells #[.int .i64 0, .slice none 0 0] 57)).alloc (.cells #[.int .i64 low, vo] 57)) j d) (((w.alloc (.cells #[.int .i64 low, .slice a xs.length c] 57)).alloc (.cells #[.int .i64 0, .slice none 0 0] 57)).alloc (.cells #[.int .i64 low, vo] 57)).heap.size vo l) (fun sl _ => xs.length - (intOf sl).toNat)
  case atStart => exact ⟨_, [], 0, [], w.drawn, Lib.hid rfl, by omega, rfl, (plus_nil _).symm, ownW_nil _ _ _⟩
  case round =>
    obtain ⟨vo, l, k, j, d, HLl, hk, rfl, rfl, hown⟩ := hrel
    obtain ⟨ao, co, rfl, hs⟩ := id hown.reads
    clear hs
    by_cases hlt : k < xs.length
    · obtain ⟨b, q, rfl, hbk, mm⟩ := H.out.cells (by omega)
      have c0 := mm k hlt 0 (by decide)
      have c1 := mm k hlt 1 (by decide)
      have c2 := mm k hlt 2 (by decide)
      have c3 := mm k hlt 3 (by decide)
      rw [Nat.mul_comm] at c0 c1 c2 c3
      rw [Nat.add_zero] at c0
      have hll : l.length < 1000000000 := by have := congrArg List.length HLl.out; rw [negL0_length, List.length_take] at this; omega
      have hb3 : b < w.heap.size + 1 + 1 + 1 := by omega
      have hb1 : b < w.heap.size + 1 := by omega
      have hb2 : b < w.heap.size + 1 + 1 := by omega
      have HBx := Lib.hid (show l ++ [-nth xs k] = negL0 (xs.take (k + 1)) by rw [HLl.out, negL0_take hlt])
      clear mm
      generalize nth xs k = x at c0 c1 c2 c3 HBx
      go_upto_region 5 with (first | ((with_reducible apply wpList_store_arr rfl rfl 78 _ _ rfl _ rfl _ rfl 4 info78); (repeat (first | (refine heap_at _ _ _ ?_; ((try simp only [plus_size, World.size_alloc, World.size_drew, World.size_setCell, size_setRow, World.heap_drewN, List.length_append]) <;> omega)) | (refine heap_past' ?_ ?_; ((try simp only [plus_size, World.size_alloc, World.size_drew, World.size_setCell, size_setRow, World.heap_drewN, List.length_append]) <;> omega)) | (refine heap_plus' ?_ ?_; ((try simp only [plus_size, World.size_alloc, World.size_drew, World.size_setCell, size_setRow, World.heap_drewN, List.length_append]) <;> omega)) | assumption)); (simp only [arrF_size, arrO_size]); (simp only [arrF_size, arrO_size]); (first | exact arrF_one _ _ _ | exact arrO_one _ _); (repeat (first | (refine setRow_at' ?_; ((try simp only [plus_size, World.size_alloc, World.size_drew, World.size_setCell, size_setRow, World.heap_drewN, List.length_append]) <;> omega)) | (apply setRow_past'; ((try simp only [plus_size, World.size_alloc, World.size_drew, World.size_setCell, size_setRow, World.heap_drewN, List.length_append]) <;> omega)) | (apply setRow_plus'; ((try simp only [plus_size, World.size_alloc, World.size_drew, World.size_setCell, size_setRow, World.heap_drewN, List.length_append]) <;> omega)) | exact rfl))))
      rw [plus_alloc]
      have hown := ownW_plus (j' := [(.cells (arrF .u64 4 (wrd x)) 78)]) (d' := d) hown
      have hx0 : (plus (((w.alloc (.cells #[.int .i64 low, .slice (some ⟨b, q, none⟩) xs.length c] 57)).alloc (.cells #[.int .i64 0, .slice none 0 0] 57)).alloc (.cells #[.int .i64 low, .slice ao l.length co] 57)) (j ++ [(.cells (arrF .u64 4 (wrd x)) 78)]) d).heap[w.heap.size + 1 + 1 + 1 + j.length]? = some (.cells (arrF .u64 4 (wrd x)) 78) := by
        rw [← plus_alloc]; (repeat (first | (refine heap_at _ _ _ ?_; ((try simp only [plus_size, World.size_alloc, World.size_drew, World.size_setCell, size_setRow, World.heap_drewN, List.length_append]) <;> omega)) | (refine heap_past' ?_ ?_; ((try simp only [plus_size, World.size_alloc, World.size_drew, World.size_setCell, size_setRow, World.heap_drewN, List.length_append]) <;> omega)) | (refine heap_plus' ?_ ?_; ((try simp only [plus_size, World.size_alloc, World.size_drew, World.size_setCell, size_setRow, World.heap_drewN, List.length_append]) <;> omega)) | assumption))
      obtain ⟨b5, hb5⟩ : ∃ b, b = w.heap.size + 1 + 1 + 1 + j.length := ⟨_, rfl⟩
      rw [← hb5] at hx0 ⊢
      clear hb5 c0 c1 c2 c3 H hbk hb1 hb2 hb3
      generalize j ++ [(.cells (arrF .u64 4 (wrd x)) 78)] = j at hown hx0 ⊢
      refine region_ghostW (W := (((w.alloc (.cells #[.int .i64 low, .slice (some ⟨b, q, none⟩) xs.length c] 57)).alloc (.cells #[.int .i64 0, .slice none 0 0] 57)).alloc (.cells #[.int .i64 low, .slice ao l.length co] 57))) [3, 4, 5, 6, 8] (by kernel_rfl) (by kernel_rfl) (by kernel_rfl) ?_
      repeat (refine wpPlain_step (fun K hK => ?_); go_simp; first | (refine hK _ ?_; clear hK K) | (apply Exists.intro; refine ⟨fun _ => ?_, hK _ ?_⟩; (fail); clear hK K))
      refine wpPlain_nil ?_
      intro j1 d1
      have hx1 := kept_of hx0 (below_plus (Below.refl _ _) (Nat.le_refl _) j1 d1)
      rw [plus_plus] at hx1 ⊢
      have hown1 := ownW_plus (j' := j1) (d' := d1) hown
      have e0 := cellsF_at hx1 (o := 0) (by decide)
      have e1 := cellsF_at hx1 (o := 1) (by decide)
      have e2 := cellsF_at hx1 (o := 2) (by decide)
      have e3 := cellsF_at hx1 (o := 3) (by decide)
      have hlb := heap_lt hx1
      refine gchain_cons _ rfl ?_
      go_wp2
      refine gExit_normal ⟨.inr (later_of_below (by (repeat (first | (with_reducible exact Below.refl _ _) | (with_reducible assumption) | (with_reducible refine below_plus' ?_ ?_; ((try simp only [plus_size, World.size_alloc, World.size_drew, World.size_setCell, size_setRow, World.heap_drewN, List.length_append]) <;> omega)) | (with_reducible refine below_alloc' ?_ ?_; ((try simp only [plus_size, World.size_alloc, World.size_drew, World.size_setCell, size_setRow, World.heap_drewN, List.length_append]) <;> omega)) | with_reducible refine Below.drew ?_ | (with_reducible refine below_drewN' ?_ _) | exact Below.refl _ _)))), fun j2 d2 => ?_⟩
      rw [plus_plus]
      have hown2 := ownW_plus (j' := j2) (d' := d2) hown1
      clear e0 e1 e2 e3 hlb hown hown1 hx0 hx1
      refine gchain_cons _ rfl ?_
      go_wp2_with (first | (go_at_call 65; refine Calls.mono (minus0_any x _) ?_; rintro e w'' ⟨rfl, hB⟩; obtain ⟨jm, dm, rfl⟩ := plus_of_below hB; clear hB))
      rw [plus_plus]
      have hown3 := ownW_plus (j' := jm) (d' := dm) hown2
      refine gExit_normal ⟨.inr (later_of_below (by (repeat (first | (with_reducible exact Below.refl _ _) | (with_reducible assumption) | (with_reducible refine below_plus' ?_ ?_; ((try simp only [plus_size, World.size_alloc, World.size_drew, World.size_setCell, size_setRow, World.heap_drewN, List.length_append]) <;> omega)) | (with_reducible refine below_alloc' ?_ ?_; ((try simp only [plus_size, World.size_alloc, World.size_drew, World.size_setCell, size_setRow, World.heap_drewN, List.length_append]) <;> omega)) | with_reducible refine Below.drew ?_ | (with_reducible refine below_drewN' ?_ _) | exact Below.refl _ _)))), fun j3 d3 => ?_⟩
      rw [plus_plus]
      have hown4 := ownW_plus (j' := j3) (d' := d3) hown3
      clear hown2 hown3
      simp only [List.append_assoc] at hown4 ⊢
      generalize j ++ (j1 ++ (j2 ++ (jm ++ j3))) = j at hown4 ⊢
      refine gchain_cons _ rfl ?_
      go_wp2
      refine gExit_normal ⟨.inr (later_of_below (by (repeat (first | (with_reducible exact Below.refl _ _) | (with_reducible assumption) | (with_reducible refine below_plus' ?_ ?_; ((try simp only [plus_size, World.size_alloc, World.size_drew, World.size_setCell, size_setRow, World.heap_drewN, List.length_append]) <;> omega)) | (with_reducible refine below_alloc' ?_ ?_; ((try simp only [plus_size, World.size_alloc, World.size_drew, World.size_setCell, size_setRow, World.heap_drewN, List.length_append]) <;> omega)) | with_reducible refine Below.drew ?_ | exact Below.refl _ _)))), fun j2 d2 => ?_⟩
      refine gchain_cons _ rfl ?_
      refine wpList_appendWide rfl _ _ 55 rfl 78 _ Try.underlying55 infoW rfl (((w.alloc (.cells #[.int .i64 low, .slice (some ⟨b, q, none⟩) xs.length c] 57)).alloc (.cells #[.int .i64 0, .slice none 0 0] 57)).alloc (.cells #[.int .i64 low, .slice ao l.length co] 57)).heap.size (.slice ao l.length co) l rfl _ 1 rfl (-x) ?_ (hown4.kept (by (repeat (first | (with_reducible exact Below.refl _ _) | (with_reducible assumption) | (with_reducible refine below_plus' ?_ ?_; ((try simp only [plus_size, World.size_alloc, World.size_drew, World.size_setCell, size_setRow, World.heap_drewN, List.length_append]) <;> omega)) | (with_reducible refine below_alloc' ?_ ?_; ((try simp only [plus_size, World.size_alloc, World.size_drew, World.size_setCell, size_setRow, World.heap_drewN, List.length_append]) <;> omega)) | with_reducible refine Below.drew ?_ | exact Below.refl _ _)))) hll (by ((try simp only [plus_size, World.size_alloc, World.size_drew, World.size_setCell, size_setRow, World.heap_drewN, List.length_append]) <;> omega)) ?_
      · intro j hj
        rw [plus_cell _ _ _ _ _ (by ((try simp only [plus_size, World.size_alloc, World.size_drew, World.size_setCell, size_setRow, World.heap_drewN, List.length_append]) <;> omega)), World.cell?_alloc_at _ _ _ _ (by ((try simp only [plus_size, World.size_alloc, World.size_drew, World.size_setCell, size_setRow, World.heap_drewN, List.length_append]) <;> omega))]
        exact arrF_get _ _ _ _ hj
      intro v' w3 hown2 hB _
      go_wp2
      have hW3 : Below (((w.alloc (.cells #[.int .i64 low, .slice (some ⟨b, q, none⟩) xs.length c] 57)).alloc (.cells #[.int .i64 0, .slice none 0 0] 57)).alloc (.cells #[.int .i64 low, .slice ao l.length co] 57)).heap.size (((w.alloc (.cells #[.int .i64 low, .slice (some ⟨b, q, none⟩) xs.length c] 57)).alloc (.cells #[.int .i64 0, .slice none 0 0] 57)).alloc (.cells #[.int .i64 low, .slice ao l.length co] 57)) w3 := Below.trans (by (repeat (first | (with_reducible exact Below.refl _ _) | (with_reducible assumption) | (with_reducible refine below_plus' ?_ ?_; ((try simp only [plus_size, World.size_alloc, World.size_drew, World.size_setCell, size_setRow, World.heap_drewN, List.length_append]) <;> omega)) | (with_reducible refine below_alloc' ?_ ?_; ((try simp only [plus_size, World.size_alloc, World.size_drew, World.size_setCell, size_setRow, World.heap_drewN, List.length_append]) <;> omega)) | with_reducible refine Below.drew ?_ | (with_reducible refine below_drewN' ?_ _) | exact Below.refl _ _))) hB
      obtain ⟨ja, da, rfl⟩ := plus_of_below hW3
      refine gExit_normal ⟨.inr (later_of_below hW3), fun j3 d3 => ?_⟩
      obtain ⟨av, cv, rfl, hs⟩ := id hown2.reads
      clear hs
      have hown3 := ownW_plus (j' := j3) (d' := d3) hown2
      have hL : (l ++ [-x]).length = l.length + 1 := by simp
      rw [hL] at hown3
      clear hL
      rw [plus_plus]
      refine gchain_cons _ rfl ?_
      go_wp2
      refine gExit_normal ⟨.inl (by kernel_rfl), fun j4 d4 => ?_⟩
      refine gchain_nil ?_
      go_wp2
      refine ⟨⟨.slice av (l.length + 1) cv, l ++ [-x], k + 1, (ja ++ j3) ++ j4, d4, HBx, by omega, by go_num, by rw [plus_plus], ownW_plus (d := d3) ((ownW_swap (X := (((w.alloc (.cells #[.int .i64 low, .slice (some ⟨b, q, none⟩) xs.length c] 57)).alloc (.cells #[.int .i64 0, .slice none 0 0] 57)).alloc (.cells #[.int .i64 low, .slice ao l.length co] 57))) (Y := (((w.alloc (.cells #[.int .i64 low, .slice (some ⟨b, q, none⟩) xs.length c] 57)).alloc (.cells #[.int .i64 0, .slice none 0 0] 57)).alloc (.cells #[.int .i64 low, .slice av (l.length + 1) cv] 57))) (by ((try simp only [plus_size, World.size_alloc, World.size_drew, World.size_setCell, size_setRow, World.heap_drewN, List.length_append]) <;> omega)) (Nat.le_refl _) hown3).mono (by ((try simp only [plus_size, World.size_alloc, World.size_drew, World.size_setCell, size_setRow, World.heap_drewN, List.length_append]) <;> omega)))⟩, ?_⟩
      simp [intOf]; omega
    · obtain rfl : k = xs.length := by omega
      have hrd := hown.typed.rho
      have HE := Lib.hid (show l = negL0 xs by rw [HLl.out, List.take_length])
      go_wp2
      refine bodyPost_ret (v := .agg #[.int .i64 low, .slice ao l.length co]) (by simp [results, Try.results53, go_sem]) rfl ?_
      refine ⟨ao, co, by rw [HA.out, ← HE.out, rhoL_length], by (repeat (first | (with_reducible exact Below.refl _ _) | (with_reducible assumption) | (with_reducible refine below_plus' ?_ ?_; ((try simp only [plus_size, World.size_alloc, World.size_drew, World.size_setCell, size_setRow, World.heap_drewN, List.length_append]) <;> omega)) | (with_reducible refine below_alloc' ?_ ?_; ((try simp only [plus_size, World.size_alloc, World.size_drew, World.size_setCell, size_setRow, World.heap_drewN, List.length_append]) <;> omega)) | with_reducible refine Below.drew ?_ | (with_reducible refine below_drewN' ?_ _) | exact Below.refl _ _)), ?_⟩
      rw [HA.out, ← HE.out, rhoL_length]
      exact hrd.off (K := w.heap.size + 1) ((((OffB.here _ _ _ (by ((try simp only [plus_size, World.size_alloc, World.size_drew, World.size_setCell, size_setRow, World.heap_drewN, List.length_append]) <;> omega))).alloc _).plus _ _ _)) (T := 57) (by decide) (by (repeat (first | (refine heap_at _ _ _ ?_; ((try simp only [plus_size, World.size_alloc, World.size_drew, World.size_setCell, size_setRow, World.heap_drewN, List.length_append]) <;> omega)) | (refine heap_past' ?_ ?_; ((try simp only [plus_size, World.size_alloc, World.size_drew, World.size_setCell, size_setRow, World.heap_drewN, List.length_append]) <;> omega)) | (refine heap_plus' ?_ ?_; ((try simp only [plus_size, World.size_alloc, World.size_drew, World.size_setCell, size_setRow, World.heap_drewN, List.length_append]) <;> omega)) | assumption)))
set_option maxHeartbeats 400000 in
theorem shift_any (low : Int) (a : Option Addr) (l c : Nat) (k : Int) (w : World) (hl : l ≤ 1000000000) (h1 : -100000 ≤ low ∧ low ≤ 100000) (h2 : -10 ≤ k ∧ k ≤ 10) : Calls Try.prog 52 #[.agg #[.int .i64 low, .slice a l c], .int .i64 k] w fun e w' => e = .returned (.agg #[.int .i64 (if l = 0 then low else low + k), .slice a l c]) ∧ Below w.heap.size w w' := by
  by_cases h0 : l = 0
  · rw [if_pos h0]
    have hlt : ¬ (0 : Int) < (l : Int) := by omega
    have H0 := Lib.hid h0
    clear h0
    go_enter Try.func52, Try.ntmps52
    go_wp2
    refine bodyPost_ret (v := .agg #[.int .i64 low, .slice a l c]) (by simp [results, Try.results52, go_sem]) rfl ?_
    exact ⟨rfl, by (repeat (first | (with_reducible exact Below.refl _ _) | (with_reducible assumption) | (with_reducible refine below_plus' ?_ ?_; ((try simp only [plus_size, World.size_alloc, World.size_drew, World.size_setCell, size_setRow, World.heap_drewN, List.length_append]) <;> omega)) | (with_reducible refine below_alloc' ?_ ?_; ((try simp only [plus_size, World.size_alloc, World.size_drew, World.size_setCell, size_setRow, World.heap_drewN, List.length_append]) <;> omega)) | with_reducible refine Below.drew ?_ | (with_reducible refine below_drewN' ?_ _) | exact Below.refl _ _))⟩
  · rw [if_neg h0]
    have hlt : (0 : Int) < (l : Int) := by omega
    have hw : IntKind.i64.wrap (low + k) = low + k := by rw [IntKind.wrap_i64]; omega
    clear h0
    go_enter Try.func52, Try.ntmps52
    go_wp2
    refine bodyPost_ret (v := .agg #[.int .i64 (low + k), .slice a l c]) (by simp [results, Try.results52, go_sem]) rfl ?_
    exact ⟨rfl, by (repeat (first | (with_reducible exact Below.refl _ _) | (with_reducible assumption) | (with_reducible refine below_plus' ?_ ?_; ((try simp only [plus_size, World.size_alloc, World.size_drew, World.size_setCell, size_setRow, World.heap_drewN, List.length_append]) <;> omega)) | (with_reducible refine below_alloc' ?_ ?_; ((try simp only [plus_size, World.size_alloc, World.size_drew, World.size_setCell, size_setRow, World.heap_drewN, List.length_append]) <;> omega)) | with_reducible refine Below.drew ?_ | (with_reducible refine below_drewN' ?_ _) | exact Below.refl _ _))⟩
theorem shift_nf (low : Int) (v : Value) (xs : List Int) (s : Int) (f : Int → Int) (A : Nat) (w : World) (h : rdW 78 w v xs) (k1 : isNf 57896044618658097711785492504343953926634992332820282019728792003956564819968 A f (low, xs)) (hA : A ≤ 2400) (hM : sup (shF s f) (A + 1)) (h1 : -1 ≤ s) (h2 : s ≤ 1) : Calls Try.prog 52 #[.agg #[.int .i64 low, v], .int .i64 s] w fun e w' => e = .returned (.agg #[.int .i64 (nf 57896044618658097711785492504343953926634992332820282019728792003956564819968 (shF s f)).1, v]) ∧ Below w.heap.size w w' ∧ (nf 57896044618658097711785492504343953926634992332820282019728792003956564819968 (shF s f)).2 = xs := by
  have p1 : -(A : Int) ≤ low := k1.lo
  have p3 : low ≤ A := k1.ab
  obtain ⟨a, c, rfl⟩ := rdW_form h
  have hl : xs.length ≤ 2 * A + 1 := k1.len
  rw [shift_fin k1 hM h1 h2]
  refine (shift_any low a xs.length c s w (by omega) (by omega) (by omega)).mono ?_
  rintro e w' ⟨rfl, hB⟩
  exact ⟨rfl, hB, rfl⟩
end Go.Proofs.Ytikakoclmmmjdaa
