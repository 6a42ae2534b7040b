/- The program's polynomials modulo 2^256 added. Conditions: as each theorem says. -/
import Derived.Test.YtikakoclmmmjdaaOa
import Derived.Test.YtikakoclmmmjdaaMc
import Derived.Test.YtikakoclmmmjdaaMb
namespace Go.Proofs.Ytikakoclmmmjdaa
open Go.RowKit
set_option linter.unusedSimpArgs false
set_option linter.unusedVariables false
open Go.RowKit
/-- a list of wide numbers that is only read, in blocks of the type e -/
def rdW (e : TypeId) (w : World) (v : Value) (xs : List Int) : Prop :=
  ∃ a cap, v = .slice a xs.length cap ∧ (xs = [] ∨ ∃ b o, a = some ⟨b, o, none⟩ ∧ (∃ c, w.heap[b]? = some (.cells c e (0, 0))) ∧ ∀ i, i < xs.length → ∀ j, j < 4 → w.cell? ⟨b, o + 4 * i + j, none⟩ = some (.int .u64 (wrd (nth xs i) j)))
theorem rdW.w {e : TypeId} {w : World} {v : Value} {xs : List Int} (h : rdW e w v xs) : readsW w v xs := by
  obtain ⟨a, c, hv, h⟩ := h
  exact ⟨a, c, hv, h.imp id fun ⟨b, o, ha, _, hc⟩ => ⟨b, o, ha, hc⟩⟩
theorem ownW.typed {e : TypeId} {w : World} {B : Nat} {v : Value} {xs : List Int} (h : ownW e w B v xs) : rdW e w v xs := by
  obtain ⟨a, c, hv, hr⟩ := h.reads
  refine ⟨a, c, hv, hr.imp id ?_⟩
  rintro ⟨b, o, ha, hc⟩
  subst ha
  obtain ⟨cur, hk⟩ := row_block h (k := b) (by
    rw [hv]
    rcases h.2 with ⟨h1, _⟩ | ⟨g, cap, cur, h1, _⟩
    · rw [hv] at h1; cases h1
    · rw [hv] at h1; cases h1; rfl)
  exact ⟨b, o, rfl, ⟨cur, hk⟩, hc⟩
theorem rdW_nil (e : TypeId) (w : World) : rdW e w (.slice none 0 0) [] := ⟨none, 0, rfl, .inl rfl⟩
theorem rdW_form {e : TypeId} {w : World} {v : Value} {xs : List Int} (h : rdW e w v xs) : ∃ a c, v = .slice a xs.length c := by
  obtain ⟨a, c, hv, _⟩ := h
  exact ⟨a, c, hv⟩
theorem rdW.kept {e : TypeId} {w w' : World} {v : Value} {xs : List Int} (h : rdW e w v xs) (hb : Below w.heap.size w w') : rdW e w' v xs := by
  obtain ⟨a, c, hv, h⟩ := h
  refine ⟨a, c, hv, h.imp id ?_⟩
  rintro ⟨b, o, ha, ⟨cur, hk⟩, hc⟩
  have hl : b < w.heap.size := lt_of_block hk
  refine ⟨b, o, ha, ⟨cur, (hb.block b hl).trans hk⟩, fun i hi j hj => ?_⟩
  rw [hb.cell (p := ⟨b, o + 4 * i + j, none⟩) hl]
  exact hc i hi j hj
theorem rdW.block {e T : TypeId} {w w' : World} {k : Nat} {c : Array Value} (hT : T ≠ e) (hk : w.heap[k]? = some (.cells c T (0, 0))) (hg : w.grownBy w' (some k)) {v : Value} {xs : List Int} (h : rdW e w v xs) : rdW e w' v xs := by
  obtain ⟨a, cp, hv, h⟩ := h
  refine ⟨a, cp, hv, h.imp id ?_⟩
  rintro ⟨b, o, ha, ⟨cur, hb⟩, hc⟩
  have hl : b < w.heap.size := lt_of_block hb
  have hne : (some k : Option Nat) ≠ some b := fun e => by
    cases e
    exact block_ne hT hk hb rfl
  have e1 : w'.heap[b]? = w.heap[b]? := hg.block b hl (fun e => hne e.symm)
  refine ⟨b, o, ha, ⟨cur, e1.trans hb⟩, fun i hi j hj => ?_⟩
  have := hc i hi j hj
  simp only [World.cell?] at this ⊢
  rw [e1]; exact this
theorem rdW.cells {e : TypeId} {w : World} {pa : Option Addr} {n ca : Nat} {ys : List Int} (h : rdW e w (.slice pa n ca) ys) (h0 : 0 < ys.length) : ∃ b q, pa = some ⟨b, q, none⟩ ∧ b < w.heap.size ∧ ∀ i, i < ys.length → ∀ j, j < 4 → w.cell? ⟨b, q + 4 * i + j, none⟩ = some (.int .u64 (wrd (nth ys i) j)) := h.w.cells h0
theorem rdW.tail {e : TypeId} {w : World} {b q n ca : Nat} {ys : List Int} (h : rdW e w (.slice (some ⟨b, q, none⟩) n ca) ys) (hc : n ≤ ca) (h0 : 0 < n) : rdW e w (.slice (if ca = 1 then some ⟨b, q, none⟩ else some ⟨b, q + 4, none⟩) (n - 1) (ca - 1)) (ys.drop 1) := by
  obtain ⟨a, c, hv, h⟩ := h
  cases hv
  refine ⟨_, _, by rw [List.length_drop], ?_⟩
  by_cases h1 : ca = 1
  · exact .inl (List.eq_nil_of_length_eq_zero (by rw [List.length_drop]; omega))
  · rw [if_neg h1]
    obtain ⟨b', q', e', ht, mm⟩ := h.resolve_left (fun e => by rw [e] at h0; simp at h0)
    cases e'
    refine .inr ⟨b, q + 4, rfl, ht, fun i hi j hj => ?_⟩
    rw [List.length_drop] at hi
    have := mm (i + 1) (by omega) j hj
    rw [nth_drop, show q + 4 + 4 * i + j = q + 4 * (i + 1) + j by omega, show 1 + i = i + 1 by omega]
    exact this
theorem rdW.front {e : TypeId} {w : World} {pa : Option Addr} {n ca m : Nat} {ys : List Int} (h : rdW e w (.slice pa n ca) ys) (hm : m ≤ n) : rdW e w (.slice pa m ca) (ys.take m) := by
  obtain ⟨a, c, hv, h⟩ := h
  cases hv
  refine ⟨_, _, by rw [List.length_take, Nat.min_eq_left hm], ?_⟩
  rcases h with rfl | ⟨b, q, rfl, ht, mm⟩
  · exact .inl (by simp)
  · refine .inr ⟨b, q, rfl, ht, fun i hi j hj => ?_⟩
    rw [List.length_take] at hi
    rw [nth_take (by omega)]
    exact mm i (by omega) j hj
theorem rdW.off {e : TypeId} {K : Nat} {X Y : World} {v : Value} {xs : List Int} (h : rdW e X v xs) (hK : OffB K X Y) {T : TypeId} (hT : T ≠ e) {c : Array Value} (hx : X.heap[K]? = some (.cells c T)) : rdW e Y v xs := by
  obtain ⟨ao, co, hv, h⟩ := h
  refine ⟨ao, co, hv, h.imp id ?_⟩
  rintro ⟨b, q, ha, ⟨cur, hb⟩, mm⟩
  have hne : b ≠ K := fun e => block_ne hT hx hb e.symm
  refine ⟨b, q, ha, ⟨cur, (hK.2 b hne).symm.trans hb⟩, fun i hi j hj => ?_⟩
  have h1 := mm i hi j hj
  simp only [World.cell?] at h1 ⊢
  rw [← hK.2 b hne]
  exact h1
theorem wrd_rho (x : Int) {i : Nat} (hi : i < 4) : wrd (rho 57896044618658097711785492504343953926634992332820282019728792003956564819968 x) i = wrd x i := by
  have e := rho_form 57896044618658097711785492504343953926634992332820282019728792003956564819968 x
  generalize (x + 57896044618658097711785492504343953926634992332820282019728792003956564819968) / (2 * 57896044618658097711785492504343953926634992332820282019728792003956564819968) = q at e
  rw [e]
  match i, hi with
  | 0, _ => simp only [wrd, qt]; omega
  | 1, _ => simp only [wrd, qt]; omega
  | 2, _ => simp only [wrd, qt]; omega
  | 3, _ => simp only [wrd, qt]; omega
/-- the rests of the numbers of a list -/
def rhoL (xs : List Int) : List Int := xs.map (rho 57896044618658097711785492504343953926634992332820282019728792003956564819968)
theorem rhoL_length (xs : List Int) : (rhoL xs).length = xs.length := by simp [rhoL]
theorem nth_rhoL (xs : List Int) (i : Nat) : nth (rhoL xs) i = rho 57896044618658097711785492504343953926634992332820282019728792003956564819968 (nth xs i) := by
  by_cases h : i < xs.length
  · simp [nth, rhoL, h]
  · rw [nth_over (by rw [rhoL_length]; omega), nth_over (by omega), rho_zero (by decide)]
theorem rdW.rho {e : TypeId} {w : World} {v : Value} {xs : List Int} (h : rdW e w v xs) : rdW e w v (rhoL xs) := by
  obtain ⟨a, c, hv, h⟩ := h
  refine ⟨a, c, by rw [rhoL_length]; exact hv, ?_⟩
  rcases h with rfl | ⟨b, q, ha, ht, mm⟩
  · exact .inl rfl
  · refine .inr ⟨b, q, ha, ht, fun i hi j hj => ?_⟩
    rw [rhoL_length] at hi
    rw [nth_rhoL, wrd_rho _ hj]
    exact mm i hi j hj
theorem Fw_rho (xs : List Int) : Fw (rhoL xs) := fun i _ => by
  rw [nth_rhoL]
  exact rho_lt (by decide) _
theorem atP_rhoL (lo : Int) (xs : List Int) (k : Int) : atP lo (rhoL xs) k = rho 57896044618658097711785492504343953926634992332820282019728792003956564819968 (atP lo xs k) := by
  unfold atP
  rw [rhoL_length]
  split
  · rw [nth_rhoL]
  · rw [rho_zero (by decide)]
/-! ## Sums -/
def adF (f g : Int → Int) : Int → Int := fun x => f x + g x
theorem sup_adF {f g : Int → Int} {N : Nat} (hf : sup f N) (hg : sup g N) : sup (adF f g) N := fun k hk => by
  show f k + g k = 0
  rw [hf k hk, hg k hk]; rfl
theorem sumP_at {lp : Int} {xs : List Int} {lq : Int} {ys : List Int} (hx : ¬ xs.length = 0) (hy : ¬ ys.length = 0) (k : Int) : atP (loP lp lq) (sumP lp xs lq ys) k = atP lp xs k + atP lq ys k := by
  have hl : (sumP lp xs lq ys).length = (hiP lp lq xs ys - loP lp lq).toNat := by simp [sumP]
  have a1 : loP lp lq ≤ lp ∧ loP lp lq ≤ lq := by unfold loP; split <;> omega
  have a2 : lp + xs.length ≤ hiP lp lq xs ys ∧ lq + ys.length ≤ hiP lp lq xs ys := by unfold hiP; split <;> omega
  by_cases h : loP lp lq ≤ k ∧ k < hiP lp lq xs ys
  · obtain ⟨i, rfl⟩ : ∃ i : Nat, k = loP lp lq + i := ⟨(k - loP lp lq).toNat, by omega⟩
    rw [atP_in (by omega), sumP_nth (by omega)]
  · have e1 : atP lp xs k = 0 := by
      unfold atP
      rw [if_neg (by omega)]
    have e2 : atP lq ys k = 0 := by
      unfold atP
      rw [if_neg (by omega)]
    rw [e1, e2]
    unfold atP
    rw [if_neg (by omega)]; rfl
theorem addP_fin {f g : Int → Int} {A M : Nat} {lp : Int} {xs : List Int} {lq : Int} {ys : List Int} (hp : isNf 57896044618658097711785492504343953926634992332820282019728792003956564819968 A f (lp, xs)) (hq : isNf 57896044618658097711785492504343953926634992332820282019728792003956564819968 A g (lq, ys)) (hM : sup (adF f g) M) (hx : ¬ xs.length = 0) (hy : ¬ ys.length = 0) :
    nf 57896044618658097711785492504343953926634992332820282019728792003956564819968 (adF f g) = (trimLow (loP lp lq) (rhoL (sumP lp xs lq ys)), trimLst (rhoL (sumP lp xs lq ys))) := by
  have p1 : -(A : Int) ≤ lp := hp.lo
  have p2 : lp + xs.length ≤ A + 1 := hp.hi
  have q1 : -(A : Int) ≤ lq := hq.lo
  have q2 : lq + ys.length ≤ A + 1 := hq.hi
  have hl : (sumP lp xs lq ys).length = (hiP lp lq xs ys - loP lp lq).toNat := by simp [sumP]
  have a1 : -(A : Int) ≤ loP lp lq ∧ loP lp lq ≤ A := by unfold loP; split <;> omega
  have a2 : hiP lp lq xs ys ≤ A + 1 ∧ loP lp lq ≤ hiP lp lq xs ys := by unfold hiP loP; split <;> split <;> omega
  refine nf_eq (by decide) hM (isNf_trim (by decide) (N := A) a1.1 (by rw [rhoL_length]; omega) a1.2 (fun k => ?_) hM)
  have v1 : atP lp xs k = rho 57896044618658097711785492504343953926634992332820282019728792003956564819968 (f k) := hp.v k
  have v2 : atP lq ys k = rho 57896044618658097711785492504343953926634992332820282019728792003956564819968 (g k) := hq.v k
  rw [atP_rhoL, sumP_at hx hy, v1, v2, rho_add]; rfl
theorem addP_l {f g : Int → Int} {A M : Nat} {lp : Int} {xs : List Int} {lq : Int} {ys : List Int} (hp : isNf 57896044618658097711785492504343953926634992332820282019728792003956564819968 A f (lp, xs)) (hq : isNf 57896044618658097711785492504343953926634992332820282019728792003956564819968 A g (lq, ys)) (hM : sup (adF f g) M) (hx : xs.length = 0) : nf 57896044618658097711785492504343953926634992332820282019728792003956564819968 (adF f g) = (lq, ys) :=
  nf_eq (by decide) hM (hq.congr fun k => by
    show _ = rho _ (f k + g k)
    rw [← rho_add_left, hp.zero hx k, Int.zero_add])
theorem addP_r {f g : Int → Int} {A M : Nat} {lp : Int} {xs : List Int} {lq : Int} {ys : List Int} (hp : isNf 57896044618658097711785492504343953926634992332820282019728792003956564819968 A f (lp, xs)) (hq : isNf 57896044618658097711785492504343953926634992332820282019728792003956564819968 A g (lq, ys)) (hM : sup (adF f g) M) (hy : ys.length = 0) : nf 57896044618658097711785492504343953926634992332820282019728792003956564819968 (adF f g) = (lp, xs) :=
  nf_eq (by decide) hM (hp.congr fun k => by
    show _ = rho _ (f k + g k)
    rw [← rho_add_right, hq.zero hy k, Int.add_zero])
/-- a polynomial in normal form modulo 2^256 is handed back -/
def RetP (w : World) (f : Int → Int) : Ending → World → Prop := fun e w' => ∃ a c, e = .returned (.agg #[.int .i64 (nf 57896044618658097711785492504343953926634992332820282019728792003956564819968 f).1, .slice a (nf 57896044618658097711785492504343953926634992332820282019728792003956564819968 f).2.length c]) ∧ Below w.heap.size w w' ∧ rdW 78 w' (.slice a (nf 57896044618658097711785492504343953926634992332820282019728792003956564819968 f).2.length c) (nf 57896044618658097711785492504343953926634992332820282019728792003956564819968 f).2
theorem retP_form {w w' : World} {f : Int → Int} {en : Ending} (h : RetP w f en w') : ∃ a c, en = .returned (.agg #[.int .i64 (nf 57896044618658097711785492504343953926634992332820282019728792003956564819968 f).1, .slice a (nf 57896044618658097711785492504343953926634992332820282019728792003956564819968 f).2.length c]) ∧ Below w.heap.size w w' ∧ rdW 78 w' (.slice a (nf 57896044618658097711785492504343953926634992332820282019728792003956564819968 f).2.length c) (nf 57896044618658097711785492504343953926634992332820282019728792003956564819968 f).2 := h
set_option maxHeartbeats 2000000 in
theorem trim_T (low : Int) (a0 : Option Addr) (c0 : Nat) (xs : List Int) (w : World) (h : rdW 78 w (.slice a0 xs.length c0) xs) (hc0 : xs.length ≤ c0) (hlen : xs.length ≤ 100000) (hl1 : -100000 ≤ low) (hl2 : low ≤ 100000) (hf : Fw xs) : Calls Try.prog 58 #[.agg #[.int .i64 low, .slice a0 xs.length c0]] w fun e w' => (∃ v', e = .returned (.agg #[.int .i64 (trimLow low xs), v']) ∧ rdW 78 w v' (trimLst xs)) ∧ Below w.heap.size w w' := by
  have hE := eql_arrF (P := Try.prog) (t := 78) (e := 76) (n := 4) (k := .u64) (ht := Try.underlying78) (he := Try.underlying76) (hsz := fun w => by simp [Try.sizeOf76]) (G := zeroF)
  have HE := Lib.hid (fun w i (hi : i < xs.length) => (hE w (wrd (nth xs i))).trans (by rw [zero_eq (hf i hi).1 (hf i hi).2]))
  clear hE hf
  have H := Lib.hid h
  clear h
  go_enter Try.func58, Try.ntmps58
  go_wp2
  go_loopw [] (fun wr => ∃ (a : Nat) (pa : Option Addr) (n ca : Nat), a ≤ xs.length ∧ Hid (n = xs.length - a) ∧ n ≤ ca ∧ wr = ((w.alloc (.cells #[.int .i64 (low + a), .slice pa n ca] 57)).alloc (.cells #[.int .i64 0, .slice none 0 0] 57)) ∧ Hid (rdW 78 w (.slice pa n ca) (xs.drop a)) ∧ Hid (∀ i, i < a → nth xs i = 0)) (fun wr => boxLen wr w.heap.size)
  case atStart => exact ⟨0, a0, xs.length, c0, by omega, Lib.hid rfl, hc0, by simp, Lib.hid (by simpa using H.out), Lib.hid (fun i hi => by omega)⟩
  case round =>
    obtain ⟨a, pa, n, ca, ha, Hn, hca, rfl, HR, HZ⟩ := hrel
    have hnl : n ≤ 100000 := by have := Hn.out; omega
    by_cases h0 : a < xs.length
    · obtain ⟨b, q, rfl, hbk, mm⟩ := HR.out.cells (by simp; omega)
      have c0 := mm 0 (by simp; omega) 0 (by decide)
      have c1 := mm 0 (by simp; omega) 1 (by decide)
      have c2 := mm 0 (by simp; omega) 2 (by decide)
      have c3 := mm 0 (by simp; omega) 3 (by decide)
      have HMM := Lib.hid mm
      simp only [nth_drop, Nat.mul_zero, Nat.add_zero] at c0 c1 c2 c3
      have hn0 : 0 < n := by have := Hn.out; omega
      have hn1 : (0 : Int) < (n : Int) := by omega
      have hb1 : b < w.heap.size + 1 := by omega
      clear mm
      by_cases hz : nth xs a = 0
      · have hE := fun w => HE.out w a h0
        simp only [hz] at hE c0 c1 c2 c3
        have HZ2 := Lib.hid hz
        clear hz
        go_wp2
        refine ⟨⟨a + 1, _, xs.length - (a + 1), ca - 1, by omega, Lib.hid rfl, by have := Hn.out; omega, by rw [show n - 1 = xs.length - (a + 1) by have := Hn.out; omega, show low + ((a + 1 : Nat) : Int) = low + a + 1 by omega], Lib.hid ?_, Lib.hid (fun i hi => ?_)⟩, ?_⟩
        · have := HR.out.tail hca hn0
          rw [List.drop_drop, Hn.out] at this
          exact this
        · by_cases e : i = a
          · rw [e]; exact HZ2.out
          · exact HZ.out i (by omega)
        · simp [boxLen, go_sem]; have := Hn.out; omega
      · have hE := fun w => HE.out w a h0
        simp only [hz, decide_false] at hE
        have HZ2 := Lib.hid hz
        clear hz
        go_wp2
        go_loopw [3] (fun sl wr => ∃ (m : Nat), 0 < m ∧ m ≤ n ∧ sl = .int .i64 m ∧ wr = ((w.alloc (.cells #[.int .i64 (low + a), .slice (some ⟨b, q, none⟩) m ca] 57)).alloc (.cells #[.int .i64 0, .slice none 0 0] 57)) ∧ Hid (∀ i, a + m ≤ i → nth xs i = 0)) (fun sl _ => (intOf sl).toNat)
        case atStart => exact ⟨n, hn0, Nat.le_refl _, by go_num, rfl, Lib.hid (fun i hi => nth_over (by have := Hn.out; omega))⟩
        case round =>
          obtain ⟨m, hm0, hm, rfl, rfl, HB⟩ := hrel
          have hm1 : (0 : Int) < (m : Int) := by omega
          obtain ⟨p, rfl⟩ : ∃ p, m = p + 1 := ⟨m - 1, by omega⟩
          have hp : p < n := by omega
          have hw1 : ((p + 1 : Nat) : Int) - 1 = p := by omega
          have mm := HMM.out
          have hap : a + p < xs.length := by have := Hn.out; omega
          have d0 := mm p (by rw [List.length_drop]; omega) 0 (by decide)
          have d1 := mm p (by rw [List.length_drop]; omega) 1 (by decide)
          have d2 := mm p (by rw [List.length_drop]; omega) 2 (by decide)
          have d3 := mm p (by rw [List.length_drop]; omega) 3 (by decide)
          rw [Nat.mul_comm, nth_drop] at d0 d1 d2 d3
          rw [Nat.add_zero] at d0
          clear mm c0 c1 c2 c3 hE
          by_cases hy : nth xs (a + p) = 0
          · have hE := fun w => HE.out w (a + p) hap
            simp only [hy, decide_true] at hE d0 d1 d2 d3
            have HY := Lib.hid hy
            clear hy
            go_wp2
            have hp0 : 0 < p := by
              rcases Nat.eq_zero_or_pos p with rfl | h
              · exact absurd HY.out HZ2.out
              · exact h
            refine ⟨⟨p, hp0, by omega, rfl, rfl, Lib.hid (fun i hi => ?_)⟩, by simp [intOf]⟩
            by_cases e : i = a + p
            · rw [e]; exact HY.out
            · exact HB.out i (by omega)
          · have hE := fun w => HE.out w (a + p) hap
            simp only [hy, decide_false] at hE
            have HT := Lib.hid (trim_is (low := low) (xs := xs) (a := a) (m := p + 1) HZ.out HB.out (.inr ⟨HZ2.out, hy⟩))
            clear hy
            go_wp2
            refine bodyPost_ret (v := .agg #[.int .i64 (low + a), .slice (some ⟨b, q, none⟩) (p + 1) ca]) (by simp [results, Try.results58, go_sem]) rfl ?_
            refine ⟨⟨_, by rw [HT.out.1, if_neg (by omega)], ?_⟩, by (repeat (first | (with_reducible exact Below.refl _ _) | (with_reducible assumption) | (with_reducible refine below_plus' ?_ ?_; ((try simp only [plus_size, World.size_alloc, World.size_drew, World.size_setCell, size_setRow, World.heap_drewN, List.length_append]) <;> omega)) | (with_reducible refine below_alloc' ?_ ?_; ((try simp only [plus_size, World.size_alloc, World.size_drew, World.size_setCell, size_setRow, World.heap_drewN, List.length_append]) <;> omega)) | with_reducible refine Below.drew ?_ | (with_reducible refine below_drewN' ?_ _) | exact Below.refl _ _))⟩
            rw [HT.out.2]
            exact HR.out.front hm
    · obtain rfl : a = xs.length := by omega
      obtain rfl : n = 0 := by have := Hn.out; omega
      clear ha h0 hnl hca Hn
      have HT := Lib.hid (trim_is (low := low) (xs := xs) (a := xs.length) (m := 0) HZ.out (fun i hi => nth_over (by omega)) (.inl rfl))
      go_wp2
      go_loopw [3] (fun sl wr => sl = .int .i64 0 ∧ wr = ((w.alloc (.cells #[.int .i64 (low + xs.length), .slice pa 0 ca] 57)).alloc (.cells #[.int .i64 0, .slice none 0 0] 57))) (fun _ _ => 0)
      case atStart => exact ⟨by go_num, rfl⟩
      case round =>
        obtain ⟨rfl, rfl⟩ := hrel
        go_wp2
        refine bodyPost_ret (v := .agg #[.int .i64 0, .slice pa 0 ca]) (by simp [results, Try.results58, go_sem]) rfl ?_
        refine ⟨⟨_, by rw [HT.out.1, if_pos trivial], ?_⟩, by (repeat (first | (with_reducible exact Below.refl _ _) | (with_reducible assumption) | (with_reducible refine below_plus' ?_ ?_; ((try simp only [plus_size, World.size_alloc, World.size_drew, World.size_setCell, size_setRow, World.heap_drewN, List.length_append]) <;> omega)) | (with_reducible refine below_alloc' ?_ ?_; ((try simp only [plus_size, World.size_alloc, World.size_drew, World.size_setCell, size_setRow, World.heap_drewN, List.length_append]) <;> omega)) | with_reducible refine Below.drew ?_ | (with_reducible refine below_drewN' ?_ _) | exact Below.refl _ _))⟩
        rw [HT.out.2]
        exact HR.out.front (Nat.le_refl 0)
theorem trim_slT (low : Int) (a0 : Option Addr) (c0 : Nat) (xs : List Int) (w : World) (h : rdW 78 w (.slice a0 xs.length c0) xs) (hc0 : xs.length ≤ c0) (hlen : xs.length ≤ 100000) (hl1 : -100000 ≤ low) (hl2 : low ≤ 100000) (hf : Fw xs) : Calls Try.prog 58 #[.agg #[.int .i64 low, .slice a0 xs.length c0]] w fun e w' => (∃ a3 c3, e = .returned (.agg #[.int .i64 (trimLow low xs), .slice a3 (trimLst xs).length c3]) ∧ rdW 78 w' (.slice a3 (trimLst xs).length c3) (trimLst xs)) ∧ Below w.heap.size w w' := by
  refine (trim_T low a0 c0 xs w h hc0 hlen hl1 hl2 hf).mono ?_
  rintro e w' ⟨⟨v', rfl, hR⟩, hB⟩
  obtain ⟨a3, c3, rfl⟩ := rdW_form hR
  exact ⟨⟨a3, c3, rfl, hR.kept hB⟩, hB⟩
set_option maxHeartbeats 2000000 in
theorem add_nf (lp : Int) (v1 : Value) (xs : List Int) (lq : Int) (v2 : Value) (ys : List Int) (f g : Int → Int) (A : Nat) (w : World) (h1 : rdW 78 w v1 xs) (h2 : rdW 78 w v2 ys) (k1 : isNf 57896044618658097711785492504343953926634992332820282019728792003956564819968 A f (lp, xs)) (k2 : isNf 57896044618658097711785492504343953926634992332820282019728792003956564819968 A g (lq, ys)) (hA : A ≤ 2400) (hM : sup (adF f g) A) : Calls Try.prog 37 #[.agg #[.int .i64 lp, v1], .agg #[.int .i64 lq, v2]] w (RetP w (adF f g)) := by
  have hp1 : -(A : Int) ≤ lp := k1.lo
  have hp2 : lp + xs.length ≤ A + 1 := k1.hi
  have hp3 : lp ≤ A := k1.ab
  have hq1 : -(A : Int) ≤ lq := k2.lo
  have hq2 : lq + ys.length ≤ A + 1 := k2.hi
  have hq3 : lq ≤ A := k2.ab
  have HP := Lib.hid (fun (k : Int) (hk1 : -1000000 ≤ k) (hk2 : k ≤ 1000000) w' (hb : Below w.heap.size w w') => at_any lp v1 xs k w' (h1.kept hb).w (by omega) (by omega) (by omega) hk1 hk2)
  have HQ := Lib.hid (fun (k : Int) (hk1 : -1000000 ≤ k) (hk2 : k ≤ 1000000) w' (hb : Below w.heap.size w w') => at_any lq v2 ys k w' (h2.kept hb).w (by omega) (by omega) (by omega) hk1 hk2)
  have H1 := Lib.hid h1
  have H2 := Lib.hid h2
  obtain ⟨a1, c1, rfl⟩ := rdW_form h1
  obtain ⟨a2, c2, rfl⟩ := rdW_form h2
  by_cases hx : xs.length = 0
  · have HA := Lib.hid (addP_l k1 k2 hM hx)
    clear k1 k2 hM
    go_enter Try.func37, Try.ntmps37
    go_wp2
    refine bodyPost_ret (v := .agg #[.int .i64 lq, .slice a2 ys.length c2]) (by simp [results, Try.results37, go_sem]) rfl ?_
    refine ⟨a2, c2, by rw [HA.out], by (repeat (first | (with_reducible exact Below.refl _ _) | (with_reducible assumption) | (with_reducible refine below_plus' ?_ ?_; ((try simp only [plus_size, World.size_alloc, World.size_drew, World.size_setCell, size_setRow, World.heap_drewN, List.length_append]) <;> omega)) | (with_reducible refine below_alloc' ?_ ?_; ((try simp only [plus_size, World.size_alloc, World.size_drew, World.size_setCell, size_setRow, World.heap_drewN, List.length_append]) <;> omega)) | with_reducible refine Below.drew ?_ | (with_reducible refine below_drewN' ?_ _) | exact Below.refl _ _)), ?_⟩
    rw [HA.out]
    exact H2.out.kept (by (repeat (first | (with_reducible exact Below.refl _ _) | (with_reducible assumption) | (with_reducible refine below_plus' ?_ ?_; ((try simp only [plus_size, World.size_alloc, World.size_drew, World.size_setCell, size_setRow, World.heap_drewN, List.length_append]) <;> omega)) | (with_reducible refine below_alloc' ?_ ?_; ((try simp only [plus_size, World.size_alloc, World.size_drew, World.size_setCell, size_setRow, World.heap_drewN, List.length_append]) <;> omega)) | with_reducible refine Below.drew ?_ | (with_reducible refine below_drewN' ?_ _) | exact Below.refl _ _)))
  · by_cases hy : ys.length = 0
    · have HA := Lib.hid (addP_r k1 k2 hM hy)
      clear k1 k2 hM
      go_enter Try.func37, Try.ntmps37
      go_wp2
      refine bodyPost_ret (v := .agg #[.int .i64 lp, .slice a1 xs.length c1]) (by simp [results, Try.results37, go_sem]) rfl ?_
      refine ⟨a1, c1, by rw [HA.out], by (repeat (first | (with_reducible exact Below.refl _ _) | (with_reducible assumption) | (with_reducible refine below_plus' ?_ ?_; ((try simp only [plus_size, World.size_alloc, World.size_drew, World.size_setCell, size_setRow, World.heap_drewN, List.length_append]) <;> omega)) | (with_reducible refine below_alloc' ?_ ?_; ((try simp only [plus_size, World.size_alloc, World.size_drew, World.size_setCell, size_setRow, World.heap_drewN, List.length_append]) <;> omega)) | with_reducible refine Below.drew ?_ | (with_reducible refine below_drewN' ?_ _) | exact Below.refl _ _)), ?_⟩
      rw [HA.out]
      exact H1.out.kept (by (repeat (first | (with_reducible exact Below.refl _ _) | (with_reducible assumption) | (with_reducible refine below_plus' ?_ ?_; ((try simp only [plus_size, World.size_alloc, World.size_drew, World.size_setCell, size_setRow, World.heap_drewN, List.length_append]) <;> omega)) | (with_reducible refine below_alloc' ?_ ?_; ((try simp only [plus_size, World.size_alloc, World.size_drew, World.size_setCell, size_setRow, World.heap_drewN, List.length_append]) <;> omega)) | with_reducible refine Below.drew ?_ | (with_reducible refine below_drewN' ?_ _) | exact Below.refl _ _)))
    · have HA := Lib.hid (addP_fin k1 k2 hM hx hy)
      clear k1 k2 hM
      go_enter Try.func37, Try.ntmps37
      go_upto_region 7 with (fail)
      obtain ⟨lo, hlo⟩ : ∃ lo, loP lp lq = lo := ⟨_, rfl⟩
      obtain ⟨hi, hhi⟩ : ∃ hi, hiP lp lq xs ys = hi := ⟨_, rfl⟩
      have e1 : (if lq < lp then lq else lp) = lo := hlo
      have e2 : (if lp + (xs.length : Int) < lq + (ys.length : Int) then lq + (ys.length : Int) else lp + (xs.length : Int)) = hi := hhi
      rw [e1, e2]
      have b1 : -2500 ≤ lo := by rw [← e1]; split <;> omega
      have b2 : lo ≤ 2500 := by rw [← e1]; split <;> omega
      have b3 : hi ≤ 10000 := by rw [← e2]; split <;> omega
      have b4 : lo ≤ hi := by rw [← e1, ← e2]; split <;> split <;> omega
      rw [hlo] at HA
      have HS := Lib.hid (fun (k : Nat) (h : lo + k < hi) => sumP_take (lp := lp) (xs := xs) (lq := lq) (ys := ys) (k := k) (by rw [hlo, hhi]; omega))
      have HN := Lib.hid (show (sumP lp xs lq ys).length = (hi - lo).toNat by simp [sumP, hlo, hhi])
      rw [hlo] at HS
      generalize sumP lp xs lq ys = ss at HA HS HN
      clear e1 e2 hlo hhi
      have hxb : ((xs.length : Int) == 0) = false := beq_eq_false_iff_ne.2 (by omega)
      have hyb : ((ys.length : Int) == 0) = false := beq_eq_false_iff_ne.2 (by omega)
      simp only [hxb, hyb]
      go_wp2
      go_loopw [8] (fun sl wr => ∃ (vo : Value) (l : List Int) (k : Nat) (j : List Obj) (d : Nat), Hid (l = ss.take k) ∧ lo + k ≤ hi ∧ sl = .int .i64 (lo + k) ∧ wr = plus ((((w.alloc (.cells #[.int .i64 lp, .slice a1 xs.length c1] 57)).alloc (.cells #[.int .i64 lq, .slice a2 ys.length c2] 57)).alloc (.cells #[.int .i64 0, .slice none 0 0] 57)).alloc (.cells #[.int .i64 lo, vo] 57)) j d ∧ ownW 78 (plus ((((w.alloc (.cells #[.int .i64 lp, .slice a1 xs.length c1] 57)).alloc (.cells #[.int .i64 lq, .slice a2 ys.length c2] 57)).alloc (.cells #[.int .i64 0, .slice none 0 0] 57)).alloc (.cells #[.int .i64 lo, vo] 57)) j d) ((((w.alloc (.cells #[.int .i64 lp, .slice a1 xs.length c1] 57)).alloc (.cells #[.int .i64 lq, .slice a2 ys.length c2] 57)).alloc (.cells #[.int .i64 0, .slice none 0 0] 57)).alloc (.cells #[.int .i64 lo, vo] 57)).heap.size vo l) (fun sl _ => (hi - intOf sl).toNat)
      case atStart => exact ⟨_, [], 0, [], w.drawn, Lib.hid rfl, by omega, by go_num, (plus_nil _).symm, ownW_nil _ _ _⟩
      case round =>
        obtain ⟨vo, l, k, j, d, HLl, hk, rfl, rfl, hown⟩ := hrel
        obtain ⟨ao, co, rfl, hs⟩ := id hown.reads
        clear hs
        by_cases hlt : lo + k < hi
        · have hll : l.length < 1000000000 := by have := congrArg List.length HLl.out; simp at this; omega
          have HPk := Lib.hid (fun w' (hb : Below w.heap.size w w') => HP.out (lo + k) (by omega) (by omega) w' hb)
          have HQk := Lib.hid (fun w' (hb : Below w.heap.size w w') => HQ.out (lo + k) (by omega) (by omega) w' hb)
          have HBx := Lib.hid (show l ++ [atP lp xs (lo + k) + atP lq ys (lo + k)] = ss.take (k + 1) from (congrArg (· ++ [atP lp xs (lo + k) + atP lq ys (lo + k)]) HLl.out).trans (HS.out k hlt))
          generalize atP lp xs (lo + k) = x at HPk HBx
          generalize atP lq ys (lo + k) = y at HQk HBx
          go_wp2
          refine region_ghostW (W := ((((w.alloc (.cells #[.int .i64 lp, .slice a1 xs.length c1] 57)).alloc (.cells #[.int .i64 lq, .slice a2 ys.length c2] 57)).alloc (.cells #[.int .i64 0, .slice none 0 0] 57)).alloc (.cells #[.int .i64 lo, .slice ao l.length co] 57))) [9, 10, 12] (by kernel_rfl) (by kernel_rfl) (by kernel_rfl) ?_
          repeat (refine wpPlain_step (fun K hK => ?_); go_simp; first | (refine hK _ ?_; clear hK K) | (apply Exists.intro; refine ⟨fun _ => ?_, hK _ ?_⟩; (first | (go_at_call 56; with_reducible refine Calls.mono (HPk.out _ ?_) ?_; rw [plusq_eq]; (repeat (first | (with_reducible exact Below.refl _ _) | (with_reducible assumption) | (with_reducible refine below_plus' ?_ ?_; ((try simp only [plus_size, World.size_alloc, World.size_drew, World.size_setCell, size_setRow, World.heap_drewN, List.length_append]) <;> omega)) | (with_reducible refine below_alloc' ?_ ?_; ((try simp only [plus_size, World.size_alloc, World.size_drew, World.size_setCell, size_setRow, World.heap_drewN, List.length_append]) <;> omega)) | with_reducible refine Below.drew ?_ | (with_reducible refine below_drewN' ?_ _) | exact Below.refl _ _)); rintro e w'' ⟨he, hB⟩; exact ⟨he, hB⟩) | (go_at_call 56; with_reducible refine Calls.mono (HQk.out _ ?_) ?_; rw [plusq_eq]; (repeat (first | (with_reducible exact Below.refl _ _) | (with_reducible assumption) | (with_reducible refine below_plus' ?_ ?_; ((try simp only [plus_size, World.size_alloc, World.size_drew, World.size_setCell, size_setRow, World.heap_drewN, List.length_append]) <;> omega)) | (with_reducible refine below_alloc' ?_ ?_; ((try simp only [plus_size, World.size_alloc, World.size_drew, World.size_setCell, size_setRow, World.heap_drewN, List.length_append]) <;> omega)) | with_reducible refine Below.drew ?_ | (with_reducible refine below_drewN' ?_ _) | exact Below.refl _ _)); rintro e w'' ⟨he, hB⟩; exact ⟨he, hB⟩) | (go_at_call 57; refine Calls.mono (plus_any x y _) ?_; rintro e w'' ⟨he, hB⟩; exact ⟨he, hB⟩)); clear hK K))
          refine wpPlain_nil ?_
          intro j1 d1
          rw [plus_plus]
          have hown1 := ownW_plus (j' := j1) (d' := d1) hown
          refine gchain_cons _ rfl ?_
          go_wp2
          refine gExit_normal ⟨.inr (later_of_below (by (repeat (first | (with_reducible exact Below.refl _ _) | (with_reducible assumption) | (with_reducible refine below_plus' ?_ ?_; ((try simp only [plus_size, World.size_alloc, World.size_drew, World.size_setCell, size_setRow, World.heap_drewN, List.length_append]) <;> omega)) | (with_reducible refine below_alloc' ?_ ?_; ((try simp only [plus_size, World.size_alloc, World.size_drew, World.size_setCell, size_setRow, World.heap_drewN, List.length_append]) <;> omega)) | with_reducible refine Below.drew ?_ | (with_reducible refine below_drewN' ?_ _) | exact Below.refl _ _)))), fun j2 d2 => ?_⟩
          refine gchain_cons _ rfl ?_
          refine wpList_appendWide rfl _ _ 55 rfl 78 _ Try.underlying55 infoW rfl ((((w.alloc (.cells #[.int .i64 lp, .slice a1 xs.length c1] 57)).alloc (.cells #[.int .i64 lq, .slice a2 ys.length c2] 57)).alloc (.cells #[.int .i64 0, .slice none 0 0] 57)).alloc (.cells #[.int .i64 lo, .slice ao l.length co] 57)).heap.size (.slice ao l.length co) l rfl _ 1 rfl ((x + y)) ?_ (hown1.kept (by (repeat (first | (with_reducible exact Below.refl _ _) | (with_reducible assumption) | (with_reducible refine below_plus' ?_ ?_; ((try simp only [plus_size, World.size_alloc, World.size_drew, World.size_setCell, size_setRow, World.heap_drewN, List.length_append]) <;> omega)) | (with_reducible refine below_alloc' ?_ ?_; ((try simp only [plus_size, World.size_alloc, World.size_drew, World.size_setCell, size_setRow, World.heap_drewN, List.length_append]) <;> omega)) | with_reducible refine Below.drew ?_ | (with_reducible refine below_drewN' ?_ _) | exact Below.refl _ _)))) hll (by ((try simp only [plus_size, World.size_alloc, World.size_drew, World.size_setCell, size_setRow, World.heap_drewN, List.length_append]) <;> omega)) ?_
          · intro j hj
            rw [plus_cell _ _ _ _ _ (by ((try simp only [plus_size, World.size_alloc, World.size_drew, World.size_setCell, size_setRow, World.heap_drewN, List.length_append]) <;> omega)), World.cell?_alloc_at _ _ _ _ (by ((try simp only [plus_size, World.size_alloc, World.size_drew, World.size_setCell, size_setRow, World.heap_drewN, List.length_append]) <;> omega))]
            exact arrF_get _ _ _ _ hj
          intro v' w3 hown2 hB _
          go_wp2
          have hW3 : Below ((((w.alloc (.cells #[.int .i64 lp, .slice a1 xs.length c1] 57)).alloc (.cells #[.int .i64 lq, .slice a2 ys.length c2] 57)).alloc (.cells #[.int .i64 0, .slice none 0 0] 57)).alloc (.cells #[.int .i64 lo, .slice ao l.length co] 57)).heap.size ((((w.alloc (.cells #[.int .i64 lp, .slice a1 xs.length c1] 57)).alloc (.cells #[.int .i64 lq, .slice a2 ys.length c2] 57)).alloc (.cells #[.int .i64 0, .slice none 0 0] 57)).alloc (.cells #[.int .i64 lo, .slice ao l.length co] 57)) w3 := Below.trans (by (repeat (first | (with_reducible exact Below.refl _ _) | (with_reducible assumption) | (with_reducible refine below_plus' ?_ ?_; ((try simp only [plus_size, World.size_alloc, World.size_drew, World.size_setCell, size_setRow, World.heap_drewN, List.length_append]) <;> omega)) | (with_reducible refine below_alloc' ?_ ?_; ((try simp only [plus_size, World.size_alloc, World.size_drew, World.size_setCell, size_setRow, World.heap_drewN, List.length_append]) <;> omega)) | with_reducible refine Below.drew ?_ | (with_reducible refine below_drewN' ?_ _) | exact Below.refl _ _))) hB
          obtain ⟨ja, da, rfl⟩ := plus_of_below hW3
          refine gExit_normal ⟨.inr (later_of_below hW3), fun j3 d3 => ?_⟩
          obtain ⟨av, cv, rfl, hs⟩ := id hown2.reads
          clear hs
          have hown3 := ownW_plus (j' := j3) (d' := d3) hown2
          have hL : (l ++ [(x + y)]).length = l.length + 1 := by simp
          rw [hL] at hown3
          clear hL
          rw [plus_plus]
          refine gchain_cons _ rfl ?_
          go_wp2
          refine gExit_normal ⟨.inl (by kernel_rfl), fun j4 d4 => ?_⟩
          refine gchain_nil ?_
          go_wp2
          
          refine ⟨⟨.slice av (l.length + 1) cv, l ++ [x + y], k + 1, (ja ++ j3) ++ j4, d4, HBx, by omega, by go_num, by rw [plus_plus], ownW_plus (d := d3) ((ownW_swap (X := ((((w.alloc (.cells #[.int .i64 lp, .slice a1 xs.length c1] 57)).alloc (.cells #[.int .i64 lq, .slice a2 ys.length c2] 57)).alloc (.cells #[.int .i64 0, .slice none 0 0] 57)).alloc (.cells #[.int .i64 lo, .slice ao l.length co] 57))) (Y := ((((w.alloc (.cells #[.int .i64 lp, .slice a1 xs.length c1] 57)).alloc (.cells #[.int .i64 lq, .slice a2 ys.length c2] 57)).alloc (.cells #[.int .i64 0, .slice none 0 0] 57)).alloc (.cells #[.int .i64 lo, .slice av (l.length + 1) cv] 57))) (by ((try simp only [plus_size, World.size_alloc, World.size_drew, World.size_setCell, size_setRow, World.heap_drewN, List.length_append]) <;> omega)) (Nat.le_refl _) hown3).mono (by ((try simp only [plus_size, World.size_alloc, World.size_drew, World.size_setCell, size_setRow, World.heap_drewN, List.length_append]) <;> omega)))⟩, ?_⟩
          simp [intOf]; omega
        · have HEl : l = ss := by rw [HLl.out, List.take_of_length_le (by rw [HN.out]; omega)]
          have hsl := HN.out
          have hcap := hown.cap
          have hrd := hown.typed.rho
          have hll : (rhoL l).length = l.length := rhoL_length l
          have HTr := trim_slT lo ao co (rhoL l) _ (by rw [hll]; exact hrd) (by rw [hll]; exact hcap) (by rw [hll, HEl]; omega) (by omega) (by omega) (Fw_rho l)
          rw [hll] at HTr
          replace HTr := Lib.hid HTr
          have HE := Lib.hid HEl
          clear hown hrd hcap hsl HEl hll
          go_wp2_with (first | (go_at_call 58; with_reducible refine Calls.mono HTr.out ?_; rintro e w' ⟨⟨a3, c3, rfl, hR⟩, hB⟩; obtain ⟨j, d, rfl⟩ := plus_of_below hB; clear hB))
          refine bodyPost_ret (v := .agg #[.int .i64 (trimLow lo (rhoL l)), .slice a3 (trimLst (rhoL l)).length c3]) (by simp [results, Try.results37, go_sem]) rfl ?_
          refine ⟨a3, c3, by rw [HA.out, ← HE.out], by (repeat (first | (with_reducible exact Below.refl _ _) | (with_reducible assumption) | (with_reducible refine below_plus' ?_ ?_; ((try simp only [plus_size, World.size_alloc, World.size_drew, World.size_setCell, size_setRow, World.heap_drewN, List.length_append]) <;> omega)) | (with_reducible refine below_alloc' ?_ ?_; ((try simp only [plus_size, World.size_alloc, World.size_drew, World.size_setCell, size_setRow, World.heap_drewN, List.length_append]) <;> omega)) | with_reducible refine Below.drew ?_ | (with_reducible refine below_drewN' ?_ _) | exact Below.refl _ _)), ?_⟩
          rw [HA.out, ← HE.out]
          exact hR.off (K := w.heap.size + 1 + 1) (((((OffB.here _ _ _ (by ((try simp only [plus_size, World.size_alloc, World.size_drew, World.size_setCell, size_setRow, World.heap_drewN, List.length_append]) <;> omega))).alloc _).plus _ _ _).plus _ _ _)) (T := 57) (by decide) (by (repeat (first | (refine heap_at _ _ _ ?_; ((try simp only [plus_size, World.size_alloc, World.size_drew, World.size_setCell, size_setRow, World.heap_drewN, List.length_append]) <;> omega)) | (refine heap_past' ?_ ?_; ((try simp only [plus_size, World.size_alloc, World.size_drew, World.size_setCell, size_setRow, World.heap_drewN, List.length_append]) <;> omega)) | (refine heap_plus' ?_ ?_; ((try simp only [plus_size, World.size_alloc, World.size_drew, World.size_setCell, size_setRow, World.heap_drewN, List.length_append]) <;> omega)) | assumption)))
end Go.Proofs.Ytikakoclmmmjdaa
