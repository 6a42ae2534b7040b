/- Wide numbers stored into a list; sums of products. Conditions: as each theorem says. -/
import Derived.Test.YtcipdgmimmngoaaZh
import Derived.Test.YtcipdgmimmngoaaI8
namespace Go.Proofs.Ytcipdgmimmngoaa
open Go.RowKit
set_option linter.unusedSimpArgs false
set_option linter.unusedVariables false
open Go.RowKit
theorem made_wides (n : Nat) : (madeCells (Value.agg (arrF .u64 4 zeroF)).cells (n * 4)).toList = wcells (List.replicate n (0 : Int)) := by
  have hc : (Value.agg (arrF .u64 4 zeroF)).cells = arrF .u64 4 zeroF := rfl
  rw [hc]
  apply List.ext_getElem?
  intro j
  by_cases hj : j < n * 4
  · have e : j = 4 * (j / 4) + j % 4 := by omega
    have h1 : j / 4 < (List.replicate n (0 : Int)).length := by rw [List.length_replicate]; omega
    have h2 := wcells_at h1 (show j % 4 < 4 by omega)
    rw [← e] at h2
    have h3 : nth (List.replicate n (0 : Int)) (j / 4) = 0 := by
      rw [List.length_replicate] at h1
      simp [nth, h1]
    rw [h2, h3, wrd_zero]
    have h4 : (Array.range (n * 4)).toList[j]? = some j := by simp [hj]
    simp only [madeCells, Array.toList_map, List.getElem?_map, h4, Option.map_some]
    have h5 : (arrF .u64 4 zeroF).size = 4 := arrF_size _ _ _
    have h6 := arrF_get .u64 4 zeroF (j % 4) (by omega)
    congr 1
    rw [h5]
    have : (arrF .u64 4 zeroF)[j % 4]! = .int .u64 (zeroF (j % 4)) := by
      rw [getElem!_def, h6]
    rw [this]; rfl
  · rw [List.getElem?_eq_none (by simp [madeCells]; omega), List.getElem?_eq_none (by rw [wcells_length, List.length_replicate]; omega)]
/-- n wide noughts are made -/
theorem wpList_make_wides {P : Program} (w : World) {ops : Array Oper} {rest : List Oper} {o : Oper} {a : Act} {Q : Exit → Act → World → Prop} (hg : o.guard = none) (l c : Operand) (t : TypeId) (hop : o.op = Op.makeSlice t l c)
    (e : TypeId) (h1 : P.underlying t = some (.slice e)) (hi : (P.info? e).map (fun i => (i.zero, i.size, i.bytes)) = some (some (.agg (arrF .u64 4 zeroF)), 4, 32)) (n : Nat) (hl : a.eval l = .int .i64 n) (hc : a.eval c = .int .i64 n) (hn : n ≤ 1000000000)
    (hK : ∀ w', ownW e w' w.heap.size (.slice (some ⟨w.heap.size, 0, none⟩) n n) (List.replicate n 0) → Below w.heap.size w w' → wpList P ops Q rest (a.put o.dst (.slice (some ⟨w.heap.size, 0, none⟩) n n)) w') : wpList P ops Q (o :: rest) a w := by
  obtain ⟨i, g1, g2, g3, g4⟩ := info_parts hi
  refine wpList_make_full w hg l c t hop w.heap.size e i _ 4 h1 g1 g2 g3 .i64 .i64 n n n hl hc rfl rfl (by rw [g4]; omega) (by unfold maxLen; omega) (Nat.le_refl _) fun w' r1 r2 => ?_
  rw [made_wides] at r1
  refine hK w' ?_ (below_of_grown r2 (Nat.le_refl _) fun k hk => by cases hk)
  unfold ownW
  rw [List.length_replicate]
  exact r1
theorem nth_set {xs : List Int} {t i : Nat} {u : Int} (ht : t < xs.length) : nth (xs.set t u) i = if i = t then u else nth xs i := by
  simp only [nth, List.getD_eq_getElem?_getD, List.getElem?_set]
  by_cases e : t = i
  · subst e; simp [ht]
  · have : i ≠ t := fun h => e h.symm
    simp [e, this]
/-- one wide number is stored -/
theorem ownW.put {e : TypeId} {w : World} {B g n c : Nat} {xs : List Int} (h : ownW e w B (.slice (some ⟨g, 0, none⟩) n c) xs) {t : Nat} (ht : t < xs.length) (u : Int) :
    ∃ cur, w.heap[g]? = some (.cells cur e (0, 0)) ∧ t * 4 + (arrF .u64 4 (wrd u)).size ≤ cur.size ∧ ownW e (w.setRow g (putA cur (t * 4) (arrF .u64 4 (wrd u)))) B (.slice (some ⟨g, 0, none⟩) n c) (xs.set t u) ∧ w.grownBy (w.setRow g (putA cur (t * 4) (arrF .u64 4 (wrd u)))) (some g) := by
  obtain ⟨h1, h2⟩ := h
  rcases h2 with ⟨h2, _⟩ | ⟨g', cap', cur, hv, hg, hh, hn, hm, hs, hk⟩
  · cases h2
  · simp only [Value.slice.injEq, Option.some.injEq, Addr.mk.injEq] at hv
    obtain ⟨⟨rfl, _⟩, rfl, rfl⟩ := hv
    have hz : (arrF .u64 4 (wrd u)).size = 4 := arrF_size _ _ _
    have hle : t * 4 + (arrF .u64 4 (wrd u)).size ≤ cur.size := by rw [hz, hs]; omega
    refine ⟨cur, hh, hle, ⟨by rw [wcells_length, List.length_set]; omega, .inr ⟨g, c, _, by rw [List.length_set], hg, setRow_heap _ _ _ _ _ _ hh, by rw [List.length_set]; exact hn, hm, by rw [putA_size hle]; exact hs, ?_⟩⟩, ⟨rfl, rfl, rfl, by simp, fun k _ hk => setRow_other _ _ k _ (fun e => hk (by rw [e]))⟩⟩
    rw [List.length_set]
    apply List.ext_getElem?
    intro j
    by_cases hj : j < xs.length * 4
    · have e : j = 4 * (j / 4) + j % 4 := by omega
      have g1 : j / 4 < (xs.set t u).length := by rw [List.length_set]; omega
      have g2 := wcells_at g1 (show j % 4 < 4 by omega)
      rw [← e, nth_set ht] at g2
      rw [g2, List.getElem?_take_of_lt hj, Array.getElem?_toList, putA_get hle, hz]
      by_cases ej : j / 4 = t
      · rw [if_pos (by omega), if_pos ej, arrF_get .u64 4 (wrd u) _ (by omega)]
        congr 2; congr 1; omega
      · rw [if_neg (by omega), if_neg ej]
        have g3 := wcells_at (xs := xs) (i := j / 4) (j := j % 4) (by omega) (by omega)
        rw [← e, ← hk, List.getElem?_take_of_lt hj, Array.getElem?_toList] at g3
        exact g3
    · rw [List.getElem?_eq_none (by rw [List.length_take]; omega), List.getElem?_eq_none (by rw [wcells_length, List.length_set]; omega)]
/-- the sums of products, behind i rounds, and behind k steps of the next one -/
def cvR (xs ys : List Int) : Nat → Nat → Int
  | 0, _ => 0
  | i + 1, t => cvR xs ys i t + (if i ≤ t then nth xs i * nth ys (t - i) else 0)
def cvP (xs ys : List Int) (i k t : Nat) : Int := cvR xs ys i t + (if i ≤ t ∧ t < i + k then nth xs i * nth ys (t - i) else 0)
theorem cvP_zero (xs ys : List Int) (i : Nat) : cvP xs ys i 0 = cvR xs ys i := by
  funext t
  unfold cvP
  rw [if_neg (by omega), Int.add_zero]
theorem cvP_step {xs ys : List Int} {i k N : Nat} : (lstI N (cvP xs ys i k)).set (i + k) (cvP xs ys i k (i + k) + nth xs i * nth ys k) = lstI N (cvP xs ys i (k + 1)) := by
  rw [lstI_set]
  refine lstI_ext fun j hj => ?_
  unfold cvP
  by_cases e : j = i + k
  · subst e
    rw [if_pos rfl, if_neg (by omega), if_pos (by omega), show i + k - i = k by omega, Int.add_zero]
  · rw [if_neg e]
    by_cases h : i ≤ j ∧ j < i + k
    · rw [if_pos h, if_pos (by omega)]
    · rw [if_neg h, if_neg (by omega)]
theorem cvP_full {xs ys : List Int} {i N : Nat} : lstI N (cvP xs ys i ys.length) = lstI N (cvR xs ys (i + 1)) := by
  refine lstI_ext fun j hj => ?_
  unfold cvP
  rw [cvR]
  by_cases h : i ≤ j
  · by_cases h2 : j < i + ys.length
    · rw [if_pos ⟨h, h2⟩, if_pos h]
    · rw [if_neg (by omega), if_pos h, nth_over (xs := ys) (by omega), Int.mul_zero]
  · rw [if_neg (by omega), if_neg h]
theorem cvR_skip {xs ys : List Int} {i N : Nat} (h : nth xs i = 0) : lstI N (cvR xs ys i) = lstI N (cvR xs ys (i + 1)) := by
  refine lstI_ext fun j hj => ?_
  rw [cvR, h, Int.zero_mul]
  split <;> omega
theorem cvR_zero (xs ys : List Int) : cvR xs ys 0 = fun _ => 0 := by funext t; rfl
theorem mul_12 {a b : Int} (ha0 : -1000000000000 ≤ a) (ha : a ≤ 1000000000000) (hb0 : -1000000000000 ≤ b) (hb : b ≤ 1000000000000) : -1000000000000000000000000 ≤ a * b ∧ a * b ≤ 1000000000000000000000000 := by
  have h1 := Int.mul_nonneg (show 0 ≤ 1000000000000 - a by omega) (show 0 ≤ 1000000000000 - b by omega)
  have h2 := Int.mul_nonneg (show 0 ≤ 1000000000000 + a by omega) (show 0 ≤ 1000000000000 + b by omega)
  have h3 := Int.mul_nonneg (show 0 ≤ 1000000000000 - a by omega) (show 0 ≤ 1000000000000 + b by omega)
  have h4 := Int.mul_nonneg (show 0 ≤ 1000000000000 + a by omega) (show 0 ≤ 1000000000000 - b by omega)
  simp only [Int.sub_mul, Int.add_mul, Int.mul_sub, Int.mul_add] at h1 h2 h3 h4
  rw [Int.mul_comm a 1000000000000] at h1 h2 h3 h4
  omega
theorem nth_12 {xs : List Int} (h : allC xs = true) (i : Nat) : -1000000000000 ≤ nth xs i ∧ nth xs i ≤ 1000000000000 := by
  by_cases hi : i < xs.length
  · exact allC_at h hi
  · rw [nth_over (by omega)]; decide
theorem cvR_b {xs ys : List Int} (h1 : allC xs = true) (h2 : allC ys = true) (i t : Nat) : -(1000000000000000000000000 * (i : Int)) ≤ cvR xs ys i t ∧ cvR xs ys i t ≤ 1000000000000000000000000 * (i : Int) := by
  induction i with
  | zero => simp [cvR]
  | succ i ih =>
    rw [cvR]
    have a := nth_12 h1 i
    have b := nth_12 h2 (t - i)
    have := mul_12 a.1 a.2 b.1 b.2
    generalize nth xs i * nth ys (t - i) = p at *
    split <;> omega
def mulLow (lp : Int) (xs : List Int) (lq : Int) (ys : List Int) : Int := if xs.length = 0 ∨ ys.length = 0 then 0 else trimLow (lp + lq) (lstI (xs.length + ys.length - 1) (cvR xs ys xs.length))
def mulLst (xs : List Int) (ys : List Int) : List Int := if xs.length = 0 ∨ ys.length = 0 then [] else trimLst (lstI (xs.length + ys.length - 1) (cvR xs ys xs.length))
theorem mul_fw {xs ys : List Int} (h1 : allC xs = true) (h2 : allC ys = true) (hl : xs.length ≤ 2001) (N : Nat) : Fw (lstI N (cvR xs ys xs.length)) := fun i hi => by
  rw [lstI_length] at hi
  rw [nth_lstI hi]
  have := cvR_b h1 h2 xs.length i
  omega
end Go.Proofs.Ytcipdgmimmngoaa
