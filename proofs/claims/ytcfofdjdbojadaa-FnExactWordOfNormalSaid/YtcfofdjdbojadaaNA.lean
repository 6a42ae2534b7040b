/- The word of a normal form, by the program. Conditions: as each theorem says. -/
import Derived.Test.YtcfofdjdbojadaaN9
import Derived.Test.YtcfofdjdbojadaaP7
import Derived.Test.YtcfofdjdbojadaaU9
import Derived.Test.YtcfofdjdbojadaaU5
import Derived.Test.YtcfofdjdbojadaaT4
import Derived.Test.YtcfofdjdbojadaaAp
import Derived.Deep.Cut
import Derived.Deep.CutRange
namespace Go.Proofs.Ytcfofdjdbojadaa
open Go.RowKit
set_option linter.unusedSimpArgs false
set_option linter.unusedVariables false
@[go_sem] theorem field_letters (n : Int) (v : Value) (w : World) : (Instr.field 47 (.agg #[.int .i64 n, v]) 1).run Try.prog w = .ok v w := by
  simp [Instr.field, Sem.run_bind, run_underlying Try.underlying47, asAgg, part, Try.isAgg26]
theorem sizeN_any (x : Int) (w : World) (h1 : -1000 ≤ x) (h2 : x ≤ 1000) : Calls Try.prog 23 #[.int .i64 x] w fun e w' => e = .returned (.int .i64 (x.natAbs : Int)) ∧ w = w' := by
  by_cases h : x < -x
  · have e := Lib.hid (show (x.natAbs : Int) = -x by omega)
    go_enter Try.func23, Try.ntmps23
    go_wp2
    go_ret
    exact ⟨by rw [e.out]; rfl, rfl⟩
  · have e := Lib.hid (show (x.natAbs : Int) = x by omega)
    have h' : -x ≤ x := by omega
    go_enter Try.func23, Try.ntmps23
    go_wp2
    go_ret
    exact ⟨by rw [e.out]; rfl, rfl⟩
/-- the list, so many times -/
def repW (ys : List Int) : Nat → List Int
  | 0 => []
  | m + 1 => repW ys m ++ ys
theorem repW_length (ys : List Int) : ∀ m : Nat, (repW ys m).length = m * ys.length
  | 0 => by simp [repW]
  | m + 1 => by rw [repW, List.length_append, repW_length ys m, Nat.succ_mul]
/-- the words of the first k factors -/
def catK (n : Nat) (s : Nat → Nat → Nat) : Nat → List Int
  | 0 => []
  | k + 1 => catK n s k ++ wordK n 1000 (s k)
theorem catK_length (n : Nat) (s : Nat → Nat → Nat) : ∀ k, (catK n s k).length ≤ k * 1000
  | 0 => by simp [catK]
  | k + 1 => by
    have := catK_length n s k
    have := wordK_length n 1000 (s k)
    rw [catK, List.length_append, Nat.succ_mul]; omega
/-- the half turn's word, or its inverse -/
def hwK (n : Nat) (z : Int) : List Int := if z < 0 then (wordK n 1000 (halfN n n)).reverse.map negL else wordK n 1000 (halfN n n)
/-- the word of a normal form -/
def wordL (n : Nat) (z : Int) (m : Nat) (s : Nat → Nat → Nat) : List Int := repW (hwK n z) z.natAbs ++ catK n s m
def wonL (n z : Int) (m : Nat) (s : Nat → Nat → Nat) : List Int := if okN n z m s = true ∧ (wordL n.toNat z m s).length ≤ 200 then wordL n.toNat z m s else []
def wonC (n z : Int) (m : Nat) (s : Nat → Nat → Nat) : Int := if okN n z m s = true then (if (wordL n.toNat z m s).length ≤ 200 then 0 else 3) else 1
theorem wonL_le (n z : Int) (m : Nat) (s : Nat → Nat → Nat) : (wonL n z m s).length ≤ 1000000000 := by
  unfold wonL
  split
  · rename_i h; omega
  · simp
theorem hw_len {n : Nat} (h2 : n ≤ 8) : (wordK n 1000 (halfN n n)).length ≤ 64 := by
  rw [word_len 1000 _ (perm_half n) (by have := lenK_le (halfN n n) h2; omega)]
  exact lenK_le _ h2
theorem hw_sm {n : Nat} (h2 : n ≤ 8) : Sm (wordK n 1000 (halfN n n)) := by
  intro i hi
  have := word_let (n := n) 1000 (halfN n n) i hi
  omega
theorem hwK_len {n : Nat} (z : Int) (h2 : n ≤ 8) : (hwK n z).length ≤ 64 := by
  have := hw_len h2
  unfold hwK
  split <;> simp <;> omega
theorem own_made' {e : TypeId} {w : World} {B b : Nat} (hb : b = w.heap.size) (hB : B ≤ w.heap.size) : own e (w.alloc (.cells #[] e)) B (.slice (some ⟨b, 0, none⟩) 0 0) [] := hb ▸ own_made hB (by decide) rfl
theorem own_ne' {e T : TypeId} {w : World} {B b : Nat} {c : Array Value} {v : Value} {xs : List Int} (h : own e w B v xs) (hb : w.heap[b]? = some (.cells c T)) (hT : T ≠ e) : v.ownBlock ≠ some b := by
  intro hv
  rcases h.2 with ⟨rfl, _⟩ | ⟨g, cap, cur, rfl, hg, hh, _⟩
  · cases hv
  · simp only [Value.ownBlock, Option.some.injEq] at hv
    subst hv
    rw [hh] at hb
    cases hb
    exact hT rfl
theorem reads_apart {w w' : World} {v : Value} {xs : List Int} {row : Option Nat} (h : reads w v xs) (hg : w.grownBy w' row) (hne : ∀ k, v.ownBlock = some k → row ≠ some k) : reads w' v xs := by
  obtain ⟨a, cap, rfl, h⟩ := h
  refine ⟨a, cap, rfl, ?_⟩
  rcases h with h | ⟨b, o, rfl, h⟩
  · exact .inl h
  · refine .inr ⟨b, o, rfl, fun i hi => ?_⟩
    rw [← h i hi]
    exact World.cell?_of_block (hg.block b (World.block_lt_of_cell? w _ (h i hi)) (fun e => hne b rfl e.symm))
/-- in the midst of a word: the box, the half turn's word, what is made so far -/
structure Wst (w wr : World) (T : TypeId) (b : Nat) (C : Array Value) (vh : Value) (H : List Int) (v : Value) (l : List Int) : Prop where
  bel : Below w.heap.size w wr
  box : wr.heap[b]? = some (.cells C T)
  hr : reads wr vh H
  hl : ∀ k, vh.ownBlock = some k → k < wr.heap.size
  ho : own 2 wr w.heap.size v l
  ap : ∀ k, v.ownBlock = some k → vh.ownBlock ≠ some k
section
variable {w wr w' : World} {T : TypeId} {b : Nat} {C : Array Value} {vh : Value} {H : List Int} {v v' : Value} {l l' : List Int}
theorem Wst.kept (M : Wst w wr T b C vh H v l) (hb : Below wr.heap.size wr w') : Wst w w' T b C vh H v l :=
  ⟨M.bel.trans (hb.mono M.bel.size), kept_of M.box hb, M.hr.kept hb, fun k hk => Nat.lt_of_lt_of_le (M.hl k hk) hb.size, M.ho.kept hb, M.ap⟩
theorem Wst.app (M : Wst w wr T b C vh H v l) (hT : T ≠ 2) (ho' : own 2 w' w.heap.size v' l') (hg : wr.grownBy w' v.ownBlock) (hw : ∀ k, v'.ownBlock = some k → v.ownBlock = some k ∨ wr.heap.size ≤ k) : Wst w w' T b C vh H v' l' :=
  ⟨M.bel.trans (below_of_grown hg M.bel.size fun k hk => (M.ho.lt k hk).1), grown_of M.box hg (own_ne' M.ho M.box hT), reads_apart M.hr hg (fun k h1 h2 => M.ap k h2 h1), fun k hk => Nat.lt_of_lt_of_le (M.hl k hk) hg.size, ho', fun k h1 h2 => by
    rcases hw k h1 with h | h
    · exact M.ap k h h2
    · have := M.hl k h2; omega⟩
end
set_option maxHeartbeats 400000 in
theorem impl_WordOfNormal (n z : Int) (v : Value) (m : Nat) (s : Nat → Nat → Nat) (w : World) (h : readsA w v m s) (hb : ∀ i, i < m → ∀ k, k < 8 → s i k < 256) (hlen : m ≤ 1000000000) : Calls Try.prog 7 #[.agg #[.int .i64 n, .int .i64 z, v]] w (RetInts2 2 w (wonL n z m s) (wonC n z m s)) := by
  have HN := Lib.hid (fun w' (hB : Below w.heap.size w w') => impl_IsNormal n z v m s w' (h.kept hB) hb hlen)
  obtain ⟨av, cv, rfl, hs⟩ := id h
  have Hs := Lib.hid (show 0 < m → ∃ b o, av = some ⟨b, o, none⟩ ∧ b < w.heap.size ∧ ∀ i, i < m → ∀ k, k < 8 → w.cell? ⟨b, o + i * 8 + k, none⟩ = some (.int .u8 (s i k : Int)) from fun hp => by
    rcases hs with hs | ⟨b, o, rfl, mm⟩
    · omega
    · exact ⟨b, o, rfl, World.block_lt_of_cell? w _ (mm 0 hp 0 (by omega)), mm⟩)
  clear h hlen hb hs
  cases hk : okN n z m s with
  | false =>
    rw [hk] at HN
    have e1 : wonL n z m s = [] := by simp [wonL, hk]
    have e2 : wonC n z m s = 1 := by simp [wonC, hk]
    rw [e1, e2]
    clear e1 e2
    go_enter Try.func7, Try.ntmps7
    go_wp2_with (first | (go_at_call 17; refine Calls.mono (HN.out _ ?_) ?_; (repeat (first | (with_reducible exact Below.refl _ _) | (with_reducible assumption) | (with_reducible refine below_plus' ?_ ?_; ((try simp only [plus_size, World.size_alloc, World.size_drew, World.size_setCell, size_setRow, World.heap_drewN, List.length_append]) <;> omega)) | (with_reducible refine below_alloc' ?_ ?_; ((try simp only [plus_size, World.size_alloc, World.size_drew, World.size_setCell, size_setRow, World.heap_drewN, List.length_append]) <;> omega)) | with_reducible refine Below.drew ?_ | (with_reducible refine below_drewN' ?_ _) | exact Below.refl _ _)); rintro e w' ⟨rfl, hB⟩; obtain ⟨j, d, rfl⟩ := plus_of_below hB; clear hB))
    go_ret2
    exact ⟨_, rfl, by (repeat (first | (with_reducible exact Below.refl _ _) | (with_reducible assumption) | (with_reducible refine below_plus' ?_ ?_; ((try simp only [plus_size, World.size_alloc, World.size_drew, World.size_setCell, size_setRow, World.heap_drewN, List.length_append]) <;> omega)) | (with_reducible refine below_alloc' ?_ ?_; ((try simp only [plus_size, World.size_alloc, World.size_drew, World.size_setCell, size_setRow, World.heap_drewN, List.length_append]) <;> omega)) | with_reducible refine Below.drew ?_ | (with_reducible refine below_drewN' ?_ _) | exact Below.refl _ _)), own_nil _ _ _⟩
  | true =>
    rw [hk] at HN
    obtain ⟨q, rfl, h1, h2, hz, hm, _, hnf⟩ := okN_true hk
    have hz1 := (inB_true hz).1
    have hz2 := (inB_true hz).2
    have HW := Lib.hid (fun w => impl_word (halfN q q) q w h1 h2 (perm_half q))
    have HF := Lib.hid (fun k (hk : k < m) w => impl_word (s k) q w h1 h2 (nf_perm (hnf k hk)))
    have HL2 := Lib.hid (Nat.le_trans (hw_len h2) (show 64 ≤ 200 by decide))
    have HS := Lib.hid (hw_sm h2)
    have HH := Lib.hid (hwK_len z h2)
    have HR := Lib.hid (show hwK q z = if z < 0 then (wordK q 1000 (halfN q q)).reverse.map negL else wordK q 1000 (halfN q q) from rfl)
    have HWL := Lib.hid (show wordL q z m s = repW (hwK q z) z.natAbs ++ catK q s m from rfl)
    have HRL := Lib.hid (fun k (hk : k ≤ z.natAbs) => show (repW (hwK q z) k).length ≤ 20000 from by
      rw [repW_length]
      exact Nat.le_trans (Nat.mul_le_mul (show k ≤ 200 by omega) (hwK_len z h2)) (by decide))
    have HCL := Lib.hid (fun k (hk : k ≤ m) => show (catK q s k).length ≤ 200000 from Nat.le_trans (catK_length q s k) (by omega))
    have e1 : wonL (q : Int) z m s = if (wordL q z m s).length ≤ 200 then wordL q z m s else [] := by simp [wonL, hk]
    have e2 : wonC (q : Int) z m s = if (wordL q z m s).length ≤ 200 then 0 else 3 := by simp [wonC, hk]
    have HRES := Lib.hid (show ((wordL q z m s).length ≤ 200 → wonL (q : Int) z m s = wordL q z m s ∧ wonC (q : Int) z m s = 0) ∧ (¬ (wordL q z m s).length ≤ 200 → wonL (q : Int) z m s = [] ∧ wonC (q : Int) z m s = 3) from ⟨fun h => ⟨by rw [e1, if_pos h], by rw [e2, if_pos h]⟩, fun h => ⟨by rw [e1, if_neg h], by rw [e2, if_neg h]⟩⟩)
    clear e1 e2 hk hz hnf
    generalize wonL (q : Int) z m s = RL at HRES ⊢
    generalize wonC (q : Int) z m s = RC at HRES ⊢
    generalize wordK q 1000 (halfN q q) = HL at HW HL2 HS HR
    generalize hwK q z = HZ at HH HR HWL HRL
    go_enter Try.func7, Try.ntmps7
    go_upto_region 3 with (first | (go_at_call 17; refine Calls.mono (HN.out _ ?_) ?_; (repeat (first | (with_reducible exact Below.refl _ _) | (with_reducible assumption) | (with_reducible refine below_plus' ?_ ?_; ((try simp only [plus_size, World.size_alloc, World.size_drew, World.size_setCell, size_setRow, World.heap_drewN, List.length_append]) <;> omega)) | (with_reducible refine below_alloc' ?_ ?_; ((try simp only [plus_size, World.size_alloc, World.size_drew, World.size_setCell, size_setRow, World.heap_drewN, List.length_append]) <;> omega)) | with_reducible refine Below.drew ?_ | (with_reducible refine below_drewN' ?_ _) | exact Below.refl _ _)); rintro e w' ⟨rfl, hB⟩; obtain ⟨j, d, rfl⟩ := plus_of_below hB; clear hB))
    refine region_ghost [2, 5, 6] (by kernel_rfl) (by kernel_rfl) (by kernel_rfl) ?_
    repeat (refine wpPlain_step (fun K hK => ?_); go_simp; first | (refine hK _ ?_; clear hK K) | (apply Exists.intro; refine ⟨fun _ => ?_, hK _ ?_⟩; (fail); clear hK K))
    refine wpPlain_nil ?_
    intro j d
    refine gchain_cons _ rfl ?_
    go_wp2_with (first | (go_at_call 19; refine (impl_halfTurn _ _ h1 h2).mono ?_; rintro e w' ⟨rfl, hB⟩; obtain ⟨j, d, rfl⟩ := plus_of_below hB; clear hB))
    refine gExit_normal ⟨.inr (later_of_below (by (repeat (first | (with_reducible exact Below.refl _ _) | (with_reducible assumption) | (with_reducible refine below_plus' ?_ ?_; ((try simp only [plus_size, World.size_alloc, World.size_drew, World.size_setCell, size_setRow, World.heap_drewN, List.length_append]) <;> omega)) | (with_reducible refine below_alloc' ?_ ?_; ((try simp only [plus_size, World.size_alloc, World.size_drew, World.size_setCell, size_setRow, World.heap_drewN, List.length_append]) <;> omega)) | with_reducible refine Below.drew ?_ | exact Below.refl _ _)))), fun j d => ?_⟩
    refine gchain_cons _ rfl ?_
    go_wp2_with (first | (go_at_call 18; refine Calls.mono (HW.out _) ?_; rintro e w' ⟨vh, rfl, hB, hoh⟩; have hrh := hoh.reads; have hlh := hoh.lt; obtain ⟨ah, ch, rfl, hs⟩ := id hrh; clear hs hoh; obtain ⟨j, d, rfl⟩ := plus_of_below hB; clear hB))
    refine gExit_normal ⟨.inr (later_of_below (by (repeat (first | (with_reducible exact Below.refl _ _) | (with_reducible assumption) | (with_reducible refine below_plus' ?_ ?_; ((try simp only [plus_size, World.size_alloc, World.size_drew, World.size_setCell, size_setRow, World.heap_drewN, List.length_append]) <;> omega)) | (with_reducible refine below_alloc' ?_ ?_; ((try simp only [plus_size, World.size_alloc, World.size_drew, World.size_setCell, size_setRow, World.heap_drewN, List.length_append]) <;> omega)) | with_reducible refine Below.drew ?_ | exact Below.refl _ _)))), fun j d => ?_⟩
    refine gchain_cons _ rfl ?_
    go_wp2
    refine gExit_normal ⟨.inr (later_of_below (by (repeat (first | (with_reducible exact Below.refl _ _) | (with_reducible assumption) | (with_reducible refine below_plus' ?_ ?_; ((try simp only [plus_size, World.size_alloc, World.size_drew, World.size_setCell, size_setRow, World.heap_drewN, List.length_append]) <;> omega)) | (with_reducible refine below_alloc' ?_ ?_; ((try simp only [plus_size, World.size_alloc, World.size_drew, World.size_setCell, size_setRow, World.heap_drewN, List.length_append]) <;> omega)) | with_reducible refine Below.drew ?_ | exact Below.refl _ _)))), fun j d => ?_⟩
    refine gchain_nil ?_
    go_upto_region 4 with (fail)
    by_cases hz0 : z < 0
    · have hE : HL.reverse.map negL = HZ := by rw [HR.out, if_pos hz0]
      have hrev := fun w v (h : reads w v HL) => impl_reversed (q : Int) v HL w h HL2.out
      have hneg := fun w v (h : reads w v HL.reverse) => letterBy_neg (q : Int) v HL.reverse w h (by rw [List.length_reverse]; exact HL2.out) HS.out.reverse
      rw [hE] at hneg
      generalize HL.reverse = HX at hrev hneg
      have HREV := Lib.hid hrev
      have HNEG := Lib.hid hneg
      clear hrev hneg hE
      go_upto_region 6 with (first | (go_at_call 21; refine Calls.mono (HREV.out _ _ (hrh.kept (by (repeat (first | (with_reducible exact Below.refl _ _) | (with_reducible assumption) | (with_reducible refine below_plus' ?_ ?_; ((try simp only [plus_size, World.size_alloc, World.size_drew, World.size_setCell, size_setRow, World.heap_drewN, List.length_append]) <;> omega)) | (with_reducible refine below_alloc' ?_ ?_; ((try simp only [plus_size, World.size_alloc, World.size_drew, World.size_setCell, size_setRow, World.heap_drewN, List.length_append]) <;> omega)) | with_reducible refine Below.drew ?_ | (with_reducible refine below_drewN' ?_ _) | exact Below.refl _ _))))) ?_; rintro e w' ⟨vr, rfl, hB, hor⟩; have hrr := hor.reads; obtain ⟨ar, cr, rfl, hs⟩ := id hrr; clear hs hor; obtain ⟨j, d, rfl⟩ := plus_of_below hB; clear hB) | (go_at_call 20; refine Calls.mono (HNEG.out _ _ (hrr.kept (by (repeat (first | (with_reducible exact Below.refl _ _) | (with_reducible assumption) | (with_reducible refine below_plus' ?_ ?_; ((try simp only [plus_size, World.size_alloc, World.size_drew, World.size_setCell, size_setRow, World.heap_drewN, List.length_append]) <;> omega)) | (with_reducible refine below_alloc' ?_ ?_; ((try simp only [plus_size, World.size_alloc, World.size_drew, World.size_setCell, size_setRow, World.heap_drewN, List.length_append]) <;> omega)) | with_reducible refine Below.drew ?_ | (with_reducible refine below_drewN' ?_ _) | exact Below.refl _ _))))) ?_; rintro e w' ⟨vn, rfl, hB, hon⟩; have hrn := hon.reads; have hln := hon.lt; obtain ⟨an, cn, rfl, hs⟩ := id hrn; clear hs hon; obtain ⟨j, d, rfl⟩ := plus_of_below hB; clear hB))
      have hrz := hrn
      have hlz := hln
      go_wp2_with (first | (go_at_call 23; refine Calls.mono (sizeN_any _ _ (by omega) (by omega)) ?_; rintro e w' ⟨rfl, rfl⟩))
      have H0 := Lib.hid hrz
      have H1 := Lib.hid hlz
      clear hrz hlz
      go_loopw [5, 31] (fun v5 sl wr => ∃ (k : Nat) (a5 : Option Addr) (c5 : Nat) (l5 : List Int), Hid (l5 = repW HZ k) ∧ k ≤ z.natAbs ∧ sl = .int .i64 k ∧ v5 = .slice a5 l5.length c5 ∧ Hid (Wst w wr 31 w.heap.size #[.int .i64 (q : Int), .int .i64 z, .slice av m cv] (.slice an HZ.length cn) HZ (.slice a5 l5.length c5) l5)) (fun _ sl _ => z.natAbs - (intOf sl).toNat)
      case atStart =>
        refine ⟨0, _, 0, [], Lib.hid rfl, by omega, rfl, rfl, Lib.hid ⟨by (repeat (first | (with_reducible exact Below.refl _ _) | (with_reducible assumption) | (with_reducible refine below_plus' ?_ ?_; ((try simp only [plus_size, World.size_alloc, World.size_drew, World.size_setCell, size_setRow, World.heap_drewN, List.length_append]) <;> omega)) | (with_reducible refine below_alloc' ?_ ?_; ((try simp only [plus_size, World.size_alloc, World.size_drew, World.size_setCell, size_setRow, World.heap_drewN, List.length_append]) <;> omega)) | with_reducible refine Below.drew ?_ | (with_reducible refine below_drewN' ?_ _) | exact Below.refl _ _)), by (repeat (first | (refine heap_at _ _ _ ?_; ((try simp only [plus_size, World.size_alloc, World.size_drew, World.size_setCell, size_setRow, World.heap_drewN, List.length_append]) <;> omega)) | (refine heap_past' ?_ ?_; ((try simp only [plus_size, World.size_alloc, World.size_drew, World.size_setCell, size_setRow, World.heap_drewN, List.length_append]) <;> omega)) | (refine heap_plus' ?_ ?_; ((try simp only [plus_size, World.size_alloc, World.size_drew, World.size_setCell, size_setRow, World.heap_drewN, List.length_append]) <;> omega)) | assumption)), H0.out.kept (by (repeat (first | (with_reducible exact Below.refl _ _) | (with_reducible assumption) | (with_reducible refine below_plus' ?_ ?_; ((try simp only [plus_size, World.size_alloc, World.size_drew, World.size_setCell, size_setRow, World.heap_drewN, List.length_append]) <;> omega)) | (with_reducible refine below_alloc' ?_ ?_; ((try simp only [plus_size, World.size_alloc, World.size_drew, World.size_setCell, size_setRow, World.heap_drewN, List.length_append]) <;> omega)) | with_reducible refine Below.drew ?_ | (with_reducible refine below_drewN' ?_ _) | exact Below.refl _ _))), fun k hk => ?_, own_made' (by ((try simp only [plus_size, World.size_alloc, World.size_drew, World.size_setCell, size_setRow, World.heap_drewN, List.length_append]) <;> omega)) (by ((try simp only [plus_size, World.size_alloc, World.size_drew, World.size_setCell, size_setRow, World.heap_drewN, List.length_append]) <;> omega)), fun k h1 h2 => ?_⟩⟩
        · have h3 := (H1.out k hk).2
          simp only [plus_size, World.size_alloc] at h3 ⊢
          omega
        · have h3 := (H1.out k h2).2
          cases h1
          simp only [plus_size, World.size_alloc] at h3
          omega
      case round =>
        clear H0 H1
        obtain ⟨k, a5, c5, l5, HLl, hk, rfl, rfl, HM⟩ := hrel
        have M := HM.out
        have hl5 : l5.length ≤ 20000 := by have := HRL.out k hk; rw [← HLl.out] at this; exact this
        by_cases hlt : k < z.natAbs
        · go_wp2_with ((at_builtin; go_loud (refine wpList_appendW rfl _ _ 26 rfl 2 Try.underlying26 infoI w.heap.size (.slice a5 l5.length c5) (.slice an HZ.length cn) (l5) (HZ) rfl rfl M.ho ((M.hr.kept (by (repeat (first | (with_reducible exact Below.refl _ _) | (with_reducible assumption) | (with_reducible refine below_plus' ?_ ?_; ((try simp only [plus_size, World.size_alloc, World.size_drew, World.size_setCell, size_setRow, World.heap_drewN, List.length_append]) <;> omega)) | (with_reducible refine below_alloc' ?_ ?_; ((try simp only [plus_size, World.size_alloc, World.size_drew, World.size_setCell, size_setRow, World.heap_drewN, List.length_append]) <;> omega)) | with_reducible refine Below.drew ?_ | (with_reducible refine below_drewN' ?_ _) | exact Below.refl _ _))))) ((by have := HH.out; omega)) M.bel.size ?_; intro v' w' ho' hgr hB hwh; replace M := M.app (by decide) ho' hgr hwh; clear ho' hgr hB hwh; obtain ⟨l6, hl6⟩ : ∃ l6, l5 ++ HZ = l6 := ⟨_, rfl⟩; rw [hl6] at M; obtain ⟨a', c', rfl, hs⟩ := id M.ho.reads; clear hs)))
          go_roundw
          case rel => exact ⟨k + 1, a', c', l6, Lib.hid (by rw [← hl6, HLl.out]; rfl), by omega, by go_num, rfl, Lib.hid M⟩
          case measure => simp [intOf]; omega
        · obtain rfl : k = z.natAbs := by omega
          have x0 := cell_of (i := 0) M.box; have x1 := cell_of (i := 1) M.box; have x2 := cell_of (i := 2) M.box; have lb := heap_lt M.box; simp only [List.getElem?_toArray, List.getElem?_cons_zero, List.getElem?_cons_succ] at x0 x1 x2
          go_wp2
          go_loopw [5, 40] (fun v5 sl wr => ∃ (k : Nat) (a5 : Option Addr) (c5 : Nat) (l5 : List Int), Hid (l5 = repW HZ z.natAbs ++ catK q s k) ∧ k ≤ m ∧ sl = .int .i64 k ∧ v5 = .slice a5 l5.length c5 ∧ Hid (Wst w wr 31 w.heap.size #[.int .i64 (q : Int), .int .i64 z, .slice av m cv] (.slice an HZ.length cn) HZ (.slice a5 l5.length c5) l5)) (fun _ sl _ => m - (intOf sl).toNat)
          case atStart => exact ⟨0, a5, c5, l5, Lib.hid (by rw [HLl.out]; simp [catK]), by omega, rfl, rfl, Lib.hid M⟩
          case round =>
            clear x0 x1 x2 lb M HM HLl hl5
            obtain ⟨k, a5, c5, l5, HLl, hk, rfl, rfl, HM⟩ := hrel
            have M := HM.out
            have hl5 : l5.length ≤ 220000 := by
              have h1 := HRL.out _ (Nat.le_refl _)
              have h2 := HCL.out k hk
              have h3 := congrArg List.length HLl.out
              rw [List.length_append] at h3
              omega
            by_cases hlt : k < m
            · obtain ⟨b1, o1, rfl, hb1, mm⟩ := Hs.out (by omega)
              have hmk : ∀ c, c < 8 → wr.cell? ⟨b1, o1 + k * 8 + c, none⟩ = some (.int .u8 (s k c : Int)) := fun c hc => by rw [M.bel.cell (p := ⟨b1, o1 + k * 8 + c, none⟩) hb1]; exact mm k hlt c hc
              have hsz := M.bel.size
              have k1 : b1 < wr.heap.size := by omega
              have g0 := hmk 0 (by omega); have g1 := hmk 1 (by omega); have g2 := hmk 2 (by omega); have g3 := hmk 3 (by omega); have g4 := hmk 4 (by omega); have g5 := hmk 5 (by omega); have g6 := hmk 6 (by omega); have g7 := hmk 7 (by omega); rw [Nat.add_zero] at g0
              clear mm hmk
              obtain ⟨LW, hLW⟩ : ∃ LW, wordK q 1000 (s k) = LW := ⟨_, rfl⟩
              have hLl := wordK_length q 1000 (s k)
              have hfk := HF.out k hlt
              rw [hLW] at hLl hfk
              have HFk := Lib.hid hfk
              clear hfk
              have x0 := cell_of (i := 0) M.box; have x1 := cell_of (i := 1) M.box; have x2 := cell_of (i := 2) M.box; have lb := heap_lt M.box; simp only [List.getElem?_toArray, List.getElem?_cons_zero, List.getElem?_cons_succ] at x0 x1 x2
              go_wp2_with (first | ((with_reducible apply wpList_store_arr rfl rfl 44 _ _ rfl _ rfl _ rfl 8 info44); (repeat (first | (refine heap_at _ _ _ ?_; ((try simp only [plus_size, World.size_alloc, World.size_drew, World.size_setCell, size_setRow, World.heap_drewN, List.length_append]) <;> omega)) | (refine heap_past' ?_ ?_; ((try simp only [plus_size, World.size_alloc, World.size_drew, World.size_setCell, size_setRow, World.heap_drewN, List.length_append]) <;> omega)) | (refine heap_plus' ?_ ?_; ((try simp only [plus_size, World.size_alloc, World.size_drew, World.size_setCell, size_setRow, World.heap_drewN, List.length_append]) <;> omega)) | assumption)); (simp only [arrF_size, arrO_size]); (simp only [arrF_size, arrO_size]); (first | exact arrF_one _ _ _ | exact arrO_one _ _); (repeat (first | (refine setRow_at' ?_; ((try simp only [plus_size, World.size_alloc, World.size_drew, World.size_setCell, size_setRow, World.heap_drewN, List.length_append]) <;> omega)) | (apply setRow_past'; ((try simp only [plus_size, World.size_alloc, World.size_drew, World.size_setCell, size_setRow, World.heap_drewN, List.length_append]) <;> omega)) | (apply setRow_plus'; ((try simp only [plus_size, World.size_alloc, World.size_drew, World.size_setCell, size_setRow, World.heap_drewN, List.length_append]) <;> omega)) | exact rfl)))
                                              | (go_at_call 18; refine Calls.mono (HFk.out _) ?_; rintro e w' ⟨vw, rfl, hB, how⟩; have hrw := how.reads; obtain ⟨aw, cw, rfl, hs⟩ := id hrw; clear hs how; replace M := M.kept (Below.trans (by (repeat (first | (with_reducible exact Below.refl _ _) | (with_reducible assumption) | (with_reducible refine below_plus' ?_ ?_; ((try simp only [plus_size, World.size_alloc, World.size_drew, World.size_setCell, size_setRow, World.heap_drewN, List.length_append]) <;> omega)) | (with_reducible refine below_alloc' ?_ ?_; ((try simp only [plus_size, World.size_alloc, World.size_drew, World.size_setCell, size_setRow, World.heap_drewN, List.length_append]) <;> omega)) | with_reducible refine Below.drew ?_ | (with_reducible refine below_drewN' ?_ _) | exact Below.refl _ _))) (hB.mono (by ((try simp only [plus_size, World.size_alloc, World.size_drew, World.size_setCell, size_setRow, World.heap_drewN, List.length_append]) <;> omega)))); clear hB; clear x0 x1 x2 lb; have x0 := cell_of (i := 0) M.box; have x1 := cell_of (i := 1) M.box; have x2 := cell_of (i := 2) M.box; have lb := heap_lt M.box; simp only [List.getElem?_toArray, List.getElem?_cons_zero, List.getElem?_cons_succ] at x0 x1 x2)
                                              | (at_builtin; go_loud (refine wpList_appendW rfl _ _ 26 rfl 2 Try.underlying26 infoI w.heap.size (.slice a5 l5.length c5) (.slice aw (LW).length cw) (l5) (LW) rfl rfl M.ho (hrw) ((by omega)) M.bel.size ?_; intro v' w' ho' hgr hB hwh; replace M := M.app (by decide) ho' hgr hwh; clear ho' hgr hB hwh; obtain ⟨l6, hl6⟩ : ∃ l6, l5 ++ LW = l6 := ⟨_, rfl⟩; rw [hl6] at M; obtain ⟨a', c', rfl, hs⟩ := id M.ho.reads; clear hs))
                                              | ((with_reducible apply wpList_load_arr rfl 44 _ rfl _ rfl 8 5 Try.underlying44 info44); (repeat (first | (refine heap_at _ _ _ ?_; ((try simp only [plus_size, World.size_alloc, World.size_drew, World.size_setCell, size_setRow, World.heap_drewN, List.length_append]) <;> omega)) | (refine heap_past' ?_ ?_; ((try simp only [plus_size, World.size_alloc, World.size_drew, World.size_setCell, size_setRow, World.heap_drewN, List.length_append]) <;> omega)) | (refine heap_plus' ?_ ?_; ((try simp only [plus_size, World.size_alloc, World.size_drew, World.size_setCell, size_setRow, World.heap_drewN, List.length_append]) <;> omega)) | assumption)); (simp only [arrF_size, arrO_size])))
              go_roundw
              case rel => exact ⟨k + 1, a', c', l6, Lib.hid (by rw [← hl6, HLl.out, ← hLW, catK, List.append_assoc]), by omega, by go_num, rfl, Lib.hid M⟩
              case measure => simp [intOf]; omega
            · obtain rfl : k = m := by omega
              have hw : l5 = wordL q z k s := HLl.out.trans HWL.out.symm
              have HO := Lib.hid M.ho
              have HB := Lib.hid M.bel
              clear M HM
              by_cases hle : l5.length ≤ 200
              · obtain ⟨e1, e2⟩ := HRES.out.1 (by rw [← hw]; exact hle)
                have E1 := Lib.hid (e1.trans hw.symm)
                clear hw e1
                subst e2
                go_wp2
                go_ret2
                exact ⟨_, rfl, HB.out, by rw [E1.out]; exact HO.out⟩
              · obtain ⟨e1, e2⟩ := HRES.out.2 (by rw [← hw]; exact hle)
                clear hw
                subst e1 e2
                go_wp2
                go_ret2
                exact ⟨_, rfl, HB.out, own_nil _ _ _⟩
    · have hE : HZ = HL := by rw [HR.out, if_neg hz0]
      subst hE
      go_upto_region 6 with (fail)
      have hrz := hrh
      have hlz := hlh
      go_wp2_with (first | (go_at_call 23; refine Calls.mono (sizeN_any _ _ (by omega) (by omega)) ?_; rintro e w' ⟨rfl, rfl⟩))
      have H0 := Lib.hid hrz
      have H1 := Lib.hid hlz
      clear hrz hlz
      go_loopw [5, 31] (fun v5 sl wr => ∃ (k : Nat) (a5 : Option Addr) (c5 : Nat) (l5 : List Int), Hid (l5 = repW HZ k) ∧ k ≤ z.natAbs ∧ sl = .int .i64 k ∧ v5 = .slice a5 l5.length c5 ∧ Hid (Wst w wr 31 w.heap.size #[.int .i64 (q : Int), .int .i64 z, .slice av m cv] (.slice ah HZ.length ch) HZ (.slice a5 l5.length c5) l5)) (fun _ sl _ => z.natAbs - (intOf sl).toNat)
      case atStart =>
        refine ⟨0, _, 0, [], Lib.hid rfl, by omega, rfl, rfl, Lib.hid ⟨by (repeat (first | (with_reducible exact Below.refl _ _) | (with_reducible assumption) | (with_reducible refine below_plus' ?_ ?_; ((try simp only [plus_size, World.size_alloc, World.size_drew, World.size_setCell, size_setRow, World.heap_drewN, List.length_append]) <;> omega)) | (with_reducible refine below_alloc' ?_ ?_; ((try simp only [plus_size, World.size_alloc, World.size_drew, World.size_setCell, size_setRow, World.heap_drewN, List.length_append]) <;> omega)) | with_reducible refine Below.drew ?_ | (with_reducible refine below_drewN' ?_ _) | exact Below.refl _ _)), by (repeat (first | (refine heap_at _ _ _ ?_; ((try simp only [plus_size, World.size_alloc, World.size_drew, World.size_setCell, size_setRow, World.heap_drewN, List.length_append]) <;> omega)) | (refine heap_past' ?_ ?_; ((try simp only [plus_size, World.size_alloc, World.size_drew, World.size_setCell, size_setRow, World.heap_drewN, List.length_append]) <;> omega)) | (refine heap_plus' ?_ ?_; ((try simp only [plus_size, World.size_alloc, World.size_drew, World.size_setCell, size_setRow, World.heap_drewN, List.length_append]) <;> omega)) | assumption)), H0.out.kept (by (repeat (first | (with_reducible exact Below.refl _ _) | (with_reducible assumption) | (with_reducible refine below_plus' ?_ ?_; ((try simp only [plus_size, World.size_alloc, World.size_drew, World.size_setCell, size_setRow, World.heap_drewN, List.length_append]) <;> omega)) | (with_reducible refine below_alloc' ?_ ?_; ((try simp only [plus_size, World.size_alloc, World.size_drew, World.size_setCell, size_setRow, World.heap_drewN, List.length_append]) <;> omega)) | with_reducible refine Below.drew ?_ | (with_reducible refine below_drewN' ?_ _) | exact Below.refl _ _))), fun k hk => ?_, own_made' (by ((try simp only [plus_size, World.size_alloc, World.size_drew, World.size_setCell, size_setRow, World.heap_drewN, List.length_append]) <;> omega)) (by ((try simp only [plus_size, World.size_alloc, World.size_drew, World.size_setCell, size_setRow, World.heap_drewN, List.length_append]) <;> omega)), fun k h1 h2 => ?_⟩⟩
        · have h3 := (H1.out k hk).2
          simp only [plus_size, World.size_alloc] at h3 ⊢
          omega
        · have h3 := (H1.out k h2).2
          cases h1
          simp only [plus_size, World.size_alloc] at h3
          omega
      case round =>
        clear H0 H1
        obtain ⟨k, a5, c5, l5, HLl, hk, rfl, rfl, HM⟩ := hrel
        have M := HM.out
        have hl5 : l5.length ≤ 20000 := by have := HRL.out k hk; rw [← HLl.out] at this; exact this
        by_cases hlt : k < z.natAbs
        · go_wp2_with ((at_builtin; go_loud (refine wpList_appendW rfl _ _ 26 rfl 2 Try.underlying26 infoI w.heap.size (.slice a5 l5.length c5) (.slice ah HZ.length ch) (l5) (HZ) rfl rfl M.ho ((M.hr.kept (by (repeat (first | (with_reducible exact Below.refl _ _) | (with_reducible assumption) | (with_reducible refine below_plus' ?_ ?_; ((try simp only [plus_size, World.size_alloc, World.size_drew, World.size_setCell, size_setRow, World.heap_drewN, List.length_append]) <;> omega)) | (with_reducible refine below_alloc' ?_ ?_; ((try simp only [plus_size, World.size_alloc, World.size_drew, World.size_setCell, size_setRow, World.heap_drewN, List.length_append]) <;> omega)) | with_reducible refine Below.drew ?_ | (with_reducible refine below_drewN' ?_ _) | exact Below.refl _ _))))) ((by have := HH.out; omega)) M.bel.size ?_; intro v' w' ho' hgr hB hwh; replace M := M.app (by decide) ho' hgr hwh; clear ho' hgr hB hwh; obtain ⟨l6, hl6⟩ : ∃ l6, l5 ++ HZ = l6 := ⟨_, rfl⟩; rw [hl6] at M; obtain ⟨a', c', rfl, hs⟩ := id M.ho.reads; clear hs)))
          go_roundw
          case rel => exact ⟨k + 1, a', c', l6, Lib.hid (by rw [← hl6, HLl.out]; rfl), by omega, by go_num, rfl, Lib.hid M⟩
          case measure => simp [intOf]; omega
        · obtain rfl : k = z.natAbs := by omega
          have x0 := cell_of (i := 0) M.box; have x1 := cell_of (i := 1) M.box; have x2 := cell_of (i := 2) M.box; have lb := heap_lt M.box; simp only [List.getElem?_toArray, List.getElem?_cons_zero, List.getElem?_cons_succ] at x0 x1 x2
          go_wp2
          go_loopw [5, 40] (fun v5 sl wr => ∃ (k : Nat) (a5 : Option Addr) (c5 : Nat) (l5 : List Int), Hid (l5 = repW HZ z.natAbs ++ catK q s k) ∧ k ≤ m ∧ sl = .int .i64 k ∧ v5 = .slice a5 l5.length c5 ∧ Hid (Wst w wr 31 w.heap.size #[.int .i64 (q : Int), .int .i64 z, .slice av m cv] (.slice ah HZ.length ch) HZ (.slice a5 l5.length c5) l5)) (fun _ sl _ => m - (intOf sl).toNat)
          case atStart => exact ⟨0, a5, c5, l5, Lib.hid (by rw [HLl.out]; simp [catK]), by omega, rfl, rfl, Lib.hid M⟩
          case round =>
            clear x0 x1 x2 lb M HM HLl hl5
            obtain ⟨k, a5, c5, l5, HLl, hk, rfl, rfl, HM⟩ := hrel
            have M := HM.out
            have hl5 : l5.length ≤ 220000 := by
              have h1 := HRL.out _ (Nat.le_refl _)
              have h2 := HCL.out k hk
              have h3 := congrArg List.length HLl.out
              rw [List.length_append] at h3
              omega
            by_cases hlt : k < m
            · obtain ⟨b1, o1, rfl, hb1, mm⟩ := Hs.out (by omega)
              have hmk : ∀ c, c < 8 → wr.cell? ⟨b1, o1 + k * 8 + c, none⟩ = some (.int .u8 (s k c : Int)) := fun c hc => by rw [M.bel.cell (p := ⟨b1, o1 + k * 8 + c, none⟩) hb1]; exact mm k hlt c hc
              have hsz := M.bel.size
              have k1 : b1 < wr.heap.size := by omega
              have g0 := hmk 0 (by omega); have g1 := hmk 1 (by omega); have g2 := hmk 2 (by omega); have g3 := hmk 3 (by omega); have g4 := hmk 4 (by omega); have g5 := hmk 5 (by omega); have g6 := hmk 6 (by omega); have g7 := hmk 7 (by omega); rw [Nat.add_zero] at g0
              clear mm hmk
              obtain ⟨LW, hLW⟩ : ∃ LW, wordK q 1000 (s k) = LW := ⟨_, rfl⟩
              have hLl := wordK_length q 1000 (s k)
              have hfk := HF.out k hlt
              rw [hLW] at hLl hfk
              have HFk := Lib.hid hfk
              clear hfk
              have x0 := cell_of (i := 0) M.box; have x1 := cell_of (i := 1) M.box; have x2 := cell_of (i := 2) M.box; have lb := heap_lt M.box; simp only [List.getElem?_toArray, List.getElem?_cons_zero, List.getElem?_cons_succ] at x0 x1 x2
              go_wp2_with (first | ((with_reducible apply wpList_store_arr rfl rfl 44 _ _ rfl _ rfl _ rfl 8 info44); (repeat (first | (refine heap_at _ _ _ ?_; ((try simp only [plus_size, World.size_alloc, World.size_drew, World.size_setCell, size_setRow, World.heap_drewN, List.length_append]) <;> omega)) | (refine heap_past' ?_ ?_; ((try simp only [plus_size, World.size_alloc, World.size_drew, World.size_setCell, size_setRow, World.heap_drewN, List.length_append]) <;> omega)) | (refine heap_plus' ?_ ?_; ((try simp only [plus_size, World.size_alloc, World.size_drew, World.size_setCell, size_setRow, World.heap_drewN, List.length_append]) <;> omega)) | assumption)); (simp only [arrF_size, arrO_size]); (simp only [arrF_size, arrO_size]); (first | exact arrF_one _ _ _ | exact arrO_one _ _); (repeat (first | (refine setRow_at' ?_; ((try simp only [plus_size, World.size_alloc, World.size_drew, World.size_setCell, size_setRow, World.heap_drewN, List.length_append]) <;> omega)) | (apply setRow_past'; ((try simp only [plus_size, World.size_alloc, World.size_drew, World.size_setCell, size_setRow, World.heap_drewN, List.length_append]) <;> omega)) | (apply setRow_plus'; ((try simp only [plus_size, World.size_alloc, World.size_drew, World.size_setCell, size_setRow, World.heap_drewN, List.length_append]) <;> omega)) | exact rfl)))
                                              | (go_at_call 18; refine Calls.mono (HFk.out _) ?_; rintro e w' ⟨vw, rfl, hB, how⟩; have hrw := how.reads; obtain ⟨aw, cw, rfl, hs⟩ := id hrw; clear hs how; replace M := M.kept (Below.trans (by (repeat (first | (with_reducible exact Below.refl _ _) | (with_reducible assumption) | (with_reducible refine below_plus' ?_ ?_; ((try simp only [plus_size, World.size_alloc, World.size_drew, World.size_setCell, size_setRow, World.heap_drewN, List.length_append]) <;> omega)) | (with_reducible refine below_alloc' ?_ ?_; ((try simp only [plus_size, World.size_alloc, World.size_drew, World.size_setCell, size_setRow, World.heap_drewN, List.length_append]) <;> omega)) | with_reducible refine Below.drew ?_ | (with_reducible refine below_drewN' ?_ _) | exact Below.refl _ _))) (hB.mono (by ((try simp only [plus_size, World.size_alloc, World.size_drew, World.size_setCell, size_setRow, World.heap_drewN, List.length_append]) <;> omega)))); clear hB; clear x0 x1 x2 lb; have x0 := cell_of (i := 0) M.box; have x1 := cell_of (i := 1) M.box; have x2 := cell_of (i := 2) M.box; have lb := heap_lt M.box; simp only [List.getElem?_toArray, List.getElem?_cons_zero, List.getElem?_cons_succ] at x0 x1 x2)
                                              | (at_builtin; go_loud (refine wpList_appendW rfl _ _ 26 rfl 2 Try.underlying26 infoI w.heap.size (.slice a5 l5.length c5) (.slice aw (LW).length cw) (l5) (LW) rfl rfl M.ho (hrw) ((by omega)) M.bel.size ?_; intro v' w' ho' hgr hB hwh; replace M := M.app (by decide) ho' hgr hwh; clear ho' hgr hB hwh; obtain ⟨l6, hl6⟩ : ∃ l6, l5 ++ LW = l6 := ⟨_, rfl⟩; rw [hl6] at M; obtain ⟨a', c', rfl, hs⟩ := id M.ho.reads; clear hs))
                                              | ((with_reducible apply wpList_load_arr rfl 44 _ rfl _ rfl 8 5 Try.underlying44 info44); (repeat (first | (refine heap_at _ _ _ ?_; ((try simp only [plus_size, World.size_alloc, World.size_drew, World.size_setCell, size_setRow, World.heap_drewN, List.length_append]) <;> omega)) | (refine heap_past' ?_ ?_; ((try simp only [plus_size, World.size_alloc, World.size_drew, World.size_setCell, size_setRow, World.heap_drewN, List.length_append]) <;> omega)) | (refine heap_plus' ?_ ?_; ((try simp only [plus_size, World.size_alloc, World.size_drew, World.size_setCell, size_setRow, World.heap_drewN, List.length_append]) <;> omega)) | assumption)); (simp only [arrF_size, arrO_size])))
              go_roundw
              case rel => exact ⟨k + 1, a', c', l6, Lib.hid (by rw [← hl6, HLl.out, ← hLW, catK, List.append_assoc]), by omega, by go_num, rfl, Lib.hid M⟩
              case measure => simp [intOf]; omega
            · obtain rfl : k = m := by omega
              have hw : l5 = wordL q z k s := HLl.out.trans HWL.out.symm
              have HO := Lib.hid M.ho
              have HB := Lib.hid M.bel
              clear M HM
              by_cases hle : l5.length ≤ 200
              · obtain ⟨e1, e2⟩ := HRES.out.1 (by rw [← hw]; exact hle)
                have E1 := Lib.hid (e1.trans hw.symm)
                clear hw e1
                subst e2
                go_wp2
                go_ret2
                exact ⟨_, rfl, HB.out, by rw [E1.out]; exact HO.out⟩
              · obtain ⟨e1, e2⟩ := HRES.out.2 (by rw [← hw]; exact hle)
                clear hw
                subst e1 e2
                go_wp2
                go_ret2
                exact ⟨_, rfl, HB.out, own_nil _ _ _⟩
end Go.Proofs.Ytcfofdjdbojadaa
