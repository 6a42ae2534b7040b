/- Words that serve all later texts: several texts in one. Conditions: as each theorem says. -/
import Derived.Test.YtgkpdklkeajipaaGreatDoorV2
import Derived.Deep.Cut
import Derived.Deep.CutRange
import Derived.Test.YtgkpdklkeajipaaGreatDoorMa
namespace Go.Proofs.YtgkpdklkeajipaaGreatDoor
open Go.RowKit
set_option linter.unusedSimpArgs false
set_option linter.unusedVariables false
/-- what is answered beside a good code -/
def okS (n : Int) (xs : List Int) (k : Int) : Bool := okW n xs && inB k 0 (8 - n)
def codS (n : Int) (xs : List Int) (k : Int) : Int := if okW n xs = true then (if inB k 0 (8 - n) = true then 0 else 2) else 1
end Go.Proofs.YtgkpdklkeajipaaGreatDoor
namespace Go.Proofs.YtgkpdklkeajipaaGreatDoor
open Go.RowKit
set_option linter.unusedSimpArgs false
set_option linter.unusedVariables false
/-- what is known in the midst of a law: the boxes, the lists of its own, and that they lie apart -/
structure MidB (w wr : World) (N : Int) (vg vw : Value) (lw lg : List Int) (b4 b7 : Nat) : Prop where
  bel : Below w.heap.size w wr
  h4 : boxed wr b4 26 N vw
  h7 : boxed wr b7 26 N vg
  ow : own 2 wr w.heap.size vw lw
  og : own 2 wr w.heap.size vg lg
  aw : ∀ k, vw.ownBlock = some k → k ≠ b4 ∧ k ≠ b7 ∧ vg.ownBlock ≠ some k
  ag : ∀ k, vg.ownBlock = some k → k ≠ b4 ∧ k ≠ b7 ∧ vw.ownBlock ≠ some k
theorem MidB.kept {w wr w' : World} {N : Int} {vg vw : Value} {lw lg : List Int} {b4 b7 : Nat} (M : MidB w wr N vg vw lw lg b4 b7) (hb : Below wr.heap.size wr w') : MidB w w' N vg vw lw lg b4 b7 :=
  ⟨M.bel.trans (hb.mono M.bel.size), M.h4.kept hb, M.h7.kept hb, M.ow.kept hb, M.og.kept hb, M.aw, M.ag⟩
theorem MidB.markw {w wr w' : World} {N : Int} {vg vw : Value} {lw lg : List Int} {b4 b7 : Nat} {lq : List Int} (M : MidB w wr N vg vw lw lg b4 b7) (hx : own 2 w' w.heap.size vw lq) (hg : wr.grownBy w' vw.ownBlock) : MidB w w' N vg vw lq lg b4 b7 :=
  ⟨M.bel.trans (below_of_grown hg M.bel.size fun k hk => (M.ow.lt k hk).1), M.h4.grown hg (ne_row fun k hk => (M.aw k hk).1), M.h7.grown hg (ne_row fun k hk => (M.aw k hk).2.1), hx, M.og.apart hg (fun k h1 h2 => (M.aw k h2).2.2 h1), M.aw, M.ag⟩
theorem MidB.markg {w wr w' : World} {N : Int} {vg vw : Value} {lw lg : List Int} {b4 b7 : Nat} {lq : List Int} (M : MidB w wr N vg vw lw lg b4 b7) (hx : own 2 w' w.heap.size vg lq) (hg : wr.grownBy w' vg.ownBlock) : MidB w w' N vg vw lw lq b4 b7 :=
  ⟨M.bel.trans (below_of_grown hg M.bel.size fun k hk => (M.og.lt k hk).1), M.h4.grown hg (ne_row fun k hk => (M.ag k hk).1), M.h7.grown hg (ne_row fun k hk => (M.ag k hk).2.1), M.ow.apart hg (fun k h1 h2 => (M.ag k h2).2.2 h1), hx, M.aw, M.ag⟩
end Go.Proofs.YtgkpdklkeajipaaGreatDoor
namespace Go.Proofs.YtgkpdklkeajipaaGreatDoor
open Go.RowKit
set_option linter.unusedSimpArgs false
set_option linter.unusedVariables false
set_option maxHeartbeats 400000 in
theorem l01Own_any (v : Value) (xs : List Int) (w : World) (h : reads w v xs) (hlen : xs.length ≤ 1000000000) : Calls Tryz.prog 32 #[v] w (RetInts 2 w xs) := by
  have Hr := Lib.hid (fun w' (hb : Below w.heap.size w w') => h.kept hb)
  clear h
  go_enter Tryz.func32, Tryz.ntmps32
  go_wp2_with (first | (at_builtin; go_loud (refine wpList_appendL rfl _ _ 24 rfl 2 Tryz.underlying24 infoI w.heap.size _ _ [] xs rfl rfl (own_made (Nat.le_refl _) (by decide) rfl) (Hr.out _ (by (repeat (first | (with_reducible exact Below.refl _ _) | (with_reducible assumption) | (with_reducible refine below_plus' ?_ ?_; ((try simp only [plus_size, World.size_alloc, World.size_drew, World.size_setCell, size_setRow, World.heap_drewN, List.length_append]) <;> omega)) | (with_reducible refine below_alloc' ?_ ?_; ((try simp only [plus_size, World.size_alloc, World.size_drew, World.size_setCell, size_setRow, World.heap_drewN, List.length_append]) <;> omega)) | with_reducible refine Below.drew ?_ | (with_reducible refine below_drewN' ?_ _) | exact Below.refl _ _)))) (by simp; omega) (by ((try simp only [plus_size, World.size_alloc, World.size_drew, World.size_setCell, size_setRow, World.heap_drewN, List.length_append]) <;> omega)) ?_; intro v' w' hown' hgr hB; replace hB := Below.trans (show Below w.heap.size w _ by (repeat (first | (with_reducible exact Below.refl _ _) | (with_reducible assumption) | (with_reducible refine below_plus' ?_ ?_; ((try simp only [plus_size, World.size_alloc, World.size_drew, World.size_setCell, size_setRow, World.heap_drewN, List.length_append]) <;> omega)) | (with_reducible refine below_alloc' ?_ ?_; ((try simp only [plus_size, World.size_alloc, World.size_drew, World.size_setCell, size_setRow, World.heap_drewN, List.length_append]) <;> omega)) | with_reducible refine Below.drew ?_ | (with_reducible refine below_drewN' ?_ _) | exact Below.refl _ _))) hB; obtain ⟨j, d, rfl⟩ := plus_of_below hB; clear hB hgr)))
  go_ret
  exact ⟨_, rfl, by (repeat (first | (with_reducible exact Below.refl _ _) | (with_reducible assumption) | (with_reducible refine below_plus' ?_ ?_; ((try simp only [plus_size, World.size_alloc, World.size_drew, World.size_setCell, size_setRow, World.heap_drewN, List.length_append]) <;> omega)) | (with_reducible refine below_alloc' ?_ ?_; ((try simp only [plus_size, World.size_alloc, World.size_drew, World.size_setCell, size_setRow, World.heap_drewN, List.length_append]) <;> omega)) | with_reducible refine Below.drew ?_ | (with_reducible refine below_drewN' ?_ _) | exact Below.refl _ _)), by simpa using hown'⟩
set_option maxHeartbeats 1000000 in
theorem joined_any (n m : Int) (v1 v2 : Value) (xs ys : List Int) (w : World) (h1 : reads w v1 xs) (h2 : reads w v2 ys) (hlen : xs.length + ys.length ≤ 1000000000) : Calls Tryz.prog 30 #[.agg #[.int .i64 n, v1], .agg #[.int .i64 m, v2]] w (RetB 2 w n (xs ++ ys)) := by
  have H1 := Lib.hid (fun w' (hb : Below w.heap.size w w') => h1.kept hb)
  have H2 := Lib.hid (fun w' (hb : Below w.heap.size w w') => h2.kept hb)
  obtain ⟨a1, c1, rfl, hs⟩ := id h1
  obtain ⟨a2, c2, rfl, hs⟩ := id h2
  clear hs h1 h2
  go_enter Tryz.func30, Tryz.ntmps30
  go_wp2
  refine region_ghost [2, 5, 8, 9, 10] (by kernel_rfl) (by kernel_rfl) (by kernel_rfl) ?_
  repeat (refine wpPlain_step (fun K hK => ?_); go_simp; first | (refine hK _ ?_; clear hK K) | (apply Exists.intro; refine ⟨fun _ => ?_, hK _ ?_⟩; (fail); clear hK K))
  refine wpPlain_nil ?_
  intro j d
  refine gchain_cons _ rfl ?_
  go_wp2
  refine gExit_normal ⟨.inr (later_of_below (by (repeat (first | (with_reducible exact Below.refl _ _) | (with_reducible assumption) | (with_reducible refine below_plus' ?_ ?_; ((try simp only [plus_size, World.size_alloc, World.size_drew, World.size_setCell, size_setRow, World.heap_drewN, List.length_append]) <;> omega)) | (with_reducible refine below_alloc' ?_ ?_; ((try simp only [plus_size, World.size_alloc, World.size_drew, World.size_setCell, size_setRow, World.heap_drewN, List.length_append]) <;> omega)) | with_reducible refine Below.drew ?_ | (with_reducible refine below_drewN' ?_ _) | exact Below.refl _ _)))), fun j d => ?_⟩
  refine gchain_cons _ rfl ?_
  refine wpList_appendL rfl _ _ 24 rfl 2 Tryz.underlying24 infoI (((w.alloc (.cells #[.int .i64 n, .slice a1 xs.length c1] 26)).alloc (.cells #[.int .i64 m, .slice a2 ys.length c2] 26)).alloc (.cells #[.int .i64 0, .slice none 0 0] 26)).heap.size _ _ [] xs rfl rfl ?_ (H1.out _ (by (repeat (first | (with_reducible exact Below.refl _ _) | (with_reducible assumption) | (with_reducible refine below_plus' ?_ ?_; ((try simp only [plus_size, World.size_alloc, World.size_drew, World.size_setCell, size_setRow, World.heap_drewN, List.length_append]) <;> omega)) | (with_reducible refine below_alloc' ?_ ?_; ((try simp only [plus_size, World.size_alloc, World.size_drew, World.size_setCell, size_setRow, World.heap_drewN, List.length_append]) <;> omega)) | with_reducible refine Below.drew ?_ | (with_reducible refine below_drewN' ?_ _) | exact Below.refl _ _)))) (by simp; omega) (by ((try simp only [plus_size, World.size_alloc, World.size_drew, World.size_setCell, size_setRow, World.heap_drewN, List.length_append]) <;> omega)) ?_
  · exact own_made_plus (by ((try simp only [plus_size, World.size_alloc, World.size_drew, World.size_setCell, size_setRow, World.heap_drewN, List.length_append]) <;> omega)) (by ((try simp only [plus_size, World.size_alloc, World.size_drew, World.size_setCell, size_setRow, World.heap_drewN, List.length_append]) <;> omega)) (by decide) rfl
  intro v' w' hown' hgr hB
  go_wp2
  replace hB := Below.trans (show Below (((w.alloc (.cells #[.int .i64 n, .slice a1 xs.length c1] 26)).alloc (.cells #[.int .i64 m, .slice a2 ys.length c2] 26)).alloc (.cells #[.int .i64 0, .slice none 0 0] 26)).heap.size (((w.alloc (.cells #[.int .i64 n, .slice a1 xs.length c1] 26)).alloc (.cells #[.int .i64 m, .slice a2 ys.length c2] 26)).alloc (.cells #[.int .i64 0, .slice none 0 0] 26)) _ by (repeat (first | (with_reducible exact Below.refl _ _) | (with_reducible assumption) | (with_reducible refine below_plus' ?_ ?_; ((try simp only [plus_size, World.size_alloc, World.size_drew, World.size_setCell, size_setRow, World.heap_drewN, List.length_append]) <;> omega)) | (with_reducible refine below_alloc' ?_ ?_; ((try simp only [plus_size, World.size_alloc, World.size_drew, World.size_setCell, size_setRow, World.heap_drewN, List.length_append]) <;> omega)) | with_reducible refine Below.drew ?_ | (with_reducible refine below_drewN' ?_ _) | exact Below.refl _ _))) hB
  obtain ⟨j, d, rfl⟩ := plus_of_below hB
  obtain ⟨ao, co, rfl, hs⟩ := id hown'.reads
  try simp only [List.nil_append] at hown'
  try clear hown
  have hown := hown'
  clear hs hB hgr hown'
  refine gExit_normal ⟨.inr (later_of_below (by (repeat (first | (with_reducible exact Below.refl _ _) | (with_reducible assumption) | (with_reducible refine below_plus' ?_ ?_; ((try simp only [plus_size, World.size_alloc, World.size_drew, World.size_setCell, size_setRow, World.heap_drewN, List.length_append]) <;> omega)) | (with_reducible refine below_alloc' ?_ ?_; ((try simp only [plus_size, World.size_alloc, World.size_drew, World.size_setCell, size_setRow, World.heap_drewN, List.length_append]) <;> omega)) | with_reducible refine Below.drew ?_ | (with_reducible refine below_drewN' ?_ _) | exact Below.refl _ _)))), fun j d => ?_⟩
  refine gchain_cons _ rfl ?_
  refine wpList_appendL rfl _ _ 24 rfl 2 Tryz.underlying24 infoI (((w.alloc (.cells #[.int .i64 n, .slice a1 xs.length c1] 26)).alloc (.cells #[.int .i64 m, .slice a2 ys.length c2] 26)).alloc (.cells #[.int .i64 0, .slice none 0 0] 26)).heap.size _ _ xs ys rfl rfl ?_ (H2.out _ (by (repeat (first | (with_reducible exact Below.refl _ _) | (with_reducible assumption) | (with_reducible refine below_plus' ?_ ?_; ((try simp only [plus_size, World.size_alloc, World.size_drew, World.size_setCell, size_setRow, World.heap_drewN, List.length_append]) <;> omega)) | (with_reducible refine below_alloc' ?_ ?_; ((try simp only [plus_size, World.size_alloc, World.size_drew, World.size_setCell, size_setRow, World.heap_drewN, List.length_append]) <;> omega)) | with_reducible refine Below.drew ?_ | (with_reducible refine below_drewN' ?_ _) | exact Below.refl _ _)))) (hlen) (by ((try simp only [plus_size, World.size_alloc, World.size_drew, World.size_setCell, size_setRow, World.heap_drewN, List.length_append]) <;> omega)) ?_
  · exact own.kept hown (by (repeat (first | (with_reducible exact Below.refl _ _) | (with_reducible assumption) | (with_reducible refine below_plus' ?_ ?_; ((try simp only [plus_size, World.size_alloc, World.size_drew, World.size_setCell, size_setRow, World.heap_drewN, List.length_append]) <;> omega)) | (with_reducible refine below_alloc' ?_ ?_; ((try simp only [plus_size, World.size_alloc, World.size_drew, World.size_setCell, size_setRow, World.heap_drewN, List.length_append]) <;> omega)) | with_reducible refine Below.drew ?_ | (with_reducible refine below_drewN' ?_ _) | exact Below.refl _ _)))
  intro v' w' hown' hgr hB
  go_wp2
  replace hB := Below.trans (show Below (((w.alloc (.cells #[.int .i64 n, .slice a1 xs.length c1] 26)).alloc (.cells #[.int .i64 m, .slice a2 ys.length c2] 26)).alloc (.cells #[.int .i64 0, .slice none 0 0] 26)).heap.size (((w.alloc (.cells #[.int .i64 n, .slice a1 xs.length c1] 26)).alloc (.cells #[.int .i64 m, .slice a2 ys.length c2] 26)).alloc (.cells #[.int .i64 0, .slice none 0 0] 26)) _ by (repeat (first | (with_reducible exact Below.refl _ _) | (with_reducible assumption) | (with_reducible refine below_plus' ?_ ?_; ((try simp only [plus_size, World.size_alloc, World.size_drew, World.size_setCell, size_setRow, World.heap_drewN, List.length_append]) <;> omega)) | (with_reducible refine below_alloc' ?_ ?_; ((try simp only [plus_size, World.size_alloc, World.size_drew, World.size_setCell, size_setRow, World.heap_drewN, List.length_append]) <;> omega)) | with_reducible refine Below.drew ?_ | (with_reducible refine below_drewN' ?_ _) | exact Below.refl _ _))) hB
  obtain ⟨j, d, rfl⟩ := plus_of_below hB
  obtain ⟨ao, co, rfl, hs⟩ := id hown'.reads
  try simp only [List.nil_append] at hown'
  try clear hown
  have hown := hown'
  clear hs hB hgr hown'
  refine gExit_normal ⟨.inr (later_of_below (by (repeat (first | (with_reducible exact Below.refl _ _) | (with_reducible assumption) | (with_reducible refine below_plus' ?_ ?_; ((try simp only [plus_size, World.size_alloc, World.size_drew, World.size_setCell, size_setRow, World.heap_drewN, List.length_append]) <;> omega)) | (with_reducible refine below_alloc' ?_ ?_; ((try simp only [plus_size, World.size_alloc, World.size_drew, World.size_setCell, size_setRow, World.heap_drewN, List.length_append]) <;> omega)) | with_reducible refine Below.drew ?_ | (with_reducible refine below_drewN' ?_ _) | exact Below.refl _ _)))), fun j d => ?_⟩
  refine gchain_cons _ rfl ?_
  go_wp2
  refine gExit_normal ⟨.inr (later_of_below (by (repeat (first | (with_reducible exact Below.refl _ _) | (with_reducible assumption) | (with_reducible refine below_plus' ?_ ?_; ((try simp only [plus_size, World.size_alloc, World.size_drew, World.size_setCell, size_setRow, World.heap_drewN, List.length_append]) <;> omega)) | (with_reducible refine below_alloc' ?_ ?_; ((try simp only [plus_size, World.size_alloc, World.size_drew, World.size_setCell, size_setRow, World.heap_drewN, List.length_append]) <;> omega)) | with_reducible refine Below.drew ?_ | (with_reducible refine below_drewN' ?_ _) | exact Below.refl _ _)))), fun j d => ?_⟩
  refine gchain_cons _ rfl ?_
  go_wp2
  refine gExit_normal ⟨.inl (by kernel_rfl), fun j d => ?_⟩
  refine gchain_nil ?_
  
  go_wp2
  refine bodyPost_ret (v := .agg #[.int .i64 n, .slice ao (xs ++ ys).length co]) (by simp [results, Tryz.results30, go_sem]) rfl ?_
  exact ⟨_, rfl, by (repeat (first | (with_reducible exact Below.refl _ _) | (with_reducible assumption) | (with_reducible refine below_plus' ?_ ?_; ((try simp only [plus_size, World.size_alloc, World.size_drew, World.size_setCell, size_setRow, World.heap_drewN, List.length_append]) <;> omega)) | (with_reducible refine below_alloc' ?_ ?_; ((try simp only [plus_size, World.size_alloc, World.size_drew, World.size_setCell, size_setRow, World.heap_drewN, List.length_append]) <;> omega)) | with_reducible refine Below.drew ?_ | (with_reducible refine below_drewN' ?_ _) | exact Below.refl _ _)), by ((try simp only [plus_plus] at hown ⊢); exact own_far hown (by ((try simp only [plus_size, World.size_alloc, World.size_drew, World.size_setCell, size_setRow, World.heap_drewN, List.length_append]) <;> omega)) (by ((try simp only [plus_size, World.size_alloc, World.size_drew, World.size_setCell, size_setRow, World.heap_drewN, List.length_append]) <;> omega)) (by ((try simp only [plus_size, World.size_alloc, World.size_drew, World.size_setCell, size_setRow, World.heap_drewN, List.length_append]) <;> omega)) (by (repeat (first | (with_reducible exact List.prefix_rfl) | (with_reducible exact List.nil_prefix) | (refine List.IsPrefix.trans ?_ (List.prefix_append _ _))))))⟩
end Go.Proofs.YtgkpdklkeajipaaGreatDoor
namespace Go.Proofs.YtgkpdklkeajipaaGreatDoor
open Go.RowKit
set_option linter.unusedSimpArgs false
set_option linter.unusedVariables false
/-- i, i + 1, .. (c numbers) -/
def rowR (i : Nat) : Nat → List Int
  | 0 => []
  | c + 1 => (i : Int) :: rowR (i + 1) c
/-- the letters of the half turn of k + 1 strands -/
def halfW : Nat → List Int
  | 0 => []
  | k + 1 => rowR 1 (k + 1) ++ halfW k
theorem rowR_length : ∀ (c i : Nat), (rowR i c).length = c
  | 0, i => rfl
  | c + 1, i => by simp [rowR, rowR_length c]
theorem halfW_le : ∀ k : Nat, k ≤ 7 → (halfW k).length ≤ 7 * k
  | 0, _ => by simp [halfW]
  | k + 1, h => by
    have := halfW_le k (by omega)
    simp only [halfW, List.length_append, rowR_length]
    omega
theorem row_step {l r t : List Int} {i c : Nat} (h : l ++ (rowR i (c + 1) ++ r) = t) : (l ++ [(i : Int)]) ++ (rowR (i + 1) c ++ r) = t := by
  rw [← h]; simp [rowR]
theorem row_end {l r t : List Int} {i : Nat} (h : l ++ (rowR i 0 ++ r) = t) : l ++ r = t := by
  rw [← h]; simp [rowR]
theorem half_step {l t : List Int} {k : Nat} (hk : 0 < k) (h : l ++ halfW k = t) : l ++ (rowR 1 k ++ halfW (k - 1)) = t := by
  obtain ⟨p, rfl⟩ : ∃ p, k = p + 1 := ⟨k - 1, by omega⟩
  exact h
theorem le_of_total {l r t : List Int} {m : Nat} (h : l ++ r = t) (ht : t.length ≤ m) : l.length ≤ m := by
  have := congrArg List.length h
  rw [List.length_append] at this
  omega
end Go.Proofs.YtgkpdklkeajipaaGreatDoor
namespace Go.Proofs.YtgkpdklkeajipaaGreatDoor
open Go.RowKit
set_option linter.unusedSimpArgs false
set_option linter.unusedVariables false
/-- what is answered for so many strands -/
def halfL (n : Int) : List Int := if inB n 1 8 = true then halfW (n.toNat - 1) else []
def halfC (n : Int) : Int := if inB n 1 8 = true then 0 else 2
def halfN' (n : Int) : Int := if inB n 1 8 = true then n else 0
theorem halfL_le (n : Int) : (halfL n).length ≤ 49 := by
  unfold halfL
  split
  · rename_i h
    have := inB_true h
    have := halfW_le (n.toNat - 1) (by omega)
    omega
  · simp
theorem half_yes {n : Int} (h : inB n 1 8 = true) : ∃ m : Nat, n = (m : Int) + 1 ∧ m ≤ 7 ∧ halfL n = halfW m ∧ halfC n = 0 ∧ halfN' n = n := by
  have h' := inB_true h
  refine ⟨n.toNat - 1, by omega, by omega, by simp [halfL, h], by simp [halfC, h], by simp [halfN', h]⟩
theorem half_no {n : Int} (h : inB n 1 8 = false) : halfL n = [] ∧ halfC n = 2 ∧ halfN' n = 0 := by simp [halfL, halfC, halfN', h]
end Go.Proofs.YtgkpdklkeajipaaGreatDoor
namespace Go.Proofs.YtgkpdklkeajipaaGreatDoor
open Go.RowKit
set_option linter.unusedSimpArgs false
set_option linter.unusedVariables false
end Go.Proofs.YtgkpdklkeajipaaGreatDoor
namespace Go.Proofs.YtgkpdklkeajipaaGreatDoor
open Go.RowKit
set_option linter.unusedSimpArgs false
set_option linter.unusedVariables false
/-- one letter more in a free form -/
def freeStep (out : List Int) (x : Int) : List Int := if 0 < out.length ∧ nth out (out.length - 1) = -x then out.dropLast else out ++ [x]
/-- the free form of the first k letters -/
def freeK (xs : List Int) (k : Nat) : List Int := (xs.take k).foldl freeStep []
theorem freeK_succ {xs : List Int} {k : Nat} (h : k < xs.length) : freeStep (freeK xs k) (nth xs k) = freeK xs (k + 1) := by
  have e : nth xs k = xs[k] := by simp [nth, h]
  rw [freeK, freeK, List.take_succ_eq_append_getElem h, List.foldl_append, e]; rfl
theorem freeStep_le (l : List Int) (x : Int) : (freeStep l x).length ≤ l.length + 1 := by
  unfold freeStep
  split
  · simp; omega
  · simp
theorem freeK_le (xs : List Int) : ∀ k : Nat, k ≤ xs.length → (freeK xs k).length ≤ k
  | 0, _ => by simp [freeK]
  | k + 1, h => by
    rw [← freeK_succ (by omega)]
    have h1 := freeK_le xs k (by omega)
    have h2 := freeStep_le (freeK xs k) (nth xs k)
    omega
theorem fs_nil {l : List Int} {x : Int} (h : l.length = 0) : freeStep l x = l ++ [x] := by simp [freeStep, h]
theorem fs_no {l : List Int} {x : Int} {p : Nat} (h : l.length = p + 1) (h2 : ¬ nth l p = -x) : freeStep l x = l ++ [x] := by simp [freeStep, h, h2]
theorem fs_yes {l : List Int} {x : Int} {p : Nat} (h : l.length = p + 1) (h2 : nth l p = -x) : freeStep l x = l.dropLast := by simp [freeStep, h, h2]
theorem own_some {e : TypeId} {w : World} {B : Nat} {v : Value} {xs : List Int} (h : own e w B v xs) (hp : 0 < xs.length) : ∃ g c, v = .slice (some ⟨g, 0, none⟩) xs.length c ∧ B ≤ g ∧ g < w.heap.size ∧ xs.length ≤ c := by
  rcases h.2 with ⟨_, h0⟩ | ⟨g, cap, cur, rfl, hg, hh, hle, _⟩
  · omega
  · exact ⟨g, cap, rfl, hg, heap_lt hh, hle⟩
theorem own_drop {e : TypeId} {w : World} {B g n c : Nat} {xs : List Int} {q : Nat} (h : own e w B (.slice (some ⟨g, 0, none⟩) q c) xs) (hn : xs.length = n + 1) : own e w B (.slice (some ⟨g, 0, none⟩) n c) xs.dropLast := by
  obtain ⟨h1, h2⟩ := h
  have hl : xs.dropLast.length = n := by simp; omega
  refine ⟨by simp, ?_⟩
  rcases h2 with ⟨h2, _⟩ | ⟨g', cap', cur, hv, hg, hh, hle, hm, hs, ht⟩
  · cases h2
  · simp only [Value.slice.injEq, Option.some.injEq, Addr.mk.injEq] at hv
    obtain ⟨⟨rfl, _⟩, hn', rfl⟩ := hv
    refine .inr ⟨g, c, cur, by rw [hl], hg, hh, by omega, hm, hs, ?_⟩
    rw [hl]
    have := congrArg (List.take n) ht
    rw [List.take_take, hn] at this
    simp only [Nat.mul_one, Nat.min_eq_left (Nat.le_succ n)] at this ⊢
    rw [this, ← List.map_take, List.dropLast_eq_take, hn]
    rfl
end Go.Proofs.YtgkpdklkeajipaaGreatDoor
