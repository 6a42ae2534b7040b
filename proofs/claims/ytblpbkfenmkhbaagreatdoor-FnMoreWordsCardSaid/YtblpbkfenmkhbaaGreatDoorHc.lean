/- Texts cut into words by the reference. Conditions: as each theorem says. -/
import Derived.Test.YtblpbkfenmkhbaaGreatDoorHb
import Derived.Maps.AppendAt
namespace Go.Proofs.YtblpbkfenmkhbaaGreatDoor
open Go.RowKit
set_option linter.unusedSimpArgs false
set_option linter.unusedVariables false
open Go.RowKit
theorem infoStr : (Tryz.prog.info? 9).map (fun i => (i.zero, i.size, i.bytes)) = some (some (.string ByteArray.empty), 1, 16) := by kernel_rfl
/-- a list of texts of the call's own -/
def ownS (e : TypeId) (w : World) (B : Nat) (v : Value) (ws : List (List UInt8)) : Prop := w.ownsRow B e 1 v ws.length (ws.map fun l => Value.string (strB l))
theorem ownS_made {e : TypeId} {w : World} {b m : Nat} {c : Array Value} {B : Nat} (hb : b = w.heap.size) (hB : B ≤ w.heap.size) (hm : m ≤ maxLen) (hc : c.size = m) : ownS e (w.alloc (.cells c e)) B (.slice (some ⟨b, 0, none⟩) 0 m) [] :=
  hb ▸ World.ownsRow_made (e := e) (size := 1) w c m hB hm (by omega)
theorem ownS.kept {e : TypeId} {w w' : World} {B : Nat} {v : Value} {ws : List (List UInt8)} (h : ownS e w B v ws) (hb : Below w.heap.size w w') : ownS e w' B v ws := by
  refine World.ownsRow.kept h (row := none) ⟨hb.os, hb.tape, hb.output, hb.size, fun k hk _ => hb.block k hk⟩ ?_
  cases hv : v.ownBlock with
  | none => exact .inl rfl
  | some k => exact .inr fun e => by cases e
theorem ownS.len {e : TypeId} {w : World} {B : Nat} {v : Value} {ws : List (List UInt8)} (h : ownS e w B v ws) : ∃ a c, v = .slice a ws.length c := by
  rcases h.2 with ⟨rfl, hn⟩ | ⟨g, cap, cur, rfl, _⟩
  · exact ⟨none, 0, by rw [hn]⟩
  · exact ⟨_, cap, rfl⟩
theorem ownS.mono {e : TypeId} {w : World} {B B' : Nat} {v : Value} {ws : List (List UInt8)} (h : ownS e w B v ws) (hB : B' ≤ B) : ownS e w B' v ws := by
  refine ⟨h.1, ?_⟩
  rcases h.2 with h5 | ⟨g, cap, cur, hv, hg, r⟩
  · exact .inl h5
  · exact .inr ⟨g, cap, cur, hv, Nat.le_trans hB hg, r⟩
/-- the words, one by one -/
theorem ownS.cell {e : TypeId} {w : World} {B : Nat} {v : Value} {ws : List (List UInt8)} (h : ownS e w B v ws) (hp : 0 < ws.length) : ∃ g c, v = .slice (some ⟨g, 0, none⟩) ws.length c ∧ B ≤ g ∧ g < w.heap.size ∧ ∀ i, i < ws.length → w.cell? ⟨g, i, none⟩ = some (.string (strB (ws.getD i []))) := by
  rcases id h.2 with ⟨rfl, hn⟩ | ⟨g, cap, cur, rfl, hg, hh, _⟩
  · omega
  · refine ⟨g, cap, rfl, hg, (World.ownsRow.lt h g rfl).2, fun i hi => ?_⟩
    have := World.ownsRow.cells h (g := g) rfl i (.string (strB (ws.getD i []))) (by simp [hi])
    have e : (⟨g, 0, none⟩ : Addr).add i = ⟨g, 0 + i, none⟩ := by unfold Addr.add; split <;> simp_all
    rw [e, Nat.zero_add] at this
    exact this
/-- append of a text to a list of texts -/
theorem wpList_appendS {P : Program} {ops : Array Oper} {rest : List Oper} {o : Oper} {a : Act} {w : World} {Q : Exit → Act → World → Prop} (hgd : o.guard = none) (s x : Operand) (t : TypeId)
    (ho : o.op = .call { callee := .builtin .append, args := #[s, x], argTypes := #[t, t] }) (E : TypeId) (ht : P.underlying t = some (.slice E)) (hi : (P.info? E).map (fun i => (i.zero, i.size, i.bytes)) = some (some (.string ByteArray.empty), 1, 16))
    (B : Nat) (v : Value) (ws : List (List UInt8)) (hs : a.eval s = v) (b : Nat) (hx : a.eval x = .slice (some ⟨b, 0, none⟩) 1 1) (r : List UInt8) (hu : w.cell? ⟨b, 0, none⟩ = some (.string (strB r)))
    (hown : ownS E w B v ws) (hlen : ws.length < 100000000000) (hB : B ≤ w.heap.size)
    (h : ∀ v' w', ownS E w' B v' (ws ++ [r]) → w.grownBy w' v.ownBlock → Below B w w' → wpList P ops Q rest (a.put o.dst v') w') : wpList P ops Q (o :: rest) a w := by
  obtain ⟨i, h1, h2, h3, h4⟩ := info_parts hi
  refine wpList_append_own w hgd s x t ho B E i (.string ByteArray.empty) 1 16 ht h1 h2 h3 h4 rfl (by decide) v _ _ hs hown ⟨b, 0, none⟩ 1 1 [.string (strB r)] hx rfl ?_ ?_ (by unfold maxLen; omega) (by omega) hB ?_
  · intro j y hj
    match j, hj with
    | 0, hj => simp at hj; subst hj; simpa [Addr.add] using hu
  · intro y hy
    simp at hy
    subst hy
    rfl
  · intro v' w' h5 h6 _
    exact h v' w' (by unfold ownS; simpa using h5) h6 (below_of_grown h6 hB fun k hk => (World.ownsRow.lt hown k hk).1)
theorem strB_extract (l : List UInt8) (a b : Nat) : (strB l).extract a b = strB ((l.take b).drop a) := by
  apply ByteArray.ext
  show ((strB l).extract a b).data = ((l.take b).drop a).toArray
  apply Array.toList_inj.1
  rw [Lib.extract_data]
  simp [strB, List.drop_take]
set_option maxHeartbeats 2000000 in
theorem l01Split_any (l : List UInt8) (c : UInt8) (w : World) (hl : l.length ≤ 4000000000) : Calls Tryz.prog 73 #[.string (strB l), .int .u8 (c.toNat : Int)] w fun e w' => ∃ v, e = .returned v ∧ Below w.heap.size w w' ∧ ownS 9 w' w.heap.size v (wordsS c l) := by
  have HG := Lib.hid (strB_get l)
  have HZ := Lib.hid (strB_size l)
  have HX := Lib.hid (strB_extract l)
  obtain ⟨s, hs⟩ : ∃ s, strB l = s := ⟨_, rfl⟩
  rw [hs] at HG HZ HX ⊢
  clear hs
  go_enter Tryz.func73, Tryz.ntmps73
  go_wp2
  go_loopw [5, 6, 7] (fun sv st sl wr => ∃ k : Nat, k ≤ l.length ∧ sl = .int .i64 k ∧ st = .int .i64 ((k - (foldS c (l.take k)).2.length : Nat) : Int) ∧ Below w.heap.size w wr ∧ ownS 9 wr w.heap.size sv (foldS c (l.take k)).1) (fun _ _ sl _ => l.length - (intOf sl).toNat)
  case atStart => exact ⟨0, by omega, rfl, rfl, by (repeat (first | (with_reducible exact Below.refl _ _) | (with_reducible assumption) | (with_reducible refine below_plus' ?_ ?_; ((try simp only [plus_size, World.size_alloc, World.size_drew, World.size_setCell, size_setRow, World.heap_drewN, List.length_append]) <;> omega)) | (with_reducible refine below_alloc' ?_ ?_; ((try simp only [plus_size, World.size_alloc, World.size_drew, World.size_setCell, size_setRow, World.heap_drewN, List.length_append]) <;> omega)) | with_reducible refine Below.drew ?_ | (with_reducible refine below_drewN' ?_ _) | exact Below.refl _ _)), ownS_made rfl (Nat.le_refl _) (by decide) rfl⟩
  case round =>
    obtain ⟨k, hk, rfl, rfl, hbel, hown⟩ := hrel
    have hbs := hbel.size
    have HL := Lib.hid (foldS_len c l k hk)
    have HP := Lib.hid (foldS_pieces c l k hk)
    obtain ⟨ao, co, rfl⟩ := hown.len
    by_cases hlt : k < l.length
    · have hks : k < s.size := by rw [HZ.out]; exact hlt
      have HT := Lib.hid (foldS_take (c := c) hlt)
      have HE := Lib.hid (show (s[k]'hks).toNat = l[k].toNat by rw [HG.out]; simp [byteAt, hlt])
      generalize foldS c (l.take k) = F at *
      have HR := Lib.hid (show s.extract (k - F.2.length) k = strB F.2 by rw [HX.out, ← HL.out.2])
      have hll : F.1.length < 100000000000 := by have := HP.out; omega
      have HS := Lib.hid (show foldS c (l.take (k + 1)) = if l[k] = c then (F.1 ++ [F.2], []) else (F.1, F.2 ++ [l[k]]) by rw [HT.out]; rfl)
      by_cases hc : l[k] = c
      · have hb : (((s[k]'hks).toNat : Int) == (c.toNat : Int)) = true := by rw [HE.out, hc]; simp
        have H2 := Lib.hid (show foldS c (l.take (k + 1)) = (F.1 ++ [F.2], []) by rw [HS.out, if_pos hc])
        clear HS HE HT hc
        go_wp2_with (first | (at_builtin; go_loud (refine wpList_appendS rfl _ _ 65 rfl 9 Tryz.underlying65 infoStr w.heap.size (.slice ao F.1.length co) F.1 rfl _ rfl F.2 ?_ (hown.kept ?_) hll (by ((try simp only [plus_size, World.size_alloc, World.size_drew, World.size_setCell, size_setRow, World.heap_drewN, List.length_append]) <;> omega)) ?_; (· rw [World.cell?_alloc_at _ _ _ _ (by ((try simp only [plus_size, World.size_alloc, World.size_drew, World.size_setCell, size_setRow, World.heap_drewN, List.length_append]) <;> omega)), HR.out]; rfl); (· (repeat (first | (with_reducible exact Below.refl _ _) | (with_reducible assumption) | (with_reducible refine below_plus' ?_ ?_; ((try simp only [plus_size, World.size_alloc, World.size_drew, World.size_setCell, size_setRow, World.heap_drewN, List.length_append]) <;> omega)) | (with_reducible refine below_alloc' ?_ ?_; ((try simp only [plus_size, World.size_alloc, World.size_drew, World.size_setCell, size_setRow, World.heap_drewN, List.length_append]) <;> omega)) | with_reducible refine Below.drew ?_ | (with_reducible refine below_drewN' ?_ _) | exact Below.refl _ _))); intro v' w' hown' hgr hB)))
        go_roundw
        case rel => exact ⟨k + 1, by omega, by go_num, by rw [H2.out]; rfl, Below.trans (show Below w.heap.size w _ by (repeat (first | (with_reducible exact Below.refl _ _) | (with_reducible assumption) | (with_reducible refine below_plus' ?_ ?_; ((try simp only [plus_size, World.size_alloc, World.size_drew, World.size_setCell, size_setRow, World.heap_drewN, List.length_append]) <;> omega)) | (with_reducible refine below_alloc' ?_ ?_; ((try simp only [plus_size, World.size_alloc, World.size_drew, World.size_setCell, size_setRow, World.heap_drewN, List.length_append]) <;> omega)) | with_reducible refine Below.drew ?_ | (with_reducible refine below_drewN' ?_ _) | exact Below.refl _ _))) hB, by rw [H2.out]; exact hown'⟩
        case measure => simp [intOf]; omega
      · have hb : (((s[k]'hks).toNat : Int) == (c.toNat : Int)) = false := by
          rw [HE.out]
          refine beq_eq_false_iff_ne.2 fun e => hc (UInt8.toNat_inj.1 (by omega))
        have H2 := Lib.hid (show foldS c (l.take (k + 1)) = (F.1, F.2 ++ [l[k]]) by rw [HS.out, if_neg hc])
        clear HS HE HT hc
        go_wp2
        go_roundw
        case rel => exact ⟨k + 1, by omega, by go_num, by rw [H2.out]; have := HL.out.1; simp only [List.length_append, List.length_singleton]; congr 2; omega, hbel, by rw [H2.out]; exact hown⟩
        case measure => simp [intOf]; omega
    · obtain rfl : l.length = k := by omega
      have HR := Lib.hid (show s.extract (l.length - (foldS c (l.take l.length)).2.length) s.size = strB (foldS c (l.take l.length)).2 by rw [HX.out, HZ.out, ← HL.out.2])
      have hks : ¬ l.length < s.size := by rw [HZ.out]; exact hlt
      have hks2 : l.length - (foldS c (l.take l.length)).2.length ≤ s.size := by rw [HZ.out]; omega
      have hll : (foldS c (l.take l.length)).1.length < 100000000000 := by have := HP.out; omega
      have HW := Lib.hid (show wordsS c l = (foldS c (l.take l.length)).1 ++ [(foldS c (l.take l.length)).2] by rw [List.take_length]; rfl)
      generalize foldS c (l.take l.length) = F at *
      go_wp2_with (first | (at_builtin; go_loud (refine wpList_appendS rfl _ _ 65 rfl 9 Tryz.underlying65 infoStr w.heap.size (.slice ao F.1.length co) F.1 rfl _ rfl F.2 ?_ (hown.kept ?_) hll (by ((try simp only [plus_size, World.size_alloc, World.size_drew, World.size_setCell, size_setRow, World.heap_drewN, List.length_append]) <;> omega)) ?_; (· rw [World.cell?_alloc_at _ _ _ _ (by ((try simp only [plus_size, World.size_alloc, World.size_drew, World.size_setCell, size_setRow, World.heap_drewN, List.length_append]) <;> omega)), HR.out]; rfl); (· (repeat (first | (with_reducible exact Below.refl _ _) | (with_reducible assumption) | (with_reducible refine below_plus' ?_ ?_; ((try simp only [plus_size, World.size_alloc, World.size_drew, World.size_setCell, size_setRow, World.heap_drewN, List.length_append]) <;> omega)) | (with_reducible refine below_alloc' ?_ ?_; ((try simp only [plus_size, World.size_alloc, World.size_drew, World.size_setCell, size_setRow, World.heap_drewN, List.length_append]) <;> omega)) | with_reducible refine Below.drew ?_ | (with_reducible refine below_drewN' ?_ _) | exact Below.refl _ _))); intro v' w' hown' hgr hB)))
      go_ret
      exact ⟨_, rfl, Below.trans (show Below w.heap.size w _ by (repeat (first | (with_reducible exact Below.refl _ _) | (with_reducible assumption) | (with_reducible refine below_plus' ?_ ?_; ((try simp only [plus_size, World.size_alloc, World.size_drew, World.size_setCell, size_setRow, World.heap_drewN, List.length_append]) <;> omega)) | (with_reducible refine below_alloc' ?_ ?_; ((try simp only [plus_size, World.size_alloc, World.size_drew, World.size_setCell, size_setRow, World.heap_drewN, List.length_append]) <;> omega)) | with_reducible refine Below.drew ?_ | (with_reducible refine below_drewN' ?_ _) | exact Below.refl _ _))) hB, by rw [HW.out]; exact hown'⟩
end Go.Proofs.YtblpbkfenmkhbaaGreatDoor
