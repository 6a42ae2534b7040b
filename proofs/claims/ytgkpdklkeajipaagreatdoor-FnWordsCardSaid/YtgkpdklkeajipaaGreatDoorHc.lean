/- Texts cut into words by the reference. Conditions: as each theorem says. -/
import Derived.Test.YtgkpdklkeajipaaGreatDoorHb
import Derived.Maps.AppendAt
namespace Go.Proofs.YtgkpdklkeajipaaGreatDoor
open Go.RowKit
set_option linter.unusedSimpArgs false
set_option linter.unusedVariables false
open Go.RowKit
theorem infoStr : (Tryz.prog.info? 9).map (fun i => (i.zero, i.size, i.bytes)) = some (some (.string ByteArray.empty), 1, 16) := by kernel_rfl
/-- a list of texts of the call's own -/
def ownS (e : TypeId) (w : World) (B : Nat) (v : Value) (ws : List (List UInt8)) : Prop := w.ownsRow B e 1 v ws.length (ws.map fun l => Value.string (strB l))
theorem ownS_made {e : TypeId} {w : World} {b m : Nat} {c : Array Value} {B : Nat} (hb : b = w.heap.size) (hB : B ≤ w.heap.size) (hm : m ≤ maxLen) (hc : c.size = m) : ownS e (w.alloc (.cells c e)) B (.slice (some ⟨b, 0, none⟩) 0 m) [] :=
  hb ▸ World.ownsRow_made (e := e) (size := 1) w c m hB hm (by omega)
theorem ownS.kept {e : TypeId} {w w' : World} {B : Nat} {v : Value} {ws : List (List UInt8)} (h : ownS e w B v ws) (hb : Below w.heap.size w w') : ownS e w' B v ws := by
  refine World.ownsRow.kept h (row := none) ⟨hb.os, hb.tape, hb.output, hb.size, fun k hk _ => hb.block k hk⟩ ?_
  cases hv : v.ownBlock with
  | none => exact .inl rfl
  | some k => exact .inr fun e => by cases e
theorem ownS.len {e : TypeId} {w : World} {B : Nat} {v : Value} {ws : List (List UInt8)} (h : ownS e w B v ws) : ∃ a c, v = .slice a ws.length c := by
  rcases h.2 with ⟨rfl, hn⟩ | ⟨g, cap, cur, rfl, _⟩
  · exact ⟨none, 0, by rw [hn]⟩
  · exact ⟨_, cap, rfl⟩
theorem ownS.mono {e : TypeId} {w : World} {B B' : Nat} {v : Value} {ws : List (List UInt8)} (h : ownS e w B v ws) (hB : B' ≤ B) : ownS e w B' v ws := by
  refine ⟨h.1, ?_⟩
  rcases h.2 with h5 | ⟨g, cap, cur, hv, hg, r⟩
  · exact .inl h5
  · exact .inr ⟨g, cap, cur, hv, Nat.le_trans hB hg, r⟩
/-- the words, one by one -/
theorem ownS.cell {e : TypeId} {w : World} {B : Nat} {v : Value} {ws : List (List UInt8)} (h : ownS e w B v ws) (hp : 0 < ws.length) : ∃ g c, v = .slice (some ⟨g, 0, none⟩) ws.length c ∧ B ≤ g ∧ g < w.heap.size ∧ ∀ i, i < ws.length → w.cell? ⟨g, i, none⟩ = some (.string (strB (ws.getD i []))) := by
  rcases id h.2 with ⟨rfl, hn⟩ | ⟨g, cap, cur, rfl, hg, hh, _⟩
  · omega
  · refine ⟨g, cap, rfl, hg, (World.ownsRow.lt h g rfl).2, fun i hi => ?_⟩
    have := World.ownsRow.cells h (g := g) rfl i (.string (strB (ws.getD i []))) (by simp [hi])
    have e : (⟨g, 0, none⟩ : Addr).add i = ⟨g, 0 + i, none⟩ := by unfold Addr.add; split <;> simp_all
    rw [e, Nat.zero_add] at this
    exact this
/-- append of a text to a list of texts -/
theorem wpList_appendS {P : Program} {ops : Array Oper} {rest : List Oper} {o : Oper} {a : Act} {w : World} {Q : Exit → Act → World → Prop} (hgd : o.guard = none) (s x : Operand) (t : TypeId)
    (ho : o.op = .call { callee := .builtin .append, args := #[s, x], argTypes := #[t, t] }) (E : TypeId) (ht : P.underlying t = some (.slice E)) (hi : (P.info? E).map (fun i => (i.zero, i.size, i.bytes)) = some (some (.string ByteArray.empty), 1, 16))
    (B : Nat) (v : Value) (ws : List (List UInt8)) (hs : a.eval s = v) (b : Nat) (hx : a.eval x = .slice (some ⟨b, 0, none⟩) 1 1) (r : List UInt8) (hu : w.cell? ⟨b, 0, none⟩ = some (.string (strB r)))
    (hown : ownS E w B v ws) (hlen : ws.length < 1000000000) (hB : B ≤ w.heap.size)
    (h : ∀ v' w', ownS E w' B v' (ws ++ [r]) → w.grownBy w' v.ownBlock → Below B w w' → wpList P ops Q rest (a.put o.dst v') w') : wpList P ops Q (o :: rest) a w := by
  obtain ⟨i, h1, h2, h3, h4⟩ := info_parts hi
  refine wpList_append_own w hgd s x t ho B E i (.string ByteArray.empty) 1 16 ht h1 h2 h3 h4 rfl (by decide) v _ _ hs hown ⟨b, 0, none⟩ 1 1 [.string (strB r)] hx rfl ?_ ?_ (by unfold maxLen; omega) (by omega) hB ?_
  · intro j y hj
    match j, hj with
    | 0, hj => simp at hj; subst hj; simpa [Addr.add] using hu
  · intro y hy
    simp at hy
    subst hy
    rfl
  · intro v' w' h5 h6 _
    exact h v' w' (by unfold ownS; simpa using h5) h6 (below_of_grown h6 hB fun k hk => (World.ownsRow.lt hown k hk).1)
theorem strB_extract (l : List UInt8) (a b : Nat) : (strB l).extract a b = strB ((l.take b).drop a) := by
  apply ByteArray.ext
  show ((strB l).extract a b).data = ((l.take b).drop a).toArray
  apply Array.toList_inj.1
  rw [Lib.extract_data]
  simp [strB, List.drop_take]
end Go.Proofs.YtgkpdklkeajipaaGreatDoor
