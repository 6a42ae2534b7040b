/- A whole list of numbers is appended to one of the call's own. Conditions: as each theorem says. -/
import Derived.Test.YtfghanmcmjgonaaDoorI2
namespace Go.Proofs.YtfghanmcmjgonaaDoor
open Go.ChangeShapes Go.WideShapes Go.ChangeAt Go.RowKit
set_option linter.unusedVariables false
set_option linter.unusedSimpArgs false
theorem own_made_plus {e : TypeId} {w : World} {B b : Nat} {c : Array Value} {m : Nat} {j : List Obj} {d : Nat} (hb : b = w.heap.size) (hB : B ≤ w.heap.size) (hm : m ≤ maxLen) (hc : c.size = m) : own e (plus (w.alloc (.cells c e)) j d) B (.slice (some ⟨b, 0, none⟩) 0 m) [] :=
  hb ▸ (own_made hB hm hc).kept (below_plus (Below.refl _ _) (Nat.le_refl _) j d)
theorem run_append_nothing {P : Program} (w : World) (base : Nat) (t ty e : TypeId) (i : TypeInfo) (size : Nat) (ht : P.underlying t = some (.slice e)) (hi : P.info? e = some i)
    (v : Value) (n c : Nat) (xs : List Value) (hown : w.ownsRow base e size v n xs) : (Builtin.append_ #[t, t] ty #[v, .slice none 0 c]).run P w = .ok v w := by
  rcases hown.2 with ⟨rfl, rfl⟩ | ⟨g, cap, cur, rfl, hbg, hg, hnc, hcm, hcs, htake⟩
  · simp [Builtin.append_, run_underlying ht, sizeOf, typeInfo, hi, Builtin.lenOf, Builtin.firstCells]
  · simp [Builtin.append_, run_underlying ht, sizeOf, typeInfo, hi, Builtin.lenOf, Builtin.firstCells, hnc, storeCells]
theorem wpList_append_nothing {P : Program} {ops : Array Oper} {rest : List Oper} {o : Oper} {a : Act} {w : World} {Q : Exit → Act → World → Prop} (hgd : o.guard = none) (s x : Operand) (t : TypeId)
    (ho : o.op = .call { callee := .builtin .append, args := #[s, x], argTypes := #[t, t] }) (base : Nat) (e : TypeId) (i : TypeInfo) (size : Nat) (ht : P.underlying t = some (.slice e)) (hi : P.info? e = some i)
    (v : Value) (n c : Nat) (xs : List Value) (hs : a.eval s = v) (hown : w.ownsRow base e size v n xs) (hx : a.eval x = .slice none 0 c)
    (h : wpList P ops Q rest (a.put o.dst v) w) : wpList P ops Q (o :: rest) a w := by
  refine wpList_plain hgd fun _ hK => ?_
  have hr := run_append_nothing w base t o.type e i size ht hi v n c xs hown
  unfold Oper.wp execOp
  simp only [ho, resolve, invoke, builtin, Sem.run_bind, Sem.run_pure, Result.andThen_ok, List.map_toArray, List.map_cons, List.map_nil, hs, hx, hr]
  exact hK _ _ h
theorem wpList_appendL {P : Program} {ops : Array Oper} {rest : List Oper} {o : Oper} {a : Act} {w : World} {Q : Exit → Act → World → Prop} (hgd : o.guard = none) (s x : Operand) (t : TypeId)
    (ho : o.op = .call { callee := .builtin .append, args := #[s, x], argTypes := #[t, t] }) (e : TypeId) (ht : P.underlying t = some (.slice e)) (hi : (P.info? e).map (fun i => (i.zero, i.size, i.bytes)) = some (some (.int .i64 0), 1, 8))
    (B : Nat) (v v2 : Value) (xs ys : List Int) (hs : a.eval s = v) (hx : a.eval x = v2) (hown : own e w B v xs) (hr : reads w v2 ys) (hlen : xs.length + ys.length ≤ 1000000000) (hB : B ≤ w.heap.size)
    (h : ∀ v' w', own e w' B v' (xs ++ ys) → w.grownBy w' v.ownBlock → Below B w w' → wpList P ops Q rest (a.put o.dst v') w') : wpList P ops Q (o :: rest) a w := by
  obtain ⟨i, h1, h2, h3, h4⟩ := info_parts hi
  have go : ∀ (ad : Addr) (c : Nat), a.eval x = .slice (some ad) ys.length c → (∀ j u, (ys.map (Value.int .i64))[j]? = some u → w.cell? (ad.add j) = some u) → wpList P ops Q (o :: rest) a w := by
    intro ad c hx' hn
    refine wpList_append_own w hgd s x t ho B e i (.int .i64 0) 1 8 ht h1 h2 h3 h4 rfl (by decide) v _ _ hs hown ad ys.length c (ys.map (Value.int .i64)) hx' (by simp) hn ?_ (by unfold maxLen; omega) (by omega) hB ?_
    · intro y hy
      obtain ⟨z, _, rfl⟩ := List.mem_map.1 hy
      rfl
    · intro v' w' h5 h6 _
      refine h v' w' ?_ h6 (below_of_grown h6 hB fun k hk => (hown.lt k hk).1)
      show w'.ownsRow B e 1 v' (xs ++ ys).length ((xs ++ ys).map (Value.int .i64))
      simpa using h5
  obtain ⟨ad, c, rfl, hr⟩ := hr
  cases ad with
  | none =>
    rcases hr with rfl | ⟨b, o', ha, _⟩
    · refine wpList_append_nothing hgd s x t ho B e i 1 ht h1 v _ c _ hs hown hx ?_
      exact h v w (by rw [List.append_nil]; exact hown) ⟨rfl, rfl, rfl, Nat.le_refl _, fun _ _ _ => rfl⟩ (Below.refl _ _)
    · cases ha
  | some ad =>
    refine go ad c hx fun j u hj => ?_
    rcases hr with rfl | ⟨b, o', ha, hr⟩
    · simp at hj
    · cases ha
      rw [List.getElem?_map] at hj
      have hj2 : j < ys.length := by
        rcases Nat.lt_or_ge j ys.length with h' | h'
        · exact h'
        · rw [List.getElem?_eq_none h'] at hj; cases hj
      rw [nth_get hj2] at hj
      cases hj
      have e : (⟨b, o', none⟩ : Addr).add j = ⟨b, o' + j, none⟩ := by unfold Addr.add; split <;> simp_all
      rw [e]
      exact hr j hj2
end Go.Proofs.YtfghanmcmjgonaaDoor
