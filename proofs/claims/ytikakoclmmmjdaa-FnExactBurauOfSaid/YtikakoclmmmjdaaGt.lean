/- Regions that draw their order and hold operations on memory that are in no one chain: a walk for each of their orders. Conditions: the closed facts on the region that the theorem asks. -/
import Derived.Test.YtikakoclmmmjdaaMa
namespace Go.Proofs.Ytikakoclmmmjdaa
open Go.RowKit
set_option linter.unusedVariables false
section
variable {P : Program} {ops : Array Oper} {C : World → Prop} {gh : Nat → Bool}
/-- the ghosts that are left, in every order that may come; between two of them further blocks may come -/
def gtree (P : Program) (ops : Array Oper) (C : World → Prop) (Q : Exit → Act → World → Prop) : Nat → List Nat → Act → World → Prop
  | 0, _, a, w => Q .normal a w
  | n + 1, r, a, w => ∀ i ∈ r, (∀ p ∈ r, Region.waitsFor .any ops i p = false) → ∃ o, ops[i]? = some o ∧ wpList P ops (gExit Q fun a' w' => (lastB ops i (r.erase i) = true ∨ C w') ∧ ∀ j d, gtree P ops C Q n (r.erase i) a' (plus w' j d)) [o] a w
def ghostU (ops : Array Oper) (g : List Nat) : Bool :=
  decide g.Nodup && g.all fun i => match ops[i]? with
    | none => false
    | some o => o.guard.isNone && (List.range ops.size).all fun j => g.contains j || match ops[j]? with
      | none => true
      | some x => (match o.dst with | some d => !(x.looksAt ops).contains d && x.dst != some d | none => true) && (match x.dst with | some t => !(o.looksAt ops).contains t || Region.waitsFor .any ops i j | none => true)
theorem ghostU_spec {g : List Nat} (h : ghostU ops g = true) : g.Nodup ∧ ∀ i ∈ g, ∃ o, ops[i]? = some o ∧ GhostOk ops (fun j => g.contains j) i o := by
  simp only [ghostU, Bool.and_eq_true, decide_eq_true_eq, List.all_eq_true] at h
  obtain ⟨h1, h3⟩ := h
  refine ⟨h1, fun i hi => ?_⟩
  have h4 := h3 i hi
  cases ho : ops[i]? with
  | none => simp [ho] at h4
  | some o =>
    simp only [ho, Bool.and_eq_true, Option.isNone_iff_eq_none, List.all_eq_true, List.mem_range] at h4
    obtain ⟨h5, h6⟩ := h4
    have key : ∀ (j : Nat) (x : Oper), ops[j]? = some x → g.contains j = false → (∀ d, o.dst = some d → d ∉ x.looksAt ops ∧ x.dst ≠ some d) ∧ (∀ t, x.dst = some t → t ∈ o.looksAt ops → Region.waitsFor .any ops i j = true) := by
      intro j x hj hg
      have h7 := h6 j (Array.getElem?_eq_some_iff.1 hj).1
      simp only [hj, hg, Bool.false_or, Bool.and_eq_true] at h7
      refine ⟨fun d hd => ?_, fun t ht hm => ?_⟩
      · have := h7.1; simp only [hd, Bool.and_eq_true, Bool.not_eq_true', bne_iff_ne, ne_eq] at this
        exact ⟨by simpa using this.1, this.2⟩
      · have := h7.2; simp only [ht, Bool.or_eq_true, Bool.not_eq_true'] at this
        rcases this with h8 | h8
        · have : (o.looksAt ops).contains t = true := by simpa using hm
          rw [h8] at this; cases this
        · exact h8
    exact ⟨o, rfl, h5, fun j x hj hg => ⟨fun d hd => ((key j x hj hg).1 d hd).1, fun d hd => ((key j x hj hg).1 d hd).2⟩, fun j x t hj hg ht hm => (key j x hj hg).2 t ht hm⟩

theorem simT {Q : Exit → Act → World → Prop} {aF : Act} {g : List Nat} (hsel : Region.noSelect ops = true) (hok : ∀ i ∈ g, ∃ o, ops[i]? = some o ∧ GhostOk ops (fun j => g.contains j) i o)
    (hext : ∀ w w' : World, C w → Below w.heap.size w w' → C w') :
    ∀ (f : Nat) (done : Array Bool) (a : Act) (w : World) (r : List Nat) (T : Act → Act), done.size = ops.size →
      anyP P ops C (fun j => g.contains j) (fun d' a' => (d'.size = ops.size ∧ Region.ready .any ops d' = [] ∧ ∀ i, i < ops.size → d'.getD i false = true) ∧ a' = aF) f done a →
      (C w ∨ ∀ k, k < ops.size → k ∉ r → done.getD k false = true) → Trans ops (fun j => g.contains j) T → r.Nodup → (∀ i ∈ r, i ∈ g ∧ done.getD i true = false) → (∀ i ∈ g, i ∉ r → done.getD i false = true) →
      (∀ j d, gtree P ops C Q r.length r (T aF) (plus w j d)) → wpAny P .any ops Q f done (T a) w := by
  intro f
  induction f with
  | zero =>
    intro done a w r T hsz hX hC hT hnd hr1 hr2 H
    obtain ⟨⟨_, hre, hall⟩, rfl⟩ := hX
    refine ⟨hre, ?_⟩
    cases r with
    | nil => have := H [] w.drawn; rw [plus_nil] at this; exact this
    | cons x r =>
      exfalso
      have h1 := (hr1 x (by simp)).2
      have hlt : x < done.size := by
        rcases Nat.lt_or_ge x done.size with h' | h'
        · exact h'
        · simp [Array.getElem?_eq_none h'] at h1
      have h2 := hall x (by omega)
      rw [both_done h1] at h2
      cases h2
  | succ f ih =>
    intro done a w r T hsz hX hC hT hnd hr1 hr2 H
    refine ⟨fun h0 => absurd h0 hX.1, fun i hi => ?_⟩
    obtain ⟨hun, o, ho, hall⟩ := mem_ready.1 hi
    obtain ⟨v, hy, hn⟩ := yields_of ho (hX.2 i hi)
    have hlt : i < done.size := by
      rcases Nat.lt_or_ge i done.size with h' | h'
      · exact h'
      · simp [Array.getElem?_eq_none h'] at hun
    cases hg : g.contains i with
    | false =>
      have epd : pd (fun j => g.contains j) i o = o.dst := by
        show (if g.contains i = true then none else o.dst) = o.dst
        rw [hg]; rfl
      have hir : i ∉ r := fun h => by have := (hr1 i h).1; rw [← List.contains_iff_mem, hg] at this; cases this
      replace hC : C w := hC.resolve_right fun h => by
        have := h i (by omega) hir
        rw [both_done hun] at this; cases this
      have go : ∀ (u : Value) (w' : World), u = v → Below w.heap.size w w' → wpAny P .any ops Q f (done.setIfInBounds i true) ((T a).put o.dst u) w' := by
        intro u w' hu hb
        subst hu
        rw [← hT.put i o u a ho hg]
        refine ih _ _ w' r T (by simp [hsz]) (by rw [epd] at hn; exact hn) (.inl (hext _ _ hC hb)) hT hnd (fun x hx => ⟨(hr1 x hx).1, ?_⟩) (fun x hx hxr => getD_set_true (hr2 x hx hxr)) ?_
        · rw [getD_set_ne true (fun e => hir (by rw [e]; exact hx))]; exact (hr1 x hx).2
        · intro j d
          obtain ⟨j', d', rfl⟩ := plus_of_below hb
          rw [plus_plus]
          exact H _ _
      unfold wpOp
      simp only [ho]
      rw [(hT.exec i o a ho hg).2]
      rcases hy with h' | ⟨_, hy⟩
      · have h2 : g.contains i = true := h'
        rw [hg] at h2; cases h2
      · rcases hy with ⟨hw, hq⟩ | ⟨hw, hv⟩
        · rw [if_pos hw]
          refine .inl ?_
          have hq' := hq w hC
          unfold Oper.quietAt at hq'
          unfold Oper.wp
          rw [(hT.exec i o a ho hg).1]
          generalize (execOp a.eval o).run P w = res at hq'
          cases res with
          | ok n w' =>
            cases n <;> simp only [Oper.quietUpon] at hq' <;> simp only [Oper.upon]
            case value u => obtain ⟨e1, e2⟩ := hq'; subst e1; exact go u _ e2 (Below.refl _ _)
            case skip => obtain ⟨e1, e2⟩ := hq'; subst e1; exact go undef _ e2.symm (Below.refl _ _)
            case enter fn args =>
              obtain ⟨e1, hc⟩ := hq'
              subst e1
              exact hc.mono fun e w'' ⟨he, hw''⟩ => by subst he; exact go v _ rfl hw''
          | halt x w' => simp only [Oper.quietUpon] at hq'
        · rw [hw, if_neg (by simp)]
          exact go undef w hv.symm (Below.refl _ _)
    | true =>
      have hig : i ∈ g := by simpa using hg
      have hir : i ∈ r := by
        refine Classical.byContradiction fun h => ?_
        have := hr2 i hig h
        rw [both_done hun] at this
        cases this
      have hfree : ∀ p ∈ r, Region.waitsFor .any ops i p = false := fun p hp => by
        cases hw : Region.waitsFor .any ops i p with
        | false => rfl
        | true =>
          have h1 := waits_done ho hall hw
          rw [both_done (hr1 p hp).2] at h1
          cases h1
      have hlen : r.length = (r.erase i).length + 1 := by
        rw [List.length_erase_of_mem hir]
        have := List.length_pos_of_mem hir
        omega
      have hmem : ∀ y, y ∈ r.erase i ↔ y ≠ i ∧ y ∈ r := fun y => hnd.mem_erase_iff
      (
        obtain ⟨o', ho', hO⟩ := hok i hig
        rw [ho] at ho'
        cases ho'
        have H0 := H [] w.drawn
        rw [plus_nil, hlen] at H0
        obtain ⟨o2, ho2, H1⟩ := H0 i hir hfree
        rw [ho] at ho2
        cases ho2
        obtain ⟨hsame, hag⟩ := agree (L := fun d' => d'.size = ops.size ∧ Region.ready .any ops d' = [] ∧ ∀ i, i < ops.size → d'.getD i false = true) _ _ _ hX
        have hex : execOp (T aF).eval o = execOp (T a).eval o := by
          refine execOp_congr o (fun cs b => Region.noSelect_spec hsel i o cs b ho) (fun y hy' => ?_)
          refine hT.same aF a y hsame.symm ?_
          cases y with
          | tmp t =>
            refine (hag t (fun j x' hj hgj hd he => ?_)).symm
            have hl : t ∈ o.looksAt ops := List.mem_append_left _ (List.mem_filterMap.2 ⟨.tmp t, by simpa using hy', rfl⟩)
            have h1 := waits_done ho hall (hO.reads j x' t hj hgj he hl)
            rw [both_done hd] at h1
            cases h1
          | _ => rfl
        have hwant : ∀ b : Act, Region.wanted o (yielded ops b.tmps) = true := fun b => by simp [Region.wanted, hO.guard]
        have hn' : anyP P ops C (fun j => g.contains j) (fun d' a' => (d'.size = ops.size ∧ Region.ready .any ops d' = [] ∧ ∀ i, i < ops.size → d'.getD i false = true) ∧ a' = aF) f (done.setIfInBounds i true) a := by
          have epd : pd (fun j => g.contains j) i o = none := by
            show (if g.contains i = true then none else o.dst) = none
            rw [hg]; rfl
          rw [epd] at hn; exact hn
        have next : ∀ (T' : Act → Act) (w' : World), Trans ops (fun j => g.contains j) T' → ((lastB ops i (r.erase i) = true ∨ C w') ∧ ∀ j d, gtree P ops C Q (r.erase i).length (r.erase i) (T' aF) (plus w' j d)) → wpAny P .any ops Q f (done.setIfInBounds i true) (T' a) w' := by
          intro T' w' hT' hK
          have hC' : C w' ∨ ∀ k, k < ops.size → k ∉ r.erase i → (done.setIfInBounds i true).getD k false = true := by
            rcases hK.1 with hlast | hC'
            · refine .inr fun k hk hkr => ?_
              by_cases e : i = k
              · subst e; simp [hlt]
              · have h1 := List.all_eq_true.1 hlast k (List.mem_range.2 hk)
                have h2 : Region.waitsFor .any ops i k = true := by
                  simp only [Bool.or_eq_true, beq_iff_eq, List.contains_iff_mem] at h1
                  rcases h1 with (h3 | h3) | h3
                  · exact absurd h3.symm e
                  · exact h3
                  · exact absurd h3 hkr
                exact getD_set_true (waits_done ho hall h2)
            · exact .inl hC'
          refine ih _ _ w' (r.erase i) T' (by simp [hsz]) hn' hC' hT' (hnd.erase i) (fun y hy' => ⟨(hr1 y ((hmem y).1 hy').2).1, ?_⟩) (fun y hy' hyr => ?_) hK.2
          · rw [getD_set_ne true (fun e => ((hmem y).1 hy').1 e.symm)]; exact (hr1 y ((hmem y).1 hy').2).2
          · by_cases e : i = y
            · subst e; simp [hlt]
            · exact getD_set_true (hr2 y hy' (fun h => hyr ((hmem y).2 ⟨fun e' => e e'.symm, h⟩)))
        unfold wpOp
        simp only [ho]
        rw [if_pos (hwant _)]
        unfold wpList at H1
        rw [if_pos (hwant _)] at H1
        rcases H1 with H1 | ⟨H1, H2⟩
        · refine .inl (wp_conv hex (fun u w' hk => ?_) (fun d w' hk => ?_) H1)
          · exact next (fun b => (T b).put o.dst u) w' (hT.then hsel hO.far u) hk
          · exact next (fun b => ({ T b with defers := d :: (T b).defers } : Act).put o.dst undef) w' ((hT.defers d).then hsel hO.far undef) hk
        · exact .inr ⟨asks_conv hex H1, letsOut_g H2⟩)
theorem region_ghostCT {id : Nat} {Q : Exit → Act → World → Prop} {a : Act} {w : World} {l : List Oper} (C : World → Prop) (hext : ∀ w w' : World, C w → Below w.heap.size w w' → C w') (hC : C w.drew) (g : List Nat) (hm : P.follows .mixedOrders = true) (hB : Region.lexB .any l.toArray = true) (hG : ghostU l.toArray g = true)
    (h : wpPlain P l.toArray C (fun j => g.contains j) (fun aF => ∀ j d, gtree P l.toArray C Q g.length g aF (plus w j d)) l 0 a) : (Code.region id l.toArray true).wp P Q a w := by
  simp only [Region.lexB, Bool.and_eq_true] at hB
  obtain ⟨hnd, hok⟩ := ghostU_spec hG
  obtain ⟨aF, hF, h'⟩ := wpPlain_end l 0 a h
  have hX := anyP_lex (E := fun a' => a' = aF) hB.1 l 0 (Array.replicate l.toArray.size false) a (by simp) (by simp) (fun i hi => by omega) (by simpa using hB.2) h'
  refine wp_region_any hm ?_
  have := simT (Q := Q) (T := fun b => b) hB.1 hok hext l.length _ a w.drew g (by simp) hX (.inl hC) Trans.id hnd
    (fun i hi => ⟨hi, ?_⟩) (fun i hi hn => absurd hi hn) (fun j d => by
      have e : w.drew = plus w [] (w.drawn + 1) := by rw [← plus_drew, plus_nil]
      rw [e, plus_plus]; exact hF _ _)
  · simpa using this
  · obtain ⟨o, ho, _⟩ := hok i hi
    have hlt : i < l.length := by have := (Array.getElem?_eq_some_iff.1 ho).1; simpa using this
    simp [hlt]
theorem region_ghostWT {id : Nat} {Q : Exit → Act → World → Prop} {a : Act} {W : World} {j0 : List Obj} {d0 : Nat} {l : List Oper} (g : List Nat) (hm : P.follows .mixedOrders = true) (hB : Region.lexB .any l.toArray = true) (hG : ghostU l.toArray g = true)
    (h : wpPlain P l.toArray (fun w' => ∃ q, w' = plusq W q) (fun j => g.contains j) (fun aF => ∀ j d, gtree P l.toArray (fun w' => ∃ q, w' = plusq W q) Q g.length g aF (plus (plus W j0 d0) j d)) l 0 a) : (Code.region id l.toArray true).wp P Q a (plus W j0 d0) :=
  region_ghostCT _ (fun w1 w2 ⟨q, hq⟩ hb => by subst hq; exact later_below hb) ⟨⟨j0, d0 + 1⟩, rfl⟩ g hm hB hG h
/-- the ghosts that may come up, one by one -/
theorem gtree_step {Q : Exit → Act → World → Prop} {n : Nat} {r : List Nat} {a : Act} {w : World} (rs : List Nat) (hr : (r.filter fun i => r.all fun p => !Region.waitsFor .any ops i p) = rs)
    (h : ∀ i ∈ rs, ∃ o, ops[i]? = some o ∧ wpList P ops (gExit Q fun a' w' => (lastB ops i (r.erase i) = true ∨ C w') ∧ ∀ j d, gtree P ops C Q n (r.erase i) a' (plus w' j d)) [o] a w) : gtree P ops C Q (n + 1) r a w := fun i hi hf => h i (by
  rw [← hr]
  simp only [List.mem_filter, List.all_eq_true]
  exact ⟨hi, fun p hp => by rw [hf p hp]; rfl⟩)
theorem gtree_nil {Q : Exit → Act → World → Prop} {r : List Nat} {a : Act} {w : World} (h : Q .normal a w) : gtree P ops C Q 0 r a w := h
theorem gtree_all1 {T : Nat → Prop} {x : Nat} (h : T x) : ∀ i ∈ [x], T i := fun i hi => by simp at hi; subst hi; exact h
theorem gtree_all2 {T : Nat → Prop} {x y : Nat} (h1 : T x) (h2 : T y) : ∀ i ∈ [x, y], T i := fun i hi => by
  simp at hi
  rcases hi with rfl | rfl
  · exact h1
  · exact h2
end
end Go.Proofs.Ytikakoclmmmjdaa
