/- The second half on regions that draw their order: from the walk of the text's order to every order. Conditions: the closed facts on the region that the theorem asks. -/
import Derived.Test.YtfghanmcmjgonaaDoorGh
namespace Go.Proofs.YtfghanmcmjgonaaDoor
open Go.RowKit
set_option linter.unusedVariables false
section
variable {P : Program} {ops : Array Oper} {C : World → Prop} {gh : Nat → Bool}

/-- where a ghost may come out -/
def gExit (Q : Exit → Act → World → Prop) (K : Act → World → Prop) : Exit → Act → World → Prop
  | .normal, a, w => K a w
  | .outgrown, a, w => Q .outgrown a w
  | _, _, _ => False
/-- an operation that waits for all others, but for the ghosts that come behind it -/
def lastB (ops : Array Oper) (i : Nat) (r : List Nat) : Bool := (List.range ops.size).all fun j => j == i || Region.waitsFor .any ops i j || r.contains j
/-- the ghosts, one behind the other; between two of them further blocks may come -/
def gchain (P : Program) (ops : Array Oper) (C : World → Prop) (Q : Exit → Act → World → Prop) : List Nat → Act → World → Prop
  | [], a, w => Q .normal a w
  | i :: r, a, w => ∃ o, ops[i]? = some o ∧ wpList P ops (gExit Q fun a' w' => (lastB ops i r = true ∨ C w') ∧ ∀ j d, gchain P ops C Q r a' (plus w' j d)) [o] a w

/-- what the ghosts do to a frame -/
structure Trans (ops : Array Oper) (gh : Nat → Bool) (T : Act → Act) : Prop where
  put : ∀ (j : Nat) (o : Oper) (v : Value) (b : Act), ops[j]? = some o → gh j = false → T (b.put o.dst v) = (T b).put o.dst v
  exec : ∀ (j : Nat) (o : Oper) (b : Act), ops[j]? = some o → gh j = false → execOp (T b).eval o = execOp b.eval o ∧ Region.wanted o (yielded ops (T b).tmps) = Region.wanted o (yielded ops b.tmps)
  same : ∀ (b c : Act) (x : Operand), b.tmps.size = c.tmps.size → b.eval x = c.eval x → (T b).eval x = (T c).eval x
  size : ∀ b, (T b).tmps.size = b.tmps.size
theorem Trans.id : Trans ops gh (fun b => b) := ⟨fun _ _ _ _ _ _ => rfl, fun _ _ _ _ _ => ⟨rfl, rfl⟩, fun _ _ _ _ h => h, fun _ => rfl⟩
theorem size_put (b : Act) (x : Option Tmp) (v : Value) : (b.put x v).tmps.size = b.tmps.size := by cases x <;> simp [Act.put]
theorem eval_put_same {b c : Act} {x : Operand} (y : Option Tmp) (v : Value) (hs : b.tmps.size = c.tmps.size) (h : b.eval x = c.eval x) : (b.put y v).eval x = (c.put y v).eval x := by
  cases y with
  | none => exact h
  | some d =>
    cases x with
    | tmp t =>
      by_cases e : d = t
      · subst e
        simp only [Act.eval, Act.put, Array.getD_eq_getD_getElem?, Array.getElem?_setIfInBounds_self, hs] at h ⊢
      · simp only [Act.eval, Act.put, Array.getD_eq_getD_getElem?, Array.getElem?_setIfInBounds_ne e] at h ⊢
        exact h
    | _ => exact h
/-- the conditions that an operation's slot meets of all that are no ghosts -/
def farFrom (ops : Array Oper) (gh : Nat → Bool) (x : Option Tmp) : Prop := ∀ (j : Nat) (o : Oper), ops[j]? = some o → gh j = false → (∀ d, x = some d → d ∉ o.looksAt ops) ∧ (∀ d, x = some d → o.dst ≠ some d)
theorem Trans.then {T : Act → Act} (hT : Trans ops gh T) (hsel : Region.noSelect ops = true) {x : Option Tmp} (hx : farFrom ops gh x) (v : Value) : Trans ops gh (fun b => (T b).put x v) where
  put j o u b hj hg := by rw [hT.put j o u b hj hg, Act.put_comm _ v u (hx j o hj hg).2]
  exec j o b hj hg := by
    have h1 := (hx j o hj hg).1
    rw [execOp_put o (fun cs c => Region.noSelect_spec hsel j o cs c hj) (T b) x v h1, wanted_put o (T b) x v h1]
    exact hT.exec j o b hj hg
  same b c y hs h := eval_put_same x v (by rw [hT.size, hT.size, hs]) (hT.same b c y hs h)
  size b := by rw [size_put, hT.size]
theorem Trans.defers {T : Act → Act} (hT : Trans ops gh T) (d : Deferred) : Trans ops gh (fun b => { T b with defers := d :: (T b).defers }) where
  put j o u b hj hg := by
    have := hT.put j o u b hj hg
    show ({ T (b.put o.dst u) with defers := d :: (T (b.put o.dst u)).defers } : Act) = _
    rw [this]
    exact Act.put_defers (T b) o.dst u d
  exec j o b hj hg := hT.exec j o b hj hg
  same b c y hs h := hT.same b c y hs h
  size b := hT.size b

theorem agree {aF : Act} {L : Array Bool → Prop} : ∀ (f : Nat) (done : Array Bool) (a : Act), anyP P ops C gh (fun d' a' => L d' ∧ a' = aF) f done a →
    a.tmps.size = aF.tmps.size ∧ ∀ t, (∀ (j : Nat) (o : Oper), ops[j]? = some o → gh j = false → done.getD j true = false → o.dst ≠ some t) → a.eval (.tmp t) = aF.eval (.tmp t) := by
  intro f
  induction f with
  | zero => intro done a h; rw [h.2]; exact ⟨rfl, fun _ _ => rfl⟩
  | succ f ih =>
    intro done a h
    obtain ⟨i, hi⟩ := List.exists_mem_of_ne_nil _ h.1
    obtain ⟨hun, o, ho, _⟩ := mem_ready.1 hi
    obtain ⟨v, _, hn⟩ := yields_of ho (h.2 i hi)
    obtain ⟨h1, h2⟩ := ih _ _ hn
    refine ⟨by rw [← h1, size_put], fun t ht => ?_⟩
    rw [← h2 t (fun j x hj hg hd => ?_)]
    · refine (Act.eval_put fun d hd => ?_).symm
      intro e
      cases e
      unfold pd at hd
      split at hd
      · cases hd
      · rename_i hg
        exact ht i o ho (by simpa using hg) hun hd
    · by_cases e : i = j
      · subst e
        have hlt : i < done.size := by
          rcases Nat.lt_or_ge i done.size with h' | h'
          · exact h'
          · simp [Array.getElem?_eq_none h'] at hun
        simp [hlt] at hd
      · rw [getD_set_ne true e] at hd
        exact ht j x hj hg hd

theorem letsOut_g {Q : Exit → Act → World → Prop} {K : Act → World → Prop} (h : LetsOut (gExit Q K)) : LetsOut Q := by
  obtain ⟨a, w, h⟩ := h
  exact ⟨a, w, h⟩
theorem wp_conv {Q : Exit → Act → World → Prop} {K K2 : Act → World → Prop} {o : Oper} {a1 a2 : Act} {w : World} (he : execOp a1.eval o = execOp a2.eval o)
    (hput : ∀ v w', K (a1.put o.dst v) w' → K2 (a2.put o.dst v) w')
    (hdef : ∀ d w', K ({ a1 with defers := d :: a1.defers }.put o.dst undef) w' → K2 ({ a2 with defers := d :: a2.defers }.put o.dst undef) w')
    (h : o.wp P a1 w K (gExit Q K)) : o.wp P a2 w K2 Q := by
  unfold Oper.wp at *
  rw [he] at h
  generalize (execOp a2.eval o).run P w = r at *
  cases r with
  | ok n w' =>
    cases n <;> simp only [Oper.upon] at h ⊢
    case value u => exact hput _ _ h
    case skip => exact hput _ _ h
    case defer d => exact hdef _ _ h
    case enter f args =>
      refine Calls.mono h (fun e w'' he' => ?_)
      cases e with
      | returned v => exact hput _ _ he'
      | panicked c => exact False.elim he'
      | outgrown => exact letsOut_g he'
    case row => exact Rows.mono h (fun _ _ he' => hput _ _ he')
  | halt x w' => cases x <;> simp only [Oper.upon] at h ⊢ <;> exact False.elim h

theorem asks_conv {o : Oper} {a1 a2 : Act} {w : World} (he : execOp a1.eval o = execOp a2.eval o) (h : o.asks P a1 w) : o.asks P a2 w := by
  unfold Oper.asks at *
  rw [← he]
  exact h

def chainG (ops : Array Oper) : List Nat → Bool
  | x :: y :: l => Region.waitsFor .any ops y x && chainG ops (y :: l)
  | _ => true
theorem chain_waits : ∀ (l : List Nat) (x : Nat), chainG ops (x :: l) = true → ∀ i ∈ l, ∃ p ∈ x :: l, Region.waitsFor .any ops i p = true
  | [], _, _, i, hi => by cases hi
  | y :: l, x, h, i, hi => by
    simp only [chainG, Bool.and_eq_true] at h
    rcases List.mem_cons.1 hi with e | e
    · subst e; exact ⟨x, by simp, h.1⟩
    · obtain ⟨p, hp, hw⟩ := chain_waits l y h.2 i e
      exact ⟨p, List.mem_cons_of_mem _ hp, hw⟩
theorem chain_tail {x : Nat} {l : List Nat} (h : chainG ops (x :: l) = true) : chainG ops l = true := by
  cases l with
  | nil => rfl
  | cons y l => simp only [chainG, Bool.and_eq_true] at h; exact h.2

/-- what the closed fact says of one ghost -/
structure GhostOk (ops : Array Oper) (gh : Nat → Bool) (i : Nat) (o : Oper) : Prop where
  guard : o.guard = none
  far : farFrom ops gh o.dst
  reads : ∀ (j : Nat) (x : Oper) (t : Tmp), ops[j]? = some x → gh j = false → x.dst = some t → t ∈ o.looksAt ops → Region.waitsFor .any ops i j = true
def ghostB (ops : Array Oper) (g : List Nat) : Bool :=
  decide g.Nodup && chainG ops g && g.all fun i => match ops[i]? with
    | none => false
    | some o => o.guard.isNone && (List.range ops.size).all fun j => g.contains j || match ops[j]? with
      | none => true
      | some x => (match o.dst with | some d => !(x.looksAt ops).contains d && x.dst != some d | none => true) && (match x.dst with | some t => !(o.looksAt ops).contains t || Region.waitsFor .any ops i j | none => true)
theorem ghostB_spec {g : List Nat} (h : ghostB ops g = true) : g.Nodup ∧ chainG ops g = true ∧ ∀ i ∈ g, ∃ o, ops[i]? = some o ∧ GhostOk ops (fun j => g.contains j) i o := by
  simp only [ghostB, Bool.and_eq_true, decide_eq_true_eq, List.all_eq_true] at h
  obtain ⟨⟨h1, h2⟩, h3⟩ := h
  refine ⟨h1, h2, fun i hi => ?_⟩
  have h4 := h3 i hi
  cases ho : ops[i]? with
  | none => simp [ho] at h4
  | some o =>
    simp only [ho, Bool.and_eq_true, Option.isNone_iff_eq_none, List.all_eq_true, List.mem_range] at h4
    obtain ⟨h5, h6⟩ := h4
    have key : ∀ (j : Nat) (x : Oper), ops[j]? = some x → g.contains j = false → (∀ d, o.dst = some d → d ∉ x.looksAt ops ∧ x.dst ≠ some d) ∧ (∀ t, x.dst = some t → t ∈ o.looksAt ops → Region.waitsFor .any ops i j = true) := by
      intro j x hj hg
      have h7 := h6 j (Array.getElem?_eq_some_iff.1 hj).1
      simp only [hj, hg, Bool.false_or, Bool.and_eq_true] at h7
      refine ⟨fun d hd => ?_, fun t ht hm => ?_⟩
      · have := h7.1; simp only [hd, Bool.and_eq_true, Bool.not_eq_true', bne_iff_ne, ne_eq] at this
        exact ⟨by simpa using this.1, this.2⟩
      · have := h7.2; simp only [ht, Bool.or_eq_true, Bool.not_eq_true'] at this
        rcases this with h8 | h8
        · have : (o.looksAt ops).contains t = true := by simpa using hm
          rw [h8] at this; cases this
        · exact h8
    exact ⟨o, rfl, h5, fun j x hj hg => ⟨fun d hd => ((key j x hj hg).1 d hd).1, fun d hd => ((key j x hj hg).1 d hd).2⟩, fun j x t hj hg ht hm => (key j x hj hg).2 t ht hm⟩

theorem waits_done {i p : Nat} {o : Oper} {done : Array Bool} (ho : ops[i]? = some o) (hall : ∀ e ∈ o.after, Region.binds .any e = true → done.getD e.on false = true) (h : Region.waitsFor .any ops i p = true) : done.getD p false = true := by
  obtain ⟨o', ho', e, he, hb, hon⟩ := Region.waitsFor_spec h
  rw [ho] at ho'
  cases ho'
  rw [← hon]
  exact hall e he hb

theorem sim {Q : Exit → Act → World → Prop} {aF : Act} {g : List Nat} (hsel : Region.noSelect ops = true) (hok : ∀ i ∈ g, ∃ o, ops[i]? = some o ∧ GhostOk ops (fun j => g.contains j) i o)
    (hext : ∀ w w' : World, C w → Below w.heap.size w w' → C w') :
    ∀ (f : Nat) (done : Array Bool) (a : Act) (w : World) (r : List Nat) (T : Act → Act), done.size = ops.size →
      anyP P ops C (fun j => g.contains j) (fun d' a' => (d'.size = ops.size ∧ Region.ready .any ops d' = [] ∧ ∀ i, i < ops.size → d'.getD i false = true) ∧ a' = aF) f done a →
      (C w ∨ ∀ k, k < ops.size → k ∉ r → done.getD k false = true) → Trans ops (fun j => g.contains j) T → r.Nodup → chainG ops r = true → (∀ i ∈ r, i ∈ g ∧ done.getD i true = false) → (∀ i ∈ g, i ∉ r → done.getD i false = true) →
      (∀ j d, gchain P ops C Q r (T aF) (plus w j d)) → wpAny P .any ops Q f done (T a) w := by
  intro f
  induction f with
  | zero =>
    intro done a w r T hsz hX hC hT hnd hch hr1 hr2 H
    obtain ⟨⟨_, hre, hall⟩, rfl⟩ := hX
    refine ⟨hre, ?_⟩
    cases r with
    | nil => have := H [] w.drawn; rw [plus_nil] at this; exact this
    | cons x r =>
      exfalso
      have h1 := (hr1 x (by simp)).2
      have hlt : x < done.size := by
        rcases Nat.lt_or_ge x done.size with h' | h'
        · exact h'
        · simp [Array.getElem?_eq_none h'] at h1
      have h2 := hall x (by omega)
      rw [both_done h1] at h2
      cases h2
  | succ f ih =>
    intro done a w r T hsz hX hC hT hnd hch hr1 hr2 H
    refine ⟨fun h0 => absurd h0 hX.1, fun i hi => ?_⟩
    obtain ⟨hun, o, ho, hall⟩ := mem_ready.1 hi
    obtain ⟨v, hy, hn⟩ := yields_of ho (hX.2 i hi)
    have hlt : i < done.size := by
      rcases Nat.lt_or_ge i done.size with h' | h'
      · exact h'
      · simp [Array.getElem?_eq_none h'] at hun
    cases hg : g.contains i with
    | false =>
      have epd : pd (fun j => g.contains j) i o = o.dst := by
        show (if g.contains i = true then none else o.dst) = o.dst
        rw [hg]; rfl
      have hir : i ∉ r := fun h => by have := (hr1 i h).1; rw [← List.contains_iff_mem, hg] at this; cases this
      replace hC : C w := hC.resolve_right fun h => by
        have := h i (by omega) hir
        rw [both_done hun] at this; cases this
      have go : ∀ (u : Value) (w' : World), u = v → Below w.heap.size w w' → wpAny P .any ops Q f (done.setIfInBounds i true) ((T a).put o.dst u) w' := by
        intro u w' hu hb
        subst hu
        rw [← hT.put i o u a ho hg]
        refine ih _ _ w' r T (by simp [hsz]) (by rw [epd] at hn; exact hn) (.inl (hext _ _ hC hb)) hT hnd hch (fun x hx => ⟨(hr1 x hx).1, ?_⟩) (fun x hx hxr => getD_set_true (hr2 x hx hxr)) ?_
        · rw [getD_set_ne true (fun e => hir (by rw [e]; exact hx))]; exact (hr1 x hx).2
        · intro j d
          obtain ⟨j', d', rfl⟩ := plus_of_below hb
          rw [plus_plus]
          exact H _ _
      unfold wpOp
      simp only [ho]
      rw [(hT.exec i o a ho hg).2]
      rcases hy with h' | ⟨_, hy⟩
      · have h2 : g.contains i = true := h'
        rw [hg] at h2; cases h2
      · rcases hy with ⟨hw, hq⟩ | ⟨hw, hv⟩
        · rw [if_pos hw]
          refine .inl ?_
          have hq' := hq w hC
          unfold Oper.quietAt at hq'
          unfold Oper.wp
          rw [(hT.exec i o a ho hg).1]
          generalize (execOp a.eval o).run P w = res at hq'
          cases res with
          | ok n w' =>
            cases n <;> simp only [Oper.quietUpon] at hq' <;> simp only [Oper.upon]
            case value u => obtain ⟨e1, e2⟩ := hq'; subst e1; exact go u _ e2 (Below.refl _ _)
            case skip => obtain ⟨e1, e2⟩ := hq'; subst e1; exact go undef _ e2.symm (Below.refl _ _)
            case enter fn args =>
              obtain ⟨e1, hc⟩ := hq'
              subst e1
              exact hc.mono fun e w'' ⟨he, hw''⟩ => by subst he; exact go v _ rfl hw''
          | halt x w' => simp only [Oper.quietUpon] at hq'
        · rw [hw, if_neg (by simp)]
          exact go undef w hv.symm (Below.refl _ _)
    | true =>
      have hig : i ∈ g := by simpa using hg
      have hir : i ∈ r := by
        refine Classical.byContradiction fun h => ?_
        have := hr2 i hig h
        rw [both_done hun] at this
        cases this
      cases r with
      | nil => cases hir
      | cons x r =>
        obtain rfl : i = x := by
          rcases List.mem_cons.1 hir with e | e
          · exact e
          · obtain ⟨p, hp, hw⟩ := chain_waits r x hch i e
            have h1 := waits_done ho hall hw
            rw [both_done (hr1 p hp).2] at h1
            cases h1
        obtain ⟨o', ho', hO⟩ := hok i hig
        rw [ho] at ho'
        cases ho'
        have H0 := H [] w.drawn
        rw [plus_nil] at H0
        obtain ⟨o2, ho2, H1⟩ := H0
        rw [ho] at ho2
        cases ho2
        obtain ⟨hsame, hag⟩ := agree (L := fun d' => d'.size = ops.size ∧ Region.ready .any ops d' = [] ∧ ∀ i, i < ops.size → d'.getD i false = true) _ _ _ hX
        have hex : execOp (T aF).eval o = execOp (T a).eval o := by
          refine execOp_congr o (fun cs b => Region.noSelect_spec hsel i o cs b ho) (fun y hy' => ?_)
          refine hT.same aF a y hsame.symm ?_
          cases y with
          | tmp t =>
            refine (hag t (fun j x' hj hgj hd he => ?_)).symm
            have hl : t ∈ o.looksAt ops := List.mem_append_left _ (List.mem_filterMap.2 ⟨.tmp t, by simpa using hy', rfl⟩)
            have h1 := waits_done ho hall (hO.reads j x' t hj hgj he hl)
            rw [both_done hd] at h1
            cases h1
          | _ => rfl
        have hwant : ∀ b : Act, Region.wanted o (yielded ops b.tmps) = true := fun b => by simp [Region.wanted, hO.guard]
        have hn' : anyP P ops C (fun j => g.contains j) (fun d' a' => (d'.size = ops.size ∧ Region.ready .any ops d' = [] ∧ ∀ i, i < ops.size → d'.getD i false = true) ∧ a' = aF) f (done.setIfInBounds i true) a := by
          have epd : pd (fun j => g.contains j) i o = none := by
            show (if g.contains i = true then none else o.dst) = none
            rw [hg]; rfl
          rw [epd] at hn; exact hn
        have next : ∀ (T' : Act → Act) (w' : World), Trans ops (fun j => g.contains j) T' → ((lastB ops i r = true ∨ C w') ∧ ∀ j d, gchain P ops C Q r (T' aF) (plus w' j d)) → wpAny P .any ops Q f (done.setIfInBounds i true) (T' a) w' := by
          intro T' w' hT' hK
          have hnd' := List.nodup_cons.1 hnd
          have hC' : C w' ∨ ∀ k, k < ops.size → k ∉ r → (done.setIfInBounds i true).getD k false = true := by
            rcases hK.1 with hlast | hC'
            · refine .inr fun k hk hkr => ?_
              by_cases e : i = k
              · subst e; simp [hlt]
              · have h1 := List.all_eq_true.1 hlast k (List.mem_range.2 hk)
                have h2 : Region.waitsFor .any ops i k = true := by
                  simp only [Bool.or_eq_true, beq_iff_eq, List.contains_iff_mem] at h1
                  rcases h1 with (h3 | h3) | h3
                  · exact absurd h3.symm e
                  · exact h3
                  · exact absurd h3 hkr
                exact getD_set_true (waits_done ho hall h2)
            · exact .inl hC'
          refine ih _ _ w' r T' (by simp [hsz]) hn' hC' hT' hnd'.2 (chain_tail hch) (fun y hy' => ⟨(hr1 y (List.mem_cons_of_mem _ hy')).1, ?_⟩) (fun y hy' hyr => ?_) hK.2
          · rw [getD_set_ne true (fun e => hnd'.1 (by rw [e]; exact hy'))]; exact (hr1 y (List.mem_cons_of_mem _ hy')).2
          · by_cases e : i = y
            · subst e; simp [hlt]
            · exact getD_set_true (hr2 y hy' (fun h => (List.mem_cons.1 h).elim (fun h => e h.symm) hyr))
        unfold wpOp
        simp only [ho]
        rw [if_pos (hwant _)]
        unfold wpList at H1
        rw [if_pos (hwant _)] at H1
        rcases H1 with H1 | ⟨H1, H2⟩
        · refine .inl (wp_conv hex (fun u w' hk => ?_) (fun d w' hk => ?_) H1)
          · exact next (fun b => (T b).put o.dst u) w' (hT.then hsel hO.far u) hk
          · exact next (fun b => ({ T b with defers := d :: (T b).defers } : Act).put o.dst undef) w' ((hT.defers d).then hsel hO.far undef) hk
        · exact .inr ⟨asks_conv hex H1, letsOut_g H2⟩

theorem region_ghostC {id : Nat} {Q : Exit → Act → World → Prop} {a : Act} {w : World} {l : List Oper} (C : World → Prop) (hext : ∀ w w' : World, C w → Below w.heap.size w w' → C w') (hC : C w.drew) (g : List Nat) (hm : P.follows .mixedOrders = true) (hB : Region.lexB .any l.toArray = true) (hG : ghostB l.toArray g = true)
    (h : wpPlain P l.toArray C (fun j => g.contains j) (fun aF => ∀ j d, gchain P l.toArray C Q g aF (plus w j d)) l 0 a) : (Code.region id l.toArray true).wp P Q a w := by
  simp only [Region.lexB, Bool.and_eq_true] at hB
  obtain ⟨hnd, hch, hok⟩ := ghostB_spec hG
  obtain ⟨aF, hF, h'⟩ := wpPlain_end l 0 a h
  have hX := anyP_lex (E := fun a' => a' = aF) hB.1 l 0 (Array.replicate l.toArray.size false) a (by simp) (by simp) (fun i hi => by omega) (by simpa using hB.2) h'
  refine wp_region_any hm ?_
  have := sim (Q := Q) (T := fun b => b) hB.1 hok hext l.length _ a w.drew g (by simp) hX (.inl hC) Trans.id hnd hch
    (fun i hi => ⟨hi, ?_⟩) (fun i hi hn => absurd hi hn) (fun j d => by
      have e : w.drew = plus w [] (w.drawn + 1) := by rw [← plus_drew, plus_nil]
      rw [e, plus_plus]; exact hF _ _)
  · simpa using this
  · obtain ⟨o, ho, _⟩ := hok i hi
    have hlt : i < l.length := by have := (Array.getElem?_eq_some_iff.1 ho).1; simpa using this
    simp [hlt]
theorem region_ghost {id : Nat} {Q : Exit → Act → World → Prop} {a : Act} {w : World} {l : List Oper} (g : List Nat) (hm : P.follows .mixedOrders = true) (hB : Region.lexB .any l.toArray = true) (hG : ghostB l.toArray g = true)
    (h : wpPlain P l.toArray (fun w' => ∃ q, w' = plusq w q) (fun j => g.contains j) (fun aF => ∀ j d, gchain P l.toArray (fun w' => ∃ q, w' = plusq w q) Q g aF (plus w j d)) l 0 a) : (Code.region id l.toArray true).wp P Q a w :=
  region_ghostC _ (fun w1 w2 ⟨q, hq⟩ hb => by subst hq; exact later_below hb) (later_start w) g hm hB hG h
/-- the same over a base: what lies above it may have turned -/
theorem region_ghostW {id : Nat} {Q : Exit → Act → World → Prop} {a : Act} {W : World} {j0 : List Obj} {d0 : Nat} {l : List Oper} (g : List Nat) (hm : P.follows .mixedOrders = true) (hB : Region.lexB .any l.toArray = true) (hG : ghostB l.toArray g = true)
    (h : wpPlain P l.toArray (fun w' => ∃ q, w' = plusq W q) (fun j => g.contains j) (fun aF => ∀ j d, gchain P l.toArray (fun w' => ∃ q, w' = plusq W q) Q g aF (plus (plus W j0 d0) j d)) l 0 a) : (Code.region id l.toArray true).wp P Q a (plus W j0 d0) :=
  region_ghostC _ (fun w1 w2 ⟨q, hq⟩ hb => by subst hq; exact later_below hb) ⟨⟨j0, d0 + 1⟩, rfl⟩ g hm hB hG h
end
section
variable {P : Program} {ops : Array Oper} {C : World → Prop} {gh : Nat → Bool} {E : Act → Prop}
theorem wpPlain_nil {k : Nat} {a : Act} (h : E a) : wpPlain P ops C gh E [] k a := h
theorem wpPlain_step {k : Nat} {a : Act} {o : Oper} {rest : List Oper}
    (h : ∀ K : Act → Prop, (∀ a, wpPlain P ops C gh E rest (k + 1) a → K a) → if gh k then K a else if Region.wanted o (yielded ops a.tmps) then plainOp P C o a K else K (a.put o.dst undef)) : wpPlain P ops C gh E (o :: rest) k a :=
  h _ (fun _ h => h)
attribute [go_sem] plainOp
theorem later_of_below {W w' : World} (h : Below W.heap.size W w') : ∃ q, w' = plusq W q := by
  obtain ⟨j, d, rfl⟩ := plus_of_below h
  exact ⟨⟨j, d⟩, rfl⟩
theorem gExit_normal {Q : Exit → Act → World → Prop} {K : Act → World → Prop} {a : Act} {w : World} (h : K a w) : gExit Q K .normal a w := h
theorem gchain_cons {Q : Exit → Act → World → Prop} {i : Nat} {r : List Nat} {a : Act} {w : World} (o : Oper) (ho : ops[i]? = some o)
    (h : wpList P ops (gExit Q fun a' w' => (lastB ops i r = true ∨ C w') ∧ ∀ j d, gchain P ops C Q r a' (plus w' j d)) [o] a w) : gchain P ops C Q (i :: r) a w := ⟨o, ho, h⟩
theorem gchain_nil {Q : Exit → Act → World → Prop} {a : Act} {w : World} (h : Q .normal a w) : gchain P ops C Q [] a w := h
end
end Go.Proofs.YtfghanmcmjgonaaDoor
