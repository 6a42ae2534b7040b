/- A region that draws its order, in which some operations make memory or write into it, one behind the other ('ghosts'), and all others read, reckon or call what only makes new memory: one walk of the others, then one of the ghosts, serves every order. Conditions: the closed facts on the region that the theorem asks. -/
import Derived.Test.YtfghanmcmjgonaaDoorReg
namespace Go.Proofs.YtfghanmcmjgonaaDoor
open Go.RowKit
set_option linter.unusedVariables false
section
variable {P : Program} {ops : Array Oper} {C : World → Prop} {gh : Nat → Bool}

/-- one value in every world of the class; all that was there stays -/
def plainOp (P : Program) (C : World → Prop) (o : Oper) (a : Act) (next : Act → Prop) : Prop :=
  ∃ v, (∀ w, C w → o.quietAt P a (fun w'' => Below w.heap.size w w'') w v) ∧ next (a.put o.dst v)
/-- the walk of the operations that are no ghosts, in the text's order -/
def wpPlain (P : Program) (ops : Array Oper) (C : World → Prop) (gh : Nat → Bool) (E : Act → Prop) : List Oper → Nat → Act → Prop
  | [], _, a => E a
  | o :: l, k, a => if gh k then wpPlain P ops C gh E l (k + 1) a else if Region.wanted o (yielded ops a.tmps) then plainOp P C o a (wpPlain P ops C gh E l (k + 1)) else wpPlain P ops C gh E l (k + 1) (a.put o.dst undef)
def pOp (P : Program) (ops : Array Oper) (C : World → Prop) (gh : Nat → Bool) (i : Nat) (K : Act → Prop) (a : Act) : Prop :=
  match ops[i]? with
  | none => K a
  | some o => if gh i then K a else if Region.wanted o (yielded ops a.tmps) then plainOp P C o a K else K (a.put o.dst undef)
def YieldsP (P : Program) (ops : Array Oper) (C : World → Prop) (gh : Nat → Bool) (i : Nat) (o : Oper) (v : Value) (a : Act) : Prop :=
  gh i = true ∨ (gh i = false ∧ ((Region.wanted o (yielded ops a.tmps) = true ∧ ∀ w, C w → o.quietAt P a (fun w'' => Below w.heap.size w w'') w v) ∨ (Region.wanted o (yielded ops a.tmps) = false ∧ v = undef)))
def pd (gh : Nat → Bool) (i : Nat) (o : Oper) : Option Tmp := if gh i then none else o.dst

theorem plainOp_mono {o : Oper} {a : Act} {K K' : Act → Prop} (h : ∀ a, K a → K' a) (hh : plainOp P C o a K) : plainOp P C o a K' :=
  let ⟨v, h1, h2⟩ := hh
  ⟨v, h1, h _ h2⟩
theorem pOp_mono {i : Nat} {a : Act} {K K' : Act → Prop} (h : ∀ a, K a → K' a) (hh : pOp P ops C gh i K a) : pOp P ops C gh i K' a := by
  unfold pOp at *
  cases ho : ops[i]? with
  | none => simp only [ho] at hh; exact h _ hh
  | some o =>
    simp only [ho] at hh ⊢
    split
    · rename_i hg; simp only [hg, if_true] at hh; exact h _ hh
    · rename_i hg
      simp only [hg] at hh
      split
      · rename_i hw; simp only [hw, if_true] at hh; exact plainOp_mono h hh
      · rename_i hw; simp only [hw] at hh; exact h _ hh
theorem pOp_of {i : Nat} {o : Oper} {v : Value} {a : Act} {K : Act → Prop} (hi : ops[i]? = some o) (hy : YieldsP P ops C gh i o v a) (h : K (a.put (pd gh i o) v)) : pOp P ops C gh i K a := by
  unfold pOp
  simp only [hi]
  rcases hy with hg | ⟨hg, hy⟩
  · simp only [hg, if_true]; simpa [pd, hg, Act.put] using h
  · simp only [hg, pd, Bool.false_eq_true, if_false] at h ⊢
    rcases hy with ⟨hw, hv⟩ | ⟨hw, rfl⟩
    · simp only [hw, if_true]; exact ⟨v, hv, h⟩
    · simp only [hw, Bool.false_eq_true, if_false]; exact h
theorem yields_of {i : Nat} {o : Oper} {a : Act} {K : Act → Prop} (hi : ops[i]? = some o) (h : pOp P ops C gh i K a) : ∃ v, YieldsP P ops C gh i o v a ∧ K (a.put (pd gh i o) v) := by
  unfold pOp at h
  simp only [hi] at h
  cases hg : gh i with
  | true => simp only [hg, if_true] at h; exact ⟨undef, .inl hg, by simpa [pd, hg, Act.put] using h⟩
  | false =>
    simp only [hg, Bool.false_eq_true, if_false] at h
    by_cases hw : Region.wanted o (yielded ops a.tmps) = true
    · simp only [hw, if_true] at h
      obtain ⟨v, h1, h2⟩ := h
      exact ⟨v, .inr ⟨hg, .inl ⟨hw, h1⟩⟩, by simpa [pd, hg] using h2⟩
    · simp only [hw] at h
      exact ⟨undef, .inr ⟨hg, .inr ⟨by simpa using hw, rfl⟩⟩, by simpa [pd, hg] using h⟩

theorem pd_looks {i : Nat} {o x : Oper} (h : ∀ d, o.dst = some d → d ∉ x.looksAt ops) : ∀ d, pd gh i o = some d → d ∉ x.looksAt ops := by
  intro d hd
  unfold pd at hd
  split at hd
  · cases hd
  · exact h d hd
theorem pd_dst {i j : Nat} {o x : Oper} (h : ∀ d, o.dst = some d → x.dst ≠ some d) : ∀ d, pd gh i o = some d → pd gh j x ≠ some d := by
  intro d hd
  unfold pd at hd ⊢
  split at hd
  · cases hd
  · split
    · intro e; cases e
    · exact h d hd
theorem yields_put {i : Nat} {o : Oper} {v : Value} {a : Act} (hs : ∀ cs b, o.op ≠ .select cs b) {x : Option Tmp} {u : Value} (h : ∀ d, x = some d → d ∉ o.looksAt ops)
    (hy : YieldsP P ops C gh i o v a) : YieldsP P ops C gh i o v (a.put x u) := by
  rcases hy with hg | ⟨hg, hy⟩
  · exact .inl hg
  · refine .inr ⟨hg, ?_⟩
    rw [wanted_put o a x u h]
    unfold Oper.quietAt
    rw [execOp_put o hs a x u h]
    exact hy

theorem pOp_put {i j : Nat} {oi oj : Oper} {v : Value} (hj : ops[j]? = some oj) (hap : oi.apart ops oj = true)
    (hsi : ∀ cs b, oi.op ≠ .select cs b) (hsj : ∀ cs b, oj.op ≠ .select cs b) {K : Act → Prop} {a : Act}
    (hy : YieldsP P ops C gh i oi v a) (h : pOp P ops C gh j K (a.put (pd gh i oi) v)) :
    pOp P ops C gh j (fun a' => YieldsP P ops C gh i oi v a' ∧ K (a'.put (pd gh i oi) v)) a := by
  obtain ⟨h1, h2, h3⟩ := Oper.apart_spec hap
  obtain ⟨u, hu, hk⟩ := yields_of hj h
  have hu' : YieldsP P ops C gh j oj u a := by
    rcases hu with hg | ⟨hg, hy'⟩
    · exact .inl hg
    · refine .inr ⟨hg, ?_⟩
      rw [wanted_put oj a _ v (pd_looks h1)] at hy'
      unfold Oper.quietAt at hy'
      rw [execOp_put oj hsj a _ v (pd_looks h1)] at hy'
      exact hy'
  refine pOp_of hj hu' ⟨yields_put hsi (pd_looks h3) hy, ?_⟩
  rw [← Act.put_comm a v u (pd_dst h2)]
  exact hk

/-- the others in whatever order, the ghosts passed over -/
def anyP (P : Program) (ops : Array Oper) (C : World → Prop) (gh : Nat → Bool) (L : Array Bool → Act → Prop) : Nat → Array Bool → Act → Prop
  | 0, done, a => L done a
  | f + 1, done, a => Region.ready .any ops done ≠ [] ∧ ∀ i ∈ Region.ready .any ops done, pOp P ops C gh i (anyP P ops C gh L f (done.setIfInBounds i true)) a

theorem both_done {done : Array Bool} {i : Nat} (h : done.getD i true = false) : done.getD i false = false := getD_both h

theorem anyP_first {i : Nat} {oi : Oper} {v : Value} {L : Array Bool → Act → Prop} (hi : ops[i]? = some oi) (hsel : Region.noSelect ops = true) (hend : ∀ done a, L done a → Region.ready .any ops done = []) :
    ∀ (f : Nat) (done : Array Bool) (a : Act),
      (∀ j oj, ops[j]? = some oj → j ≠ i → done.getD j true = false → (∀ e ∈ oj.after, Region.binds .any e = true → e.on ≠ i) → oi.apart ops oj = true) →
      i ∈ Region.ready .any ops done → YieldsP P ops C gh i oi v a →
      anyP P ops C gh L f (done.setIfInBounds i true) (a.put (pd gh i oi) v) → anyP P ops C gh L (f + 1) done a := by
  have sel := Region.noSelect_spec hsel
  intro f
  induction f with
  | zero =>
    intro done a _ hr hy H
    constructor
    · intro h; rw [h] at hr; cases hr
    · intro j hj
      by_cases hji : j = i
      · subst hji; exact pOp_of hi hy H
      · have := ready_mono hj hji
        rw [hend _ _ H] at this
        cases this
  | succ f ih =>
    intro done a hfree hr hy H
    constructor
    · intro h; rw [h] at hr; cases hr
    · intro j hj
      by_cases hji : j = i
      · subst hji; exact pOp_of hi hy H
      · obtain ⟨hjun, oj, hoj, hall⟩ := mem_ready.1 hj
        have hun := (mem_ready.1 hr).1
        have hno : ∀ e ∈ oj.after, Region.binds .any e = true → e.on ≠ i := by
          intro e he hb heq
          have h1 := hall e he hb
          rw [heq, both_done hun] at h1
          cases h1
        have h2 := pOp_put hoj (hfree j oj hoj hji hjun hno) (fun cs b => sel i oi cs b hi) (fun cs b => sel j oj cs b hoj) hy (H.2 j (ready_mono hj hji))
        refine pOp_mono (fun a' h3 => ?_) h2
        refine ih (done.setIfInBounds j true) a' ?_ (ready_mono hr (Ne.symm hji)) h3.1 ?_
        · intro k ok hk hki hun' hno'
          refine hfree k ok hk hki ?_ hno'
          by_cases hjk : j = k
          · subst hjk; exact hjun
          · rw [getD_set_ne true hjk] at hun'; exact hun'
        · rw [Array.setIfInBounds_comm _ _ hji]
          exact h3.2

theorem anyP_lex {E : Act → Prop} (hsel : Region.noSelect ops = true) : ∀ (l : List Oper) (k : Nat) (done : Array Bool) (a : Act), (∀ j, l[j]? = ops[k + j]?) → done.size = ops.size → (∀ i, i < k → done.getD i false = true) →
    Region.lexFrom .any ops l.length k done = true → wpPlain P ops C gh E l k a →
    anyP P ops C gh (fun done' a' => (done'.size = ops.size ∧ Region.ready .any ops done' = [] ∧ ∀ i, i < ops.size → done'.getD i false = true) ∧ E a') l.length done a := by
  intro l
  induction l with
  | nil =>
    intro k done a hl hsz hin hB h
    refine ⟨⟨hsz, by simpa [Region.lexFrom] using hB, fun i hi => hin i ?_⟩, h⟩
    rcases Nat.lt_or_ge i k with h' | h'
    · exact h'
    · have := hl (i - k)
      rw [show k + (i - k) = i by omega, Array.getElem?_eq_getElem hi] at this
      simp at this
  | cons o l ih =>
    intro k done a hl hsz hin hB h
    have h0 : ops[k]? = some o := by simpa using (hl 0).symm
    have hk : k < ops.size := (Array.getElem?_eq_some_iff.1 h0).1
    simp only [List.length_cons, Region.lexFrom, Bool.and_eq_true] at hB
    obtain ⟨⟨hr, hf⟩, hB'⟩ := hB
    have hr' : k ∈ Region.ready .any ops done := by simpa using hr
    have hq : pOp P ops C gh k (wpPlain P ops C gh E l (k + 1)) a := by unfold pOp; simp only [h0]; exact h
    obtain ⟨v, hy, hK⟩ := yields_of h0 hq
    refine anyP_first h0 hsel (fun done' a' hL => hL.1.2.1) l.length done a (Region.free_spec h0 hf) hr' hy ?_
    refine ih (k + 1) _ _ (fun j => ?_) (by simp [hsz]) (fun i hi => ?_) hB' hK
    · have := hl (j + 1)
      simpa [Nat.add_assoc, Nat.add_comm 1 j] using this
    · by_cases e : i = k
      · subst e; simp [hsz, hk]
      · exact getD_set_true (hin i (by omega))

/-- the walk ends in one frame -/
theorem wpPlain_end {E : Act → Prop} : ∀ (l : List Oper) (k : Nat) (a : Act), wpPlain P ops C gh E l k a → ∃ aF, E aF ∧ wpPlain P ops C gh (fun a' => a' = aF) l k a := by
  intro l
  induction l with
  | nil => intro k a h; exact ⟨a, h, rfl⟩
  | cons o l ih =>
    intro k a h
    unfold wpPlain at h
    split at h
    · rename_i hg
      obtain ⟨aF, h1, h2⟩ := ih _ _ h
      exact ⟨aF, h1, by unfold wpPlain; rw [if_pos hg]; exact h2⟩
    · rename_i hg
      split at h
      · rename_i hw
        obtain ⟨v, hv, h⟩ := h
        obtain ⟨aF, h1, h2⟩ := ih _ _ h
        exact ⟨aF, h1, by unfold wpPlain; rw [if_neg hg, if_pos hw]; exact ⟨v, hv, h2⟩⟩
      · rename_i hw
        obtain ⟨aF, h1, h2⟩ := ih _ _ h
        exact ⟨aF, h1, by unfold wpPlain; rw [if_neg hg, if_neg hw]; exact h2⟩
end
end Go.Proofs.YtfghanmcmjgonaaDoor
