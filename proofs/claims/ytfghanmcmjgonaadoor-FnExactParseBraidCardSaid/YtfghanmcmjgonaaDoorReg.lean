/- A region that draws its order, whose operations read or call what only makes new memory, and at whose end stand operations in one forced order (a store): one walk of the text's order serves every order. Conditions: the two closed facts on the region that each theorem asks. -/
import Derived.Test.YtfghanmcmjgonaaDoorKit
import Derived.StillTailTactics
import Derived.Deep.QuietTactic
import Derived.BigQuiet
namespace Go.Proofs.YtfghanmcmjgonaaDoor
open Go.RowKit
set_option linter.unusedVariables false
section
variable {P : Program} {ops : Array Oper} {C : World → Prop}

/-- the head's operations, quiet in the class, in whatever order; L: what holds when they are all done -/
def headAny (P : Program) (ops : Array Oper) (C : World → Prop) (n : Nat) (L : Array Bool → Act → Prop) : Nat → Array Bool → Act → Prop
  | 0, done, a => L done a
  | f + 1, done, a => Region.ready .any ops done ≠ [] ∧ ∀ i ∈ Region.ready .any ops done, i < n ∧ qOp P ops C i (headAny P ops C n L f (done.setIfInBounds i true)) a

theorem any_of_head {n g : Nat} {L : Array Bool → Act → Prop} {Q : Exit → Act → World → Prop} (hL : ∀ done a w, C w → L done a → wpAny P .any ops Q g done a w) :
    ∀ (f : Nat) (done : Array Bool) (a : Act) (w : World), C w → headAny P ops C n L f done a → wpAny P .any ops Q (f + g) done a w := by
  intro f
  induction f with
  | zero => intro done a w hw h; rw [Nat.zero_add]; exact hL _ _ _ hw h
  | succ f ih =>
    intro done a w hw h
    rw [Nat.succ_add]
    refine ⟨fun h0 => absurd h0 h.1, fun i hi => ?_⟩
    exact wpOp_of_qOp hw (fun a' w' hw' h' => ih _ a' w' hw' h') (h.2 i hi).2

theorem head_first {n i : Nat} {oi : Oper} {v : Value} {L : Array Bool → Act → Prop} (hi : ops[i]? = some oi) (hsel : Region.noSelect ops = true)
    (hs : Region.sinkB .any ops n = true) (hc : Region.chainB .any ops n = true) (hn : n < ops.size) (hin : i < n)
    (hend : ∀ done a, L done a → ∀ j ∈ Region.ready .any ops done, n ≤ j) :
    ∀ (f : Nat) (done : Array Bool) (a : Act), HeadInv .any ops n done →
      (∀ j oj, ops[j]? = some oj → j ≠ i → done.getD j true = false → (∀ e ∈ oj.after, Region.binds .any e = true → e.on ≠ i) → oi.apart ops oj = true) →
      i ∈ Region.ready .any ops done → YieldsIn P ops C oi v a →
      headAny P ops C n L f (done.setIfInBounds i true) (a.put oi.dst v) → headAny P ops C n L (f + 1) done a := by
  have sel := Region.noSelect_spec hsel
  intro f
  induction f with
  | zero =>
    intro done a inv _ hr hy H
    have hun := (mem_ready.1 hr).1
    constructor
    · intro h; rw [h] at hr; cases hr
    · intro j hj
      have hjn : j < n := Nat.lt_of_not_le fun h => tail_waits hs hc hn inv _ i rfl hin hun j h hj
      refine ⟨hjn, ?_⟩
      by_cases hji : j = i
      · subst hji; exact hy.qOp hi H
      · have := hend _ _ H j (ready_mono hj hji)
        omega
  | succ f ih =>
    intro done a inv hfree hr hy H
    have hun := (mem_ready.1 hr).1
    constructor
    · intro h; rw [h] at hr; cases hr
    · intro j hj
      have hjn : j < n := Nat.lt_of_not_le fun h => tail_waits hs hc hn inv _ i rfl hin hun j h hj
      refine ⟨hjn, ?_⟩
      by_cases hji : j = i
      · subst hji; exact hy.qOp hi H
      · obtain ⟨hjun, oj, hoj, hall⟩ := mem_ready.1 hj
        have hno : ∀ e ∈ oj.after, Region.binds .any e = true → e.on ≠ i := by
          intro e he hb heq
          have h1 := hall e he hb
          rw [heq, getD_both hun] at h1
          cases h1
        have h2 := qOp_put hoj (hfree j oj hoj hji hjun hno) (fun cs b => sel i oi cs b hi) (fun cs b => sel j oj cs b hoj) hy (H.2 j (ready_mono hj hji)).2
        refine qOp_mono (fun a' h3 => ?_) h2
        refine ih (done.setIfInBounds j true) a' (inv.set hj hjn) ?_ (ready_mono hr (Ne.symm hji)) h3.1 ?_
        · intro k ok hk hki hun' hno'
          refine hfree k ok hk hki ?_ hno'
          by_cases hjk : j = k
          · subst hjk; exact hjun
          · rw [getD_set_ne true hjk] at hun'; exact hun'
        · rw [Array.setIfInBounds_comm _ _ hji]
          exact h3.2

theorem head_lex {n g : Nat} {E : Act → Prop} (hsel : Region.noSelect ops = true) (hs : Region.sinkB .any ops n = true) (hc : Region.chainB .any ops n = true) (hn : n < ops.size) :
    ∀ (l : List Oper) (k : Nat) (done : Array Bool) (a : Act), (∀ j, j < l.length → l[j]? = ops[k + j]?) → k + l.length = n → HeadInv .any ops n done →
      Region.lexHead .any ops g l.length k done = true → wpQuiet P ops C E l a →
      headAny P ops C n (fun done' a' => Region.seqB .any ops g n done' = true ∧ E a') l.length done a := by
  intro l
  induction l with
  | nil =>
    intro k done a _ hk _ hB h
    obtain rfl : k = n := by simpa using hk
    exact ⟨by simpa [Region.lexHead] using hB, h⟩
  | cons o l ih =>
    intro k done a hl hk inv hB h
    have h0 : ops[k]? = some o := by simpa using (hl 0 (by simp)).symm
    simp only [List.length_cons, Region.lexHead, Bool.and_eq_true] at hB
    obtain ⟨⟨hr, hf⟩, hB'⟩ := hB
    simp only [List.length_cons] at hk
    have hr' : k ∈ Region.ready .any ops done := by simpa using hr
    have hq : qOp P ops C k (wpQuiet P ops C E l) a := by unfold qOp; simp only [h0]; exact h
    obtain ⟨v, hy, hK⟩ := yieldsIn_of_qOp h0 hq
    refine head_first h0 hsel hs hc hn (by omega) (fun done' a' hL => seqB_ready hL.1) l.length done a inv (Region.free_spec h0 hf) hr' hy ?_
    refine ih (k + 1) _ _ (fun j hj => ?_) (by omega) (inv.set hr' (by omega)) hB' hK
    have := hl (j + 1) (by simp; omega)
    simpa [Nat.add_assoc, Nat.add_comm 1 j] using this

theorem region_quiet_tail {id : Nat} {Q : Exit → Act → World → Prop} {a : Act} {w : World} {l : List Oper} (n : Nat) (hm : P.follows .mixedOrders = true) (hB : Region.lexTailB .any l.toArray n = true) (hC : C w.drew)
    (h : wpQuiet P l.toArray C (fun a' => ∀ w', C w' → wpList P l.toArray Q (l.drop n) a' w') (l.take n) a) : (Code.region id l.toArray true).wp P Q a w := by
  simp only [Region.lexTailB, Bool.and_eq_true, decide_eq_true_eq] at hB
  obtain ⟨⟨⟨⟨hsel, hn⟩, hs⟩, hc⟩, hlex⟩ := hB
  have hn' : n < l.length := by simpa using hn
  have htl : (l.take n).length = n := by simp; omega
  have hdl : (l.drop n).length = l.toArray.size - n := by simp
  have inv0 : HeadInv .any l.toArray n (Array.replicate l.toArray.size false) :=
    ⟨by simp, fun j oj _ hl => (by rw [getD_replicate_false] at hl; cases hl), fun t _ ht => getD_in (by simpa using ht) (getD_replicate_false _ _)⟩
  have H := head_lex (P := P) (C := C) (g := l.toArray.size - n) hsel hs hc hn (l.take n) 0 _ a (fun j hj => by rw [htl] at hj; simp [hj]) (by simpa using htl) inv0 (by rw [htl]; exact hlex) h
  refine wp_region_any hm ?_
  have := any_of_head (Q := Q) (g := l.toArray.size - n) (fun done a' w' hw' hL => by
    have := wpAny_of_seq (md := .any) (Q' := Q) (l.drop n) n done a' w' (fun j => by simp [List.getElem?_drop]) (by rw [hdl]; exact hL.1) (hL.2 w' hw')
    rwa [hdl] at this) _ _ _ _ hC H
  rw [htl, show n + (l.toArray.size - n) = l.toArray.size by omega] at this
  exact this
end

/-- the worlds that are W with further blocks -/
structure Later where
  j : List Obj
  d : Nat
instance : Inhabited Later := ⟨⟨[], 0⟩⟩
def plusq (w : World) (q : Later) : World := plus w q.j q.d
theorem plusq_eq (w : World) (q : Later) : plusq w q = plus w q.j q.d := rfl
theorem plusq_cell (w : World) (q : Later) (b o : Nat) (h : b < w.heap.size) : (plusq w q).cell? ⟨b, o, none⟩ = w.cell? ⟨b, o, none⟩ := plus_cell w _ _ b o h
theorem plusq_frozen (w : World) (q : Later) (b o : Nat) (h : b < w.heap.size) : (plusq w q).frozen? ⟨b, o, none⟩ = w.frozen? ⟨b, o, none⟩ := plus_frozen w _ _ b o h
attribute [go_sem] plusq_cell plusq_frozen
theorem later_start (W : World) : ∃ q, W.drew = plusq W q := ⟨⟨[], W.drawn + 1⟩, by rw [plusq_eq, ← plus_drew, plus_nil]⟩
theorem later_below {W w' : World} {q : Later} (h : Below (plusq W q).heap.size (plusq W q) w') : ∃ q', w' = plusq W q' := by
  obtain ⟨j', d', rfl⟩ := plus_of_below h
  exact ⟨⟨q.j ++ j', d'⟩, by rw [plusq_eq, plusq_eq, plus_plus]⟩

theorem region_plus_tail {P : Program} {id : Nat} {Q : Exit → Act → World → Prop} {a : Act} {w : World} {l : List Oper} (n : Nat) (hm : P.follows .mixedOrders = true) (hB : Region.lexTailB .any l.toArray n = true)
    (h : wpQuiet P l.toArray (fun w' => ∃ q, w' = plusq w q) (fun a' => ∀ w', (∃ q, w' = plusq w q) → wpList P l.toArray Q (l.drop n) a' w') (l.take n) a) : (Code.region id l.toArray true).wp P Q a w :=
  region_quiet_tail (C := fun w' => ∃ q, w' = plusq w q) n hm hB (later_start w) h
theorem region_plus {P : Program} {id : Nat} {Q : Exit → Act → World → Prop} {a : Act} {w : World} {l : List Oper} (hm : P.follows .mixedOrders = true) (hB : Region.lexB .any l.toArray = true)
    (h : wpQuiet P l.toArray (fun w' => ∃ q, w' = plusq w q) (fun a' => ∀ w', (∃ q, w' = plusq w q) → Q .normal a' w') l a) : (Code.region id l.toArray true).wp P Q a w :=
  wp_region_quiet (C := fun w' => ∃ q, w' = plusq w q) hm hB (later_start w) (by simpa using h)
/-- a call in such a region -/
theorem calls_plus {P : Program} {f : FuncId} {args : Array Value} {W : World} {q : Later} {v : Value}
    (h : Calls P f args (plusq W q) fun e w' => e = .returned v ∧ Below (plusq W q).heap.size (plusq W q) w') : Calls P f args (plusq W q) fun e w'' => e = .returned v ∧ ∃ q', w'' = plusq W q' :=
  h.mono fun _ _ ⟨he, hb⟩ => ⟨he, later_below hb⟩
theorem calls_plus0 {P : Program} {f : FuncId} {args : Array Value} {W : World} {q : Later} {v : Value}
    (h : Calls P f args (plusq W q) fun e w' => e = .returned v ∧ plusq W q = w') : Calls P f args (plusq W q) fun e w'' => e = .returned v ∧ ∃ q', w'' = plusq W q' :=
  h.mono fun _ _ ⟨he, hb⟩ => ⟨he, q, hb.symm⟩
end Go.Proofs.YtfghanmcmjgonaaDoor
