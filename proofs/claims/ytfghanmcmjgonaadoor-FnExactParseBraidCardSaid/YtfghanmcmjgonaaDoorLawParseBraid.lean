/- FnExactParseBraid: for every argument the call answers true, and each argument reads behind the call as it read before. Conditions: those of the given statement alone. -/
import Derived.Test.YtfghanmcmjgonaaDoorRows
import Derived.Test.YtfghanmcmjgonaaDoorHi
import Derived.Test.YtfghanmcmjgonaaDoorRk
import Derived.ProofKit
import Derived.OpenShut
import Derived.ShutString
import Derived.ChangeOld
import Derived.SizedLaws
import Derived.LaidMore
import Derived.Lay
import Derived.Stop.Joined
import Derived.Lib.LaidTab
import Derived.Stop.LaidErr
import Derived.SevenTiedAt
import Derived.Test.YtfghanmcmjgonaaDoorCards
import Derived.Test.YtfghanmcmjgonaaDoorTie
namespace Go.Proofs.YtfghanmcmjgonaaDoor.fnExactParseBraid
open Go.ChangeShapes Go.WideShapes Go.ChangeAt Go.RowKit
open Go.ChangeMaps (open_string shut_string)
set_option linter.unusedVariables false
set_option linter.unusedSimpArgs false
theorem own : ownKnob Tryd.prog.godebug = none := by kernel_rfl
theorem laidOut : laidOutB Tryd.prog = true := by kernel_rfl
theorem pow_laid {W : World} (h : laidMet Tryd.prog Rows.fnExactParseBraidRow.laid W) : PowTab W := by
  have h2 := (show laidMet Tryd.prog ((Tryd.nameOfinternal_strconv_uint64pow10, Rows.laid_internal_strconv_uint64pow10) :: Rows.fnExactParseBraidRow.laid.drop 3) W from h.tail.tail)
  rw [show (Rows.laid_internal_strconv_uint64pow10 : DataW Unit) = Lib.tabData .u64 Lib.pow10Tab by kernel_rfl] at h2
  exact Lib.tabIs_of_head (g := 5) (t := 93) (e := 53) (n := 20) (by kernel_rfl) (by kernel_rfl) Tryd.underlying93 Tryd.underlying53 (by kernel_rfl) (by kernel_rfl) h2
def errNm : String := match (Rows.laid_strconv_ErrSyntax : DataW Unit) with
  | .iface n _ => n
  | _ => default
theorem row_err (u : TypeId) (h : Tryd.prog.typeName? 3 u = some errNm) : u = 80 :=
  typeName_ptr_named (nm := "errors.errorString") (by kernel_rfl) (by kernel_rfl) (by decide) u (h.trans (congrArg some (by kernel_rfl)))
theorem of_laid {W : World} (h0 : laidMetH Tryd.prog Rows.fnExactParseBraidRow.laid W) (hs : W.ShapedOpen Tryd.prog) : Door W := by
  rw [MakeChecks.laidMetH_plain _ _ _ (by kernel_rfl)] at h0
  have h := h0
  refine ⟨pow_laid h, Tryd.laysM146.s1_3 W hs, ?_, ?_⟩
  · obtain ⟨a, s, hv, _⟩ := laid_sentinel (show laidMet Tryd.prog ((Tryd.nameOfstrconv_ErrSyntax, Rows.laid_strconv_ErrSyntax) :: Rows.fnExactParseBraidRow.laid.drop 6) W from h.tail.tail.tail.tail.tail) (g := 1) (ti := 35) (by kernel_rfl) (by kernel_rfl) Tryd.underlying35 row_err Tryd.underlying80 Tryd.underlying82 rfl rfl Tryd.underlying9 (by kernel_rfl) (by kernel_rfl)
    exact ⟨_, _, hv⟩
  · obtain ⟨a, s, hv, _⟩ := laid_sentinel (show laidMet Tryd.prog ((Tryd.nameOfstrconv_ErrRange, Rows.laid_strconv_ErrRange) :: Rows.fnExactParseBraidRow.laid.drop 5) W from h.tail.tail.tail.tail) (g := 2) (ti := 35) (by kernel_rfl) (by kernel_rfl) Tryd.underlying35 row_err Tryd.underlying80 Tryd.underlying82 rfl rfl Tryd.underlying9 (by kernel_rfl) (by kernel_rfl)
    exact ⟨_, _, hv⟩
set_option maxRecDepth 100000 in
theorem lifted (os : Os) (started : os.Started) (H : Type) (enc : TypeId × Value → H) :
    ReturnsInHanded {} Tryd.checked os 3 .any (fun w args => (Rows.fnExactParseBraidSpec.pre enc Tryd.prog Tryd.f3 Rows.fnExactParseBraidRow.domain false w args ∧ laidMetH Tryd.prog Rows.fnExactParseBraidRow.laid w) ∧ sizedMet enc Tryd.prog Tryd.f3 (OpenSpec.ofChange Rows.fnExactParseBraidSpec) false w args) (Rows.fnExactParseBraidSpec.post enc Tryd.prog Tryd.f3 false true false false) := by
  refine returnsInHanded_of_calls own started (by kernel_rfl)
    (ChangeSpec.witness_shaped (enc := enc) (C := Tryd.checked) (os := os) (X := fun w _ => laidMetH Tryd.prog Rows.fnExactParseBraidRow.laid w) false (World.laidAll Tryd.prog os Rows.fnExactParseBraidRow.laid) #[.string ByteArray.empty] 8 (World.laidAll_os _ _ _)
      (World.shaped_of_ZipB (by kernel_rfl) (by kernel_rfl)) (by kernel_rfl) (by kernel_rfl) (by kernel_rfl)
      (by rw [MakeChecks.laidMetH_plain _ _ _ (by kernel_rfl)]; exact laidMet_laidAll _ (by kernel_rfl) (by kernel_rfl))) ?_
  intro w0 tape i _ hsh _ hok hpre _
  obtain ⟨_, _, _, fn', hfn', _, _, _, _, hval1⟩ := hok
  obtain rfl : fn' = Tryd.f3 := Option.some.inj (hfn'.symm.trans Tryd.func3)
  obtain ⟨⟨⟨ds, gs, before, hw0, hcnd⟩, hx⟩, hz⟩ := hpre
  have hW := DataW.Whole.of_heap (w' := w0.forCall tape i) (by rfl) hw0
  have hL : laidMetH Tryd.prog Rows.fnExactParseBraidRow.laid (w0.forCall tape i) := hx.of_heap (by rfl)
  have ht := of_laid hL hsh
  suffices hgo : Calls Tryd.prog 3 i.args (w0.forCall tape i) fun e W' => ∃ v, e = .returned v ∧ Rows.fnExactParseBraidSpec.post enc Tryd.prog Tryd.f3 false true false false (w0.forCall tape i) i.args v W' from
    hgo.mono fun e W' ⟨v, he, hp⟩ => (by subst he; exact ChangeSpec.post_blind hp)
  clear hx hz hL hsh hw0
  generalize hWW : w0.forCall tape i = W at *
  generalize hbb : w0.heap.size = base at *
  generalize i.args = args at *
  have hval0 : ∀ (j : Nat) t v, Tryd.f3.params[j]? = some t → args[j]? = some v → Value.okWide Tryd.prog W .any base t v := hval1
  clear hval1
  have hval : ∀ (j : Nat) t v, Tryd.f3.params[j]? = some t → args[j]? = some v → Value.okWide Tryd.prog W .any base t v := hval0
  have hW' := hW
  obtain ⟨p, q, hA0, hV, rfl, hfz, hnd⟩ := hW
  have hA : DataW.TrodAll enc Tryd.prog W 0 (fun _ => true) true Tryd.f3.params.toList args.toList ds p := hA0
  rw [Tryd.params3] at hA hval
  obtain ⟨v0, vs0, d0, ds0, p0, q0, hargs, rfl, rfl, h0, r0⟩ := trodAll_cons hA
  obtain ⟨rfl, rfl, rfl⟩ := trodAll_nil r0
  obtain rfl : args = #[v0] := by cases args; simp_all
  obtain ⟨rfl, rfl⟩ := trodVars_none hV
  obtain ⟨s0, rfl, rfl, rfl, w0⟩ := open_string Tryd.underlying9 (hval 0 9 v0 rfl rfl) h0
  clear hA0 hval0
  refine (law_ParseBraid s0 W  ht).mono fun e W' ⟨he, bel⟩ => ?_
  subst he
  exact ⟨_, rfl, _, _, _, [], _, [], hW', trodAll_mk1 (shut_bool Tryd.underlying4 _), (trodAll_cons_mk (shut_string Tryd.underlying9 w0) trodAll_mk0), rfl, bel.frame _, fun h => by cases h⟩
theorem over : Rows.fnExactParseBraidRow.holds Tryd.pinned (OpenSpec.ofChange Rows.fnExactParseBraidSpec) :=
  OpenClaim.holds_of_wide 3 Tryd.f3 rfl rfl rfl rfl rfl rfl rfl ⟨rfl, rfl, rfl, rfl, rfl⟩ rfl rfl rfl rfl rfl (by kernel_rfl) Tryd.func3 (by kernel_rfl)
    (of_decide_eq_true (by kernel_rfl)) (by unfold Func.isWrapper; first | (rw [if_pos (by decide +kernel)]; kernel_rfl) | (rw [if_neg (by decide +kernel)]; exact ⟨rfl, rfl⟩))
    (fun os started H enc _ => lifted os started H enc)
theorem proved : Rows.FnExactParseBraidCardSaid :=
  Claim7.holds_tied_plain_at .later [] [.data, .data, .data, .data, .sentinel, .sentinel, .pinned] true (true, "8a3e05d2dd42cbbbbf3935231144f6bb27ce0be5454d25b88c1c19b28d289faa") true
    over (fun _ h => by cases h) (by kernel_rfl) (fun _ h => by cases h) fnExactParseBraid_row_tie rfl ⟨rfl, rfl⟩ (by kernel_rfl) rfl
    (fun f fn hf hfn => by
      obtain rfl : f = 3 := Option.some.inj ((show Tryd.prog.funcNamed Rows.fnExactParseBraidRow.func = some 3 by kernel_rfl).symm.trans hf) |>.symm
      obtain rfl : fn = Tryd.f3 := (Option.some.inj (Tryd.func3.symm.trans hfn)).symm
      exact ⟨by kernel_rfl, fun j t ht => by
        rw [Tryd.params3] at ht
        have hm : t ∈ [9] := by simpa using Array.mem_of_getElem? ht
        have hall : ([9].all fun u => !Tryd.prog.wantsStandIn u) = true := by kernel_rfl
        exact (show Tryd.prog.wantsStandIn t = false by simpa using List.all_eq_true.1 hall t hm)⟩)
    (by kernel_rfl)
end Go.Proofs.YtfghanmcmjgonaaDoor.fnExactParseBraid
namespace Go.Proofs.YtfghanmcmjgonaaDoor
/-- The card, under a short name, for the claim. -/
theorem fnExactParseBraid_holds : Rows.FnExactParseBraidCardSaid := fnExactParseBraid.proved
#print axioms fnExactParseBraid_holds
end Go.Proofs.YtfghanmcmjgonaaDoor
