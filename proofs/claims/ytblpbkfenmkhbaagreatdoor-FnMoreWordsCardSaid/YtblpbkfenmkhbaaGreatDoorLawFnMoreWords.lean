/- FnMoreWords: for every argument the call answers true, and each argument reads behind the call as it read before. Conditions: those of the given statement alone. -/
import Derived.Test.YtblpbkfenmkhbaaGreatDoorRows
import Derived.Test.YtblpbkfenmkhbaaGreatDoorQj
import Derived.Test.YtblpbkfenmkhbaaGreatDoorOc
import Derived.ProofKit
import Derived.OpenShut
import Derived.ShutString
import Derived.ChangeOld
import Derived.SizedLaws
import Derived.LaidMore
import Derived.Lay
import Derived.Stop.Joined
import Derived.Lib.LaidTab
import Derived.Stop.LaidErr
import Derived.SevenTiedAt
import Derived.Test.YtblpbkfenmkhbaaGreatDoorCards
import Derived.Test.YtblpbkfenmkhbaaGreatDoorTie
namespace Go.Proofs.YtblpbkfenmkhbaaGreatDoor.fnMoreWords
open Go.ChangeShapes Go.WideShapes Go.ChangeAt Go.RowKit
open Go.ChangeMaps (open_string shut_string)
set_option linter.unusedVariables false
set_option linter.unusedSimpArgs false
theorem own : ownKnob Tryz.prog.godebug = none := by kernel_rfl
theorem laidOut : laidOutB Tryz.prog = true := by kernel_rfl
theorem pow_laid {W : World} (h : laidMet Tryz.prog Rows.fnMoreWordsRow.laid W) : PowTab W := by
  have h2 := (show laidMet Tryz.prog ((Tryz.nameOfinternal_strconv_uint64pow10, Rows.laid_internal_strconv_uint64pow10) :: Rows.fnMoreWordsRow.laid.drop 3) W from h.tail.tail)
  rw [show (Rows.laid_internal_strconv_uint64pow10 : DataW Unit) = Lib.tabData .u64 Lib.pow10Tab by kernel_rfl] at h2
  exact Lib.tabIs_of_head (g := 5) (t := 127) (e := 75) (n := 20) (by kernel_rfl) (by kernel_rfl) Tryz.underlying127 Tryz.underlying75 (by kernel_rfl) (by kernel_rfl) h2
def errNm : String := match (Rows.laid_strconv_ErrSyntax : DataW Unit) with
  | .iface n _ => n
  | _ => default
theorem row_err (u : TypeId) (h : Tryz.prog.typeName? 3 u = some errNm) : u = 114 :=
  typeName_ptr_named (nm := "errors.errorString") (by kernel_rfl) (by kernel_rfl) (by decide) u (h.trans (congrArg some (by kernel_rfl)))
theorem of_laid {W : World} (h0 : laidMetH Tryz.prog Rows.fnMoreWordsRow.laid W) (hs : W.ShapedOpen Tryz.prog) : Door W := by
  rw [MakeChecks.laidMetH_plain _ _ _ (by kernel_rfl)] at h0
  have h := h0
  refine ⟨pow_laid h, Tryz.laysM146.s1_3 W hs, ?_, ?_⟩
  · obtain ⟨a, s, hv, _⟩ := laid_sentinel (show laidMet Tryz.prog ((Tryz.nameOfstrconv_ErrSyntax, Rows.laid_strconv_ErrSyntax) :: Rows.fnMoreWordsRow.laid.drop 6) W from h.tail.tail.tail.tail.tail) (g := 1) (ti := 62) (by kernel_rfl) (by kernel_rfl) Tryz.underlying62 row_err Tryz.underlying114 Tryz.underlying116 rfl rfl Tryz.underlying9 (by kernel_rfl) (by kernel_rfl)
    exact ⟨_, _, hv⟩
  · obtain ⟨a, s, hv, _⟩ := laid_sentinel (show laidMet Tryz.prog ((Tryz.nameOfstrconv_ErrRange, Rows.laid_strconv_ErrRange) :: Rows.fnMoreWordsRow.laid.drop 5) W from h.tail.tail.tail.tail) (g := 2) (ti := 62) (by kernel_rfl) (by kernel_rfl) Tryz.underlying62 row_err Tryz.underlying114 Tryz.underlying116 rfl rfl Tryz.underlying9 (by kernel_rfl) (by kernel_rfl)
    exact ⟨_, _, hv⟩
set_option maxRecDepth 100000 in
theorem lifted (os : Os) (started : os.Started) (H : Type) (enc : TypeId × Value → H) :
    ReturnsInHanded {} Tryz.checked os 3 .any (fun w args => (Rows.fnMoreWordsSpec.pre enc Tryz.prog Tryz.f3 Rows.fnMoreWordsRow.domain false w args ∧ laidMetH Tryz.prog Rows.fnMoreWordsRow.laid w) ∧ sizedMet enc Tryz.prog Tryz.f3 (OpenSpec.ofChange Rows.fnMoreWordsSpec) false w args) (Rows.fnMoreWordsSpec.post enc Tryz.prog Tryz.f3 false true false false) := by
  refine returnsInHanded_of_calls own started (by kernel_rfl)
    (ChangeSpec.witness_shaped (enc := enc) (C := Tryz.checked) (os := os) (X := fun w _ => laidMetH Tryz.prog Rows.fnMoreWordsRow.laid w) false (World.laidAll Tryz.prog os Rows.fnMoreWordsRow.laid) #[.slice none 0 0] 8 (World.laidAll_os _ _ _)
      (World.shaped_of_ZipB (by kernel_rfl) (by kernel_rfl)) (by kernel_rfl) (by kernel_rfl) (by kernel_rfl)
      (by rw [MakeChecks.laidMetH_plain _ _ _ (by kernel_rfl)]; exact laidMet_laidAll _ (by kernel_rfl) (by kernel_rfl))) ?_
  intro w0 tape i _ hsh _ hok hpre _
  obtain ⟨_, _, _, fn', hfn', _, _, _, _, hval1⟩ := hok
  obtain rfl : fn' = Tryz.f3 := Option.some.inj (hfn'.symm.trans Tryz.func3)
  obtain ⟨⟨⟨ds, gs, before, hw0, hcnd⟩, hx⟩, hz⟩ := hpre
  have hW := DataW.Whole.of_heap (w' := w0.forCall tape i) (by rfl) hw0
  have hL : laidMetH Tryz.prog Rows.fnMoreWordsRow.laid (w0.forCall tape i) := hx.of_heap (by rfl)
  have ht := of_laid hL hsh
  suffices hgo : Calls Tryz.prog 3 i.args (w0.forCall tape i) fun e W' => ∃ v, e = .returned v ∧ Rows.fnMoreWordsSpec.post enc Tryz.prog Tryz.f3 false true false false (w0.forCall tape i) i.args v W' from
    hgo.mono fun e W' ⟨v, he, hp⟩ => (by subst he; exact ChangeSpec.post_blind hp)
  clear hx hz hL hsh hw0
  generalize hWW : w0.forCall tape i = W at *
  generalize hbb : w0.heap.size = base at *
  generalize i.args = args at *
  have hval0 : ∀ (j : Nat) t v, Tryz.f3.params[j]? = some t → args[j]? = some v → Value.okWide Tryz.prog W .any base t v := hval1
  clear hval1
  have hval : ∀ (j : Nat) t v, Tryz.f3.params[j]? = some t → args[j]? = some v → Value.okWide Tryz.prog W .any base t v := hval0
  have hW' := hW
  obtain ⟨p, q, hA0, hV, rfl, hfz, hnd⟩ := hW
  have hA : DataW.TrodAll enc Tryz.prog W 0 (fun _ => true) true Tryz.f3.params.toList args.toList ds p := hA0
  rw [Tryz.params3] at hA hval
  obtain ⟨v0, vs0, d0, ds0, p0, q0, hargs, rfl, rfl, h0, r0⟩ := trodAll_cons hA
  obtain ⟨rfl, rfl, rfl⟩ := trodAll_nil r0
  obtain rfl : args = #[v0] := by cases args; simp_all
  obtain ⟨rfl, rfl⟩ := trodVars_none hV
  have k0 := h0
  have lt0 : ∀ x ∈ p0, x.block < W.heap.size := by obtain ⟨m, hm⟩ := k0; exact DataW.trod_lt m _ _ _ hm
  obtain ⟨m0, rd0, mx0⟩ := open_code Tryz.underlying22 Tryz.underlying5 (by kernel_rfl) (hval 0 22 v0 rfl rfl) h0
  clear hA0 hval0
  refine (law_MoreWords v0 W m0 rd0 mx0 ht).mono fun e W' ⟨he, bel⟩ => ?_
  subst he
  exact ⟨_, rfl, _, _, _, [], _, [], hW', trodAll_mk1 (shut_bool Tryz.underlying4 _), (trodAll_cons_mk (Below.trod laidOut (by kernel_rfl) (of_decide_eq_true (by kernel_rfl)) k0 bel lt0) trodAll_mk0), rfl, bel.frame _, fun h => by cases h⟩
theorem over : Rows.fnMoreWordsRow.holds Tryz.pinned (OpenSpec.ofChange Rows.fnMoreWordsSpec) :=
  OpenClaim.holds_of_wide 3 Tryz.f3 rfl rfl rfl rfl rfl rfl rfl ⟨rfl, rfl, rfl, rfl, rfl⟩ rfl rfl rfl rfl rfl (by kernel_rfl) Tryz.func3 (by kernel_rfl)
    (of_decide_eq_true (by kernel_rfl)) (by unfold Func.isWrapper; first | (rw [if_pos (by decide +kernel)]; kernel_rfl) | (rw [if_neg (by decide +kernel)]; exact ⟨rfl, rfl⟩))
    (fun os started H enc _ => lifted os started H enc)
theorem proved : Rows.FnMoreWordsCardSaid :=
  Claim7.holds_tied_plain_at .later [] [.data, .data, .data, .data, .sentinel, .sentinel, .pinned] true (true, "68ba68fe50407a944679b1e2f5688a496b2f6699d8a4ede635a49a5cecf089ad") true
    over (fun _ h => by cases h) (by kernel_rfl) (fun _ h => by cases h) fnMoreWords_row_tie rfl ⟨rfl, rfl⟩ (by kernel_rfl) rfl
    (fun f fn hf hfn => by
      obtain rfl : f = 3 := Option.some.inj ((show Tryz.prog.funcNamed Rows.fnMoreWordsRow.func = some 3 by kernel_rfl).symm.trans hf) |>.symm
      obtain rfl : fn = Tryz.f3 := (Option.some.inj (Tryz.func3.symm.trans hfn)).symm
      exact ⟨by kernel_rfl, fun j t ht => by
        rw [Tryz.params3] at ht
        have hm : t ∈ [22] := by simpa using Array.mem_of_getElem? ht
        have hall : ([22].all fun u => !Tryz.prog.wantsStandIn u) = true := by kernel_rfl
        exact (show Tryz.prog.wantsStandIn t = false by simpa using List.all_eq_true.1 hall t hm)⟩)
    (by kernel_rfl)
end Go.Proofs.YtblpbkfenmkhbaaGreatDoor.fnMoreWords
namespace Go.Proofs.YtblpbkfenmkhbaaGreatDoor
/-- The card, under a short name, for the claim. -/
theorem fnMoreWords_holds : Rows.FnMoreWordsCardSaid := fnMoreWords.proved
#print axioms fnMoreWords_holds
end Go.Proofs.YtblpbkfenmkhbaaGreatDoor
