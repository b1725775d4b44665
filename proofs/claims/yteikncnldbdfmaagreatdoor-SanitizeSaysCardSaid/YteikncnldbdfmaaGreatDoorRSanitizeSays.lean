/- The statement SanitizeSays, of the law's walk: every input, no condition; its tied card. -/
import Derived.Test.YteikncnldbdfmaaGreatDoorCSanitizeSays
import Derived.Test.YteikncnldbdfmaaGreatDoorLSanitizeSays
import Derived.Test.YteikncnldbdfmaaGreatDoorDoor
import Derived.Test.YteikncnldbdfmaaGreatDoorCards
import Derived.Test.YteikncnldbdfmaaGreatDoorTie
import Derived.LaidSub
import Derived.Lib.LaidTab
namespace Go.Proofs.YteikncnldbdfmaaGreatDoor.sanitizeSays
open Go.ChangeShapes Go.WideShapes Go.ChangeAt Go.RowKit Go.Mh

theorem own : ownKnob Tryz.prog.godebug = none := by kernel_rfl
theorem laidOut : laidOutB Tryz.prog = true := by kernel_rfl

set_option maxRecDepth 100000 in
set_option maxHeartbeats 1600000 in
theorem witness (os : Os) (H : Type) (enc : TypeId × Value → H) :
    ∃ (w : World) (tape : Tape) (i : Input), w.os = os ∧ (w.forCall tape i).Shaped Tryz.checked.prog ∧ i.vars = [] ∧ Input.okWide Tryz.checked.prog (w.forCall tape i) .any w.heap.size 5 i ∧
      ((Rows.sanitizeSaysSpec.pre enc Tryz.checked.prog Tryz.f5 Rows.sanitizeSaysRow.domain false (w.forCall tape i).memory i.args ∧ laidMetH Tryz.prog Rows.sanitizeSaysRow.laid (w.forCall tape i).memory) ∧ sizedMet enc Tryz.checked.prog Tryz.f5 (OpenSpec.ofChange Rows.sanitizeSaysSpec) false (w.forCall tape i).memory i.args) ∧ ({} : Assume).holds Tryz.checked.prog (lone (Frame.enter Tryz.checked.prog 5 i.args .normal) [] (w.forCall tape i)) :=
  ChangeSpec.witness_shaped (enc := enc) (C := Tryz.checked) (os := os) (X := fun w _ => laidMetH Tryz.prog Rows.sanitizeSaysRow.laid w) false (World.laidAll Tryz.prog os Rows.sanitizeSaysRow.laid) #[.slice none 0 0] 8 (World.laidAll_os _ _ _)
      (World.shaped_of_ZipB (by kernel_rfl) (by kernel_rfl)) (by kernel_rfl) (by kernel_rfl) (by kernel_rfl)
      (by rw [MakeChecks.laidMetH_plain _ _ _ (by kernel_rfl)]; exact laidMet_laidAll _ (by kernel_rfl) (by kernel_rfl))

set_option maxRecDepth 100000 in
set_option maxHeartbeats 1600000 in
theorem lifted (os : Os) (started : os.Started) (H : Type) (enc : TypeId × Value → H) :
    ReturnsInHanded {} Tryz.checked os 5 .any (fun w args => (Rows.sanitizeSaysSpec.pre enc Tryz.prog Tryz.f5 Rows.sanitizeSaysRow.domain false w args ∧ laidMetH Tryz.prog Rows.sanitizeSaysRow.laid w) ∧ sizedMet enc Tryz.prog Tryz.f5 (OpenSpec.ofChange Rows.sanitizeSaysSpec) false w args) (Rows.sanitizeSaysSpec.post enc Tryz.prog Tryz.f5 false true false false) := by
  refine returns_door (C := Tryz.checked) own started (by kernel_rfl) Tryz.func5 (witness os H enc) ?_
  intro W base args ds gs before hval0 hW hcnd hsz0 hsh hL
  have hval : ∀ (j : Nat) t v, Tryz.f5.params[j]? = some t → args[j]? = some v → Value.okWide Tryz.prog W .any base t v := hval0
  have hW' := hW
  obtain ⟨p, q, hA0, hV, rfl, hfz, hnd⟩ := hW
  have hA : DataW.TrodAll enc Tryz.prog W 0 (fun _ => true) true Tryz.f5.params.toList args.toList ds p := hA0
  rw [Tryz.params5] at hA hval
  obtain ⟨v0, vs0, d0, ds0, p0, q0, hargs, rfl, rfl, h0, r0⟩ := trodAll_cons hA
  obtain ⟨rfl, rfl, rfl⟩ := trodAll_nil r0
  obtain rfl : args = #[v0] := by cases args; simp_all
  obtain ⟨rfl, rfl⟩ := trodVars_none hV
  obtain ⟨a0, len0, cap0, rfl⟩ := okWide_slice Tryz.underlying41 (hval 0 41 v0 rfl rfl)
  have k0 := h0
  have lt0 : ∀ x ∈ p0, x.block < W.heap.size := by obtain ⟨m, hm⟩ := k0; exact DataW.trod_lt m _ _ _ hm
  obtain ⟨L0, w0⟩ : ∃ L : Bs, RBytes (fun _ => True) W (.slice a0 len0 cap0) L := by obtain ⟨fuel, hf⟩ := h0; exact open_bytes Tryz.underlying41 hf
  clear hA0 hval0
  have hsz : (DataW.weightsEach Tryz.prog (Tryz.f5.params.toList ++ Rows.sanitizeSaysSpec.plain.varTypes Tryz.prog) ([d0] ++ [])).all (· ≤ reachBytes) = true := hsz0
  rw [Tryz.params5] at hsz
  have z0 : L0.length ≤ 140737488351232 := len_bytes hsz (j := 0) rfl rfl k0 w0
  have hnum := lib_num hsh
  have htab : Tab W := by
    have h0 : laidMet Tryz.prog Rows.sanitizeSaysRow.laid W := by rw [MakeChecks.laidMetH_plain _ _ _ (by kernel_rfl)] at hL; exact hL
    have h1 := laidMet.filter (fun p => p.1 == "strings.asciiSpace") h0
    rw [show (Rows.sanitizeSaysRow.laid.filter fun p => p.1 == "strings.asciiSpace") = [("strings.asciiSpace", Lib.tabData .u8 Lib.asciiSpaceTab)] from by kernel_rfl] at h1
    exact Lib.tabIs_of_head (t := 190) (e := 5) (n := 256) (g := 0) (by kernel_rfl) (by kernel_rfl) (by kernel_rfl) (by kernel_rfl) (by kernel_rfl) (by kernel_rfl) h1
  refine (sanitizeSays_walk _ _ L0 W hnum w0 z0 htab).mono fun e W' ⟨he, bel⟩ => ?_
  subst he
  exact ⟨_, rfl, _, _, _, [], _, [], hW', trodAll_mk1 (shut_bool Tryz.underlying4 _), (trodAll_cons_mk (Below.trod laidOut (by kernel_rfl) (of_decide_eq_true (by kernel_rfl)) k0 bel lt0) trodAll_mk0), rfl, bel.frame _, fun h => by cases h⟩

theorem over : Rows.sanitizeSaysRow.holds Tryz.pinned (OpenSpec.ofChange Rows.sanitizeSaysSpec) :=
  OpenClaim.holds_of_wide 5 Tryz.f5 rfl rfl rfl rfl rfl rfl rfl ⟨rfl, rfl, rfl, rfl, rfl⟩ rfl rfl rfl rfl rfl (by kernel_rfl) Tryz.func5 closed
    (of_decide_eq_true (by kernel_rfl)) (by unfold Func.isWrapper; first | (rw [if_pos (by decide +kernel)]; kernel_rfl) | (rw [if_neg (by decide +kernel)]; exact ⟨rfl, rfl⟩))
    (fun os started H enc _ => lifted os started H enc)

/-- SanitizeSays: for every input the law returns true, and each argument reads afterwards as it read before; what it lists of Go's tables is tied to the program's text. -/
theorem proved : Rows.SanitizeSaysCardSaid :=
  Claim7.holds_tied_plain_at .later [] Rows.sanitizeSaysCard.laidKinds true Rows.sanitizeSaysCard.stood.harness Rows.sanitizeSaysCard.stood.looks over (fun _ h => by cases h) (by kernel_rfl) (fun _ h => by cases h) sanitizeSays_row_tie rfl ⟨rfl, rfl⟩ (by kernel_rfl) rfl
    (fun f fn hf hfn => by
      obtain rfl : f = 5 := Option.some.inj ((show Tryz.prog.funcNamed "manyhands/manyhandslaw.SanitizeSays" = some 5 by kernel_rfl).symm.trans hf) |>.symm
      obtain rfl : fn = Tryz.f5 := (Option.some.inj (Tryz.func5.symm.trans hfn)).symm
      exact ⟨by kernel_rfl, fun j t ht => by
        rw [Tryz.params5] at ht
        have hm : t ∈ [41] := by simpa using Array.mem_of_getElem? ht
        have hall : ([41].all fun u => !Tryz.prog.wantsStandIn u) = true := by kernel_rfl
        exact (show Tryz.prog.wantsStandIn t = false by simpa using List.all_eq_true.1 hall t hm)⟩)
    (by kernel_rfl)
end Go.Proofs.YteikncnldbdfmaaGreatDoor.sanitizeSays
