/- The statement ClientSays, of the law's walk: every input, no condition. -/
import Derived.Test.YtgodceplajkcdaaCClientSays
import Derived.Test.YtgodceplajkcdaaLClientSays
import Derived.Test.YtgodceplajkcdaaOpenC
import Derived.OpenShut
namespace Go.Proofs.Ytgodceplajkcdaa.clientSays
open Go.ChangeShapes Go.WideShapes Go.ChangeAt Go.RowKit Go.Mh

theorem own : ownKnob Try.prog.godebug = none := by kernel_rfl
theorem laidOut : laidOutB Try.prog = true := by kernel_rfl

set_option maxRecDepth 100000 in
theorem msg_rev {W : World} {base : Nat} {v : Value} (hv : Value.okWide Try.prog W .any base 89 v) (m : Msg) (ov : Value) (e : v = .agg #[.int .i64 m.rev, .int .i64 m.e.client, .int .i64 m.e.seq, ov]) : -9223372036854775808 ≤ m.rev ∧ m.rev ≤ 9223372036854775807 := by
  subst e
  unfold Value.okWide at hv
  rw [under_Message] at hv
  obtain ⟨cs, hcs, _, ts, hts, _, hc⟩ := hv
  cases hcs
  obtain ⟨u, hu, hk⟩ := hc 0 (.int .i64 m.rev) rfl
  have ht : Try.prog.cellTypes Try.prog.depth 89 = some [3, 3, 3, 53] := by kernel_rfl
  rw [ht] at hts
  cases hts
  simp at hu
  subst hu
  unfold Cell.okWide at hk
  rw [Try.underlying3] at hk
  unfold Cell.ok at hk
  simp only [Try.underlying3] at hk
  have h2 := hk.2
  simp [IntKind.has, IntKind.min, IntKind.max, IntKind.bits, IntKind.signed] at h2
  omega

set_option maxRecDepth 100000 in
set_option maxHeartbeats 1600000 in
theorem lifted (os : Os) (started : os.Started) (H : Type) (enc : TypeId × Value → H) :
    ReturnsInHanded {} Try.checked os 19 .any (Rows.clientSaysSpec.pre6 enc Try.prog Try.f19 Rows.clientSaysRow.domain false) (Rows.clientSaysSpec.post enc Try.prog Try.f19 false true false false) := by
  refine returnsInHanded_of_change (C := Try.checked) own started (by kernel_rfl) Try.func19
    (ChangeSpec.witness6 (enc := enc) (C := Try.checked) false ⟨#[], #[.slice none 0 0, .agg #[.int .i64 0, .slice none 0 0, .slice none 0 0, .int .i64 0, .slice none 0 0, .slice none 0 0, .bool false], .slice none 0 0, .int .i64 0, .agg #[.int .i64 0, .int .i64 0, .int .i64 0, .slice none 0 0]], []⟩ 8 (by kernel_rfl) (by kernel_rfl) (by kernel_rfl) (by kernel_rfl)) ?_
  intro W base args ds gs before hval0 hW hcnd _
  have hval : ∀ (j : Nat) t v, Try.f19.params[j]? = some t → args[j]? = some v → Value.okWide Try.prog W .any base t v := hval0
  have hW' := hW
  obtain ⟨p, q, hA0, hV, rfl, hfz, hnd⟩ := hW
  have hA : DataW.TrodAll enc Try.prog W 0 (fun _ => true) true Try.f19.params.toList args.toList ds p := hA0
  rw [Try.params19] at hA hval
  obtain ⟨v0, vs0, d0, ds0, p0, q0, hargs, rfl, rfl, h0, r0⟩ := trodAll_cons hA
  obtain ⟨v1, vs1, d1, ds1, p1, q1, rfl, rfl, rfl, h1, r1⟩ := trodAll_cons r0
  obtain ⟨v2, vs2, d2, ds2, p2, q2, rfl, rfl, rfl, h2, r2⟩ := trodAll_cons r1
  obtain ⟨v3, vs3, d3, ds3, p3, q3, rfl, rfl, rfl, h3, r3⟩ := trodAll_cons r2
  obtain ⟨v4, vs4, d4, ds4, p4, q4, rfl, rfl, rfl, h4, r4⟩ := trodAll_cons r3
  obtain ⟨rfl, rfl, rfl⟩ := trodAll_nil r4
  obtain rfl : args = #[v0, v1, v2, v3, v4] := by cases args; simp_all
  obtain ⟨rfl, rfl⟩ := trodVars_none hV
  obtain ⟨a0, len0, cap0, rfl⟩ := okWide_slice Try.underlying38 (hval 0 38 v0 rfl rfl)
  have k0 := h0
  have lt0 : ∀ x ∈ p0, x.block < W.heap.size := by obtain ⟨m, hm⟩ := k0; exact DataW.trod_lt m _ _ _ hm
  obtain ⟨L0, w0⟩ : ∃ L : List It, RItems (fun _ => True) W (.slice a0 len0 cap0) L := by obtain ⟨fuel, hf⟩ := h0; exact open_doc Try.underlying38 hf
  have k1 := h1
  have lt1 : ∀ x ∈ p1, x.block < W.heap.size := by obtain ⟨m, hm⟩ := k1; exact DataW.trod_lt m _ _ _ hm
  obtain ⟨L1, w1⟩ : ∃ c : Cl, RCl (fun _ => True) W v1 c := open_client (hval 1 87 v1 rfl rfl) h1
  obtain ⟨a2, len2, cap2, rfl⟩ := okWide_slice Try.underlying53 (hval 2 53 v2 rfl rfl)
  have k2 := h2
  have lt2 : ∀ x ∈ p2, x.block < W.heap.size := by obtain ⟨m, hm⟩ := k2; exact DataW.trod_lt m _ _ _ hm
  obtain ⟨L2, w2⟩ : ∃ L : List Pt, ROp (fun _ => True) W (.slice a2 len2 cap2) L := by obtain ⟨fuel, hf⟩ := h2; exact open_op Try.underlying53 hf
  have k3 := h3
  have lt3 : ∀ x ∈ p3, x.block < W.heap.size := by obtain ⟨m, hm⟩ := k3; exact DataW.trod_lt m _ _ _ hm
  obtain ⟨x3, rfl, _⟩ := open_int Try.underlying3 (hval 3 3 v3 rfl rfl) h3
  have k4 := h4
  have lt4 : ∀ x ∈ p4, x.block < W.heap.size := by obtain ⟨m, hm⟩ := k4; exact DataW.trod_lt m _ _ _ hm
  have zr4 := msg_rev (hval 4 89 v4 rfl rfl)
  obtain ⟨L4, u4, rfl, w4⟩ := open_message (hval 4 89 v4 rfl rfl) h4
  have zr := zr4 L4 u4 rfl
  clear hA0 hval0
  refine (clientSays_walk _ _ _ _ _ _ _ _ L0 L1 L2 x3 L4 W w0 w1 w2 w4 zr.1 zr.2).mono fun e W' ⟨he, bel⟩ => ?_
  subst he
  exact ⟨_, rfl, _, _, _, [], _, [], hW', trodAll_mk1 (shut_bool Try.underlying4 _), (trodAll_cons_mk (Below.trod laidOut (by kernel_rfl) (of_decide_eq_true (by kernel_rfl)) k0 bel lt0) (trodAll_cons_mk (Below.trod laidOut (by kernel_rfl) (of_decide_eq_true (by kernel_rfl)) k1 bel lt1) (trodAll_cons_mk (Below.trod laidOut (by kernel_rfl) (of_decide_eq_true (by kernel_rfl)) k2 bel lt2) (trodAll_cons_mk (Below.trod laidOut (by kernel_rfl) (of_decide_eq_true (by kernel_rfl)) k3 bel lt3) (trodAll_cons_mk (Below.trod laidOut (by kernel_rfl) (of_decide_eq_true (by kernel_rfl)) k4 bel lt4) trodAll_mk0))))), rfl, bel.frame _, fun h => by cases h⟩

theorem over : Rows.clientSaysRow.holds Try.pinned (OpenSpec.ofChange Rows.clientSaysSpec) :=
  OpenClaim.holds_of_wide 19 Try.f19 rfl rfl rfl rfl rfl rfl rfl ⟨rfl, rfl, rfl, rfl, rfl⟩ rfl rfl rfl rfl rfl (by kernel_rfl) Try.func19 closed
    (of_decide_eq_true (by kernel_rfl)) (by unfold Func.isWrapper; first | (rw [if_pos (by decide +kernel)]; kernel_rfl) | (rw [if_neg (by decide +kernel)]; exact ⟨rfl, rfl⟩))
    (fun os started H enc _ => lifted os started H enc)

/-- ClientSays: for every input the law returns true, and each argument reads afterwards as it read before. -/
theorem proved : Rows.ClientSaysSaid := over
end Go.Proofs.Ytgodceplajkcdaa.clientSays
