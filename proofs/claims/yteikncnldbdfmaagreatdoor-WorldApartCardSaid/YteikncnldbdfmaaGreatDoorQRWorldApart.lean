import Derived.Test.YteikncnldbdfmaaGreatDoorQCWorldApart
import Derived.Test.YteikncnldbdfmaaGreatDoorQLWorldApart
import Derived.Test.YteikncnldbdfmaaGreatDoorQOpen
import Derived.Test.YteikncnldbdfmaaGreatDoorCards
import Derived.Test.YteikncnldbdfmaaGreatDoorTie
import Derived.Test.YteikncnldbdfmaaGreatDoorQOpenC
namespace Go.Proofs.YteikncnldbdfmaaGreatDoor.worldApart
open Go.ChangeShapes Go.WideShapes Go.ChangeAt Go.RowKit Go.Mh
theorem own : ownKnob Tryz.prog.godebug = none:=by kernel_rfl
theorem laidOut : laidOutB Tryz.prog = true:=by kernel_rfl
set_option maxRecDepth 100000 in
set_option maxHeartbeats 1600000 in
theorem witness (os : Os) (H : Type) (enc : TypeId × Value → H) :
  ∃ (w : World) (tape : Tape) (i : Input),w.os = os ∧ (w.forCall tape i).Shaped Tryz.checked.prog ∧ i.vars = [] ∧ Input.okWide Tryz.checked.prog (w.forCall tape i) .any w.heap.size 8 i ∧
   ((Rows.worldApartSpec.pre enc Tryz.checked.prog Tryz.f8 Rows.worldApartRow.domain false (w.forCall tape i).memory i.args ∧ laidMetH Tryz.prog Rows.worldApartRow.laid (w.forCall tape i).memory) ∧ sizedMet enc Tryz.checked.prog Tryz.f8 (OpenSpec.ofChange Rows.worldApartSpec) false (w.forCall tape i).memory i.args) ∧ ({} : Assume).holds Tryz.checked.prog (lone (Frame.enter Tryz.checked.prog 8 i.args .normal) [] (w.forCall tape i)):=
 ChangeSpec.witness_shaped (enc:=enc) (C:=Tryz.checked) (os:=os) (X:=fun w _ => laidMetH Tryz.prog Rows.worldApartRow.laid w) false (World.laidAll Tryz.prog os Rows.worldApartRow.laid) #[.agg #[.slice none 0 0,.slice none 0 0,.slice none 0 0,.slice none 0 0,.slice none 0 0,.slice none 0 0],.agg #[.int .i64 0,.int .i64 0,.int .i64 0,.slice none 0 0,.slice none 0 0]] 8 (World.laidAll_os _ _ _)
   (World.shaped_of_ZipB (by kernel_rfl) (by kernel_rfl)) (by kernel_rfl) (by kernel_rfl) (by kernel_rfl)
   (by rw [MakeChecks.laidMetH_plain _ _ _ (by kernel_rfl)];exact laidMet_laidAll _ (by kernel_rfl) (by kernel_rfl))
set_option maxRecDepth 100000 in
set_option maxHeartbeats 1600000 in
theorem lifted (os : Os) (started : os.Started) (H : Type) (enc : TypeId × Value → H) :
  ReturnsInHanded {} Tryz.checked os 8 .any (fun w args => (Rows.worldApartSpec.pre enc Tryz.prog Tryz.f8 Rows.worldApartRow.domain false w args ∧ laidMetH Tryz.prog Rows.worldApartRow.laid w) ∧ sizedMet enc Tryz.prog Tryz.f8 (OpenSpec.ofChange Rows.worldApartSpec) false w args) (Rows.worldApartSpec.post enc Tryz.prog Tryz.f8 false true false false):=by
 refine returns_door (C:=Tryz.checked) own started (by kernel_rfl) Tryz.func8 (witness os H enc) ?_
 intro W base args ds gs before hval0 hW hcnd hsz0 hsh hL
 have hval : ∀ (j : Nat) t v,Tryz.f8.params[j]? = some t → args[j]? = some v → Value.okWide Tryz.prog W .any base t v:=hval0
 have hW':=hW
 obtain ⟨p,q,hA0,hV,rfl,hfz,hnd⟩:=hW
 have hA : DataW.TrodAll enc Tryz.prog W 0 (fun _ => true) true Tryz.f8.params.toList args.toList ds p:=hA0
 rw [Tryz.params8] at hA hval
 obtain ⟨v0,vs0,d0,ds0,p0,q0,hargs,rfl,rfl,h0,r0⟩:=trodAll_cons hA
 obtain ⟨v1,vs1,d1,ds1,p1,q1,rfl,rfl,rfl,h1,r1⟩:=trodAll_cons r0
 obtain ⟨rfl,rfl,rfl⟩:=trodAll_nil r1
 obtain rfl : args = #[v0,v1]:=by cases args;simp_all
 obtain ⟨rfl,rfl⟩:=trodVars_none hV
 have k0:=h0
 have lt0 : ∀ x ∈ p0,x.block < W.heap.size:=by obtain ⟨m,hm⟩:=k0;exact DataW.trod_lt m _ _ _ hm
 obtain ⟨L0,w0⟩ : ∃ L : Wd,RWd (fun _ => True) W v0 L:=open_world (hval 0 30 v0 rfl rfl) h0
 have k1:=h1
 have lt1 : ∀ x ∈ p1,x.block < W.heap.size:=by obtain ⟨m,hm⟩:=k1;exact DataW.trod_lt m _ _ _ hm
 obtain ⟨L1,w1⟩ : ∃ L : Hap,RHap (fun _ => True) W v1 L:=open_hap (hval 1 43 v1 rfl rfl) h1
 clear hA0 hval0
 have hsz : (DataW.weightsEach Tryz.prog (Tryz.f8.params.toList ++ Rows.worldApartSpec.plain.varTypes Tryz.prog) ([d0,d1] ++ [])).all (· ≤ reachBytes) = true:=hsz0
 rw [Tryz.params8] at hsz
 have hnum:=lib_num hsh
 refine (worldApart_walk _ _ _ _ L0 L1 W hnum w0 w1).mono fun e W' ⟨he,bel⟩ => ?_
 subst he
 exact ⟨_,rfl,_,_,_,[],_,[],hW',trodAll_mk1 (shut_bool Tryz.underlying4 _),(trodAll_cons_mk (Below.trod laidOut (by kernel_rfl) (of_decide_eq_true (by kernel_rfl)) k0 bel lt0) (trodAll_cons_mk (Below.trod laidOut (by kernel_rfl) (of_decide_eq_true (by kernel_rfl)) k1 bel lt1) trodAll_mk0)),rfl,bel.frame _,fun h => by cases h⟩
theorem over : Rows.worldApartRow.holds Tryz.pinned (OpenSpec.ofChange Rows.worldApartSpec):=
 OpenClaim.holds_of_wide 8 Tryz.f8 rfl rfl rfl rfl rfl rfl rfl ⟨rfl,rfl,rfl,rfl,rfl⟩ rfl rfl rfl rfl rfl (by kernel_rfl) Tryz.func8 closed
  (of_decide_eq_true (by kernel_rfl)) (by unfold Func.isWrapper;first | (rw [if_pos (by decide +kernel)];kernel_rfl) | (rw [if_neg (by decide +kernel)];exact ⟨rfl,rfl⟩))
  (fun os started H enc _ => lifted os started H enc)
theorem proved : Rows.WorldApartCardSaid:=
 Claim7.holds_tied_plain_at .later [] Rows.worldApartCard.laidKinds true Rows.worldApartCard.stood.harness Rows.worldApartCard.stood.looks over (fun _ h => by cases h) (by kernel_rfl) (fun _ h => by cases h) worldApart_row_tie rfl ⟨rfl,rfl⟩ (by kernel_rfl) rfl
  (fun f fn hf hfn => by
   obtain rfl : f = 8 := Option.some.inj ((show Tryz.prog.funcNamed "manyhands/manyhandslaw.WorldApart" = some 8 by kernel_rfl).symm.trans hf) |>.symm
   obtain rfl : fn = Tryz.f8:=(Option.some.inj (Tryz.func8.symm.trans hfn)).symm
   exact ⟨by kernel_rfl,fun j t ht => by
    rw [Tryz.params8] at ht
    have hm : t ∈ [30,43]:=by simpa using Array.mem_of_getElem? ht
    have hall : ([30,43].all fun u => !Tryz.prog.wantsStandIn u) = true:=by kernel_rfl
    exact (show Tryz.prog.wantsStandIn t = false by simpa using List.all_eq_true.1 hall t hm)⟩)
  (by kernel_rfl)
end Go.Proofs.YteikncnldbdfmaaGreatDoor.worldApart
