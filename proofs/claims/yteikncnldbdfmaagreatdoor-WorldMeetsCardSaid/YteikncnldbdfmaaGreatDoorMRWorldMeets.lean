import Derived.Test.YteikncnldbdfmaaGreatDoorMCWorldMeets
import Derived.Test.YteikncnldbdfmaaGreatDoorMLWorldMeets
import Derived.Test.YteikncnldbdfmaaGreatDoorMOpen
import Derived.Test.YteikncnldbdfmaaGreatDoorCards
import Derived.Test.YteikncnldbdfmaaGreatDoorTie
import Derived.Test.YteikncnldbdfmaaGreatDoorMOpenC
namespace Go.Proofs.YteikncnldbdfmaaGreatDoor.worldMeets
open Go.ChangeShapes Go.WideShapes Go.ChangeAt Go.RowKit Go.Mh
theorem own:ownKnob Tryz.prog.godebug=none:=by kernel_rfl
theorem laidOut:laidOutB Tryz.prog=true:=by kernel_rfl
set_option maxRecDepth 100000 in
set_option maxHeartbeats 1600000 in
theorem witness (os:Os) (H:Type) (enc:TypeId × Value→H) :
  ∃ (w:World) (tape:Tape) (i:Input),w.os=os∧(w.forCall tape i).Shaped Tryz.checked.prog∧i.vars=[]∧Input.okWide Tryz.checked.prog (w.forCall tape i) .any w.heap.size 6 i ∧
   ((Rows.worldMeetsSpec.pre enc Tryz.checked.prog Tryz.f6 Rows.worldMeetsRow.domain false (w.forCall tape i).memory i.args∧laidMetH Tryz.prog Rows.worldMeetsRow.laid (w.forCall tape i).memory)∧sizedMet enc Tryz.checked.prog Tryz.f6 (OpenSpec.ofChange Rows.worldMeetsSpec) false (w.forCall tape i).memory i.args)∧({}:Assume).holds Tryz.checked.prog (lone (Frame.enter Tryz.checked.prog 6 i.args .normal) [] (w.forCall tape i)):=
 ChangeSpec.witness_shaped (enc:=enc) (C:=Tryz.checked) (os:=os) (X:=fun w _=>laidMetH Tryz.prog Rows.worldMeetsRow.laid w) false (World.laidAll Tryz.prog os Rows.worldMeetsRow.laid) #[.slice none 0 0,.int .i64 0,.slice none 0 0] 8 (World.laidAll_os _ _ _)
   (World.shaped_of_ZipB (by kernel_rfl) (by kernel_rfl)) (by kernel_rfl) (by kernel_rfl) (by kernel_rfl)
   (by rw [MakeChecks.laidMetH_plain _ _ _ (by kernel_rfl)];exact laidMet_laidAll _ (by kernel_rfl) (by kernel_rfl))
set_option maxRecDepth 100000 in
set_option maxHeartbeats 1600000 in
theorem lifted (os:Os) (started:os.Started) (H:Type) (enc:TypeId × Value→H) :
  ReturnsInHanded {} Tryz.checked os 6 .any (fun w args=>(Rows.worldMeetsSpec.pre enc Tryz.prog Tryz.f6 Rows.worldMeetsRow.domain false w args∧laidMetH Tryz.prog Rows.worldMeetsRow.laid w)∧sizedMet enc Tryz.prog Tryz.f6 (OpenSpec.ofChange Rows.worldMeetsSpec) false w args) (Rows.worldMeetsSpec.post enc Tryz.prog Tryz.f6 false true false false):=by
 refine returns_door (C:=Tryz.checked) own started (by kernel_rfl) Tryz.func6 (witness os H enc) ?_
 intro W base args ds gs before hval0 hW hcnd hsz0 hsh hL
 have hval:∀ (j:Nat) t v,Tryz.f6.params[j]?=some t→args[j]?=some v→Value.okWide Tryz.prog W .any base t v:=hval0
 have hW':=hW
 obtain ⟨p,q,hA0,hV,rfl,hfz,hnd⟩:=hW
 have hA:DataW.TrodAll enc Tryz.prog W 0 (fun _=>true) true Tryz.f6.params.toList args.toList ds p:=hA0
 rw [Tryz.params6] at hA hval
 obtain ⟨v0,vs0,d0,ds0,p0,q0,hargs,rfl,rfl,h0,r0⟩:=trodAll_cons hA
 obtain ⟨v1,vs1,d1,ds1,p1,q1,rfl,rfl,rfl,h1,r1⟩:=trodAll_cons r0
 obtain ⟨v2,vs2,d2,ds2,p2,q2,rfl,rfl,rfl,h2,r2⟩:=trodAll_cons r1
 obtain ⟨rfl,rfl,rfl⟩:=trodAll_nil r2
 obtain rfl:args=#[v0,v1,v2]:=by cases args;simp_all
 obtain ⟨rfl,rfl⟩:=trodVars_none hV
 obtain ⟨a0,len0,cap0,rfl⟩:=okWide_slice Tryz.underlying23 (hval 0 23 v0 rfl rfl)
 have k0:=h0
 have lt0:∀ x ∈ p0,x.block < W.heap.size:=by obtain ⟨m,hm⟩:=k0;exact DataW.trod_lt m _ _ _ hm
 obtain ⟨L0,w0⟩:∃ L:List It,RItems (fun _=>True) W (.slice a0 len0 cap0) L:=by obtain ⟨fuel,hf⟩:=h0;exact open_doc Tryz.underlying23 hf
 have k1:=h1
 have lt1:∀ x ∈ p1,x.block < W.heap.size:=by obtain ⟨m,hm⟩:=k1;exact DataW.trod_lt m _ _ _ hm
 obtain ⟨L1,rfl,z1⟩:=open_int Tryz.underlying3 (hval 1 3 v1 rfl rfl) h1
 obtain ⟨a2,len2,cap2,rfl⟩:=okWide_slice Tryz.underlying31 (hval 2 31 v2 rfl rfl)
 have k2:=h2
 have lt2:∀ x ∈ p2,x.block < W.heap.size:=by obtain ⟨m,hm⟩:=k2;exact DataW.trod_lt m _ _ _ hm
 obtain ⟨L2,w2⟩:∃ L:List Hap,RHaps (fun _=>True) W (.slice a2 len2 cap2) L:=by obtain ⟨fuel,hf⟩:=h2;exact haps_of hf
 clear hA0 hval0
 have hsz:(DataW.weightsEach Tryz.prog (Tryz.f6.params.toList ++ Rows.worldMeetsSpec.plain.varTypes Tryz.prog) ([d0,d1,d2] ++ [])).all (·≤reachBytes)=true:=hsz0
 rw [Tryz.params6] at hsz
 have hnum:=lib_num hsh
 refine (worldMeets_walk _ _ _ _ L0 L1 L2 W hnum w0 w2).mono fun e W' ⟨he,bel⟩=>?_
 subst he
 exact ⟨_,rfl,_,_,_,[],_,[],hW',trodAll_mk1 (shut_bool Tryz.underlying4 _),(trodAll_cons_mk (Below.trod laidOut (by kernel_rfl) (of_decide_eq_true (by kernel_rfl)) k0 bel lt0) (trodAll_cons_mk (Below.trod laidOut (by kernel_rfl) (of_decide_eq_true (by kernel_rfl)) k1 bel lt1) (trodAll_cons_mk (Below.trod laidOut (by kernel_rfl) (of_decide_eq_true (by kernel_rfl)) k2 bel lt2) trodAll_mk0))),rfl,bel.frame _,fun h=>by cases h⟩
theorem over:Rows.worldMeetsRow.holds Tryz.pinned (OpenSpec.ofChange Rows.worldMeetsSpec):=
 OpenClaim.holds_of_wide 6 Tryz.f6 rfl rfl rfl rfl rfl rfl rfl ⟨rfl,rfl,rfl,rfl,rfl⟩ rfl rfl rfl rfl rfl (by kernel_rfl) Tryz.func6 closed
  (of_decide_eq_true (by kernel_rfl)) (by unfold Func.isWrapper;first | (rw [if_pos (by decide +kernel)];kernel_rfl) | (rw [if_neg (by decide +kernel)];exact ⟨rfl,rfl⟩))
  (fun os started H enc _=>lifted os started H enc)
theorem proved:Rows.WorldMeetsCardSaid:=
 Claim7.holds_tied_plain_at .later [] Rows.worldMeetsCard.laidKinds true Rows.worldMeetsCard.stood.harness Rows.worldMeetsCard.stood.looks over (fun _ h=>by cases h) (by kernel_rfl) (fun _ h=>by cases h) worldMeets_row_tie rfl ⟨rfl,rfl⟩ (by kernel_rfl) rfl
  (fun f fn hf hfn=>by
   obtain rfl : f = 6 := Option.some.inj ((show Tryz.prog.funcNamed "manyhands/manyhandslaw.WorldMeets" = some 6 by kernel_rfl).symm.trans hf) |>.symm
   obtain rfl:fn=Tryz.f6:=(Option.some.inj (Tryz.func6.symm.trans hfn)).symm
   exact ⟨by kernel_rfl,fun j t ht=>by
    rw [Tryz.params6] at ht
    have hm:t ∈ [23,3,31]:=by simpa using Array.mem_of_getElem? ht
    have hall:([23,3,31].all fun u=>!Tryz.prog.wantsStandIn u)=true:=by kernel_rfl
    exact (show Tryz.prog.wantsStandIn t=false by simpa using List.all_eq_true.1 hall t hm)⟩)
  (by kernel_rfl)
end Go.Proofs.YteikncnldbdfmaaGreatDoor.worldMeets
