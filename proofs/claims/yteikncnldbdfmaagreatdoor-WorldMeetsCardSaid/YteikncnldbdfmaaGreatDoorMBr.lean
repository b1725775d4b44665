import Derived.Test.YteikncnldbdfmaaGreatDoorMFit
import Derived.Test.YteikncnldbdfmaaGreatDoorMWdM
import Derived.Test.YteikncnldbdfmaaGreatDoorMPlM
import Derived.Test.YteikncnldbdfmaaGreatDoorMRegT
namespace Go.Mh
open Go.RowKit
section
variable {P:Program} {md:Region.Mode} {ops:Array Oper} {Q:Exit→Act→World→Prop} {S:World→Prop}
theorem wpAnyH_or (i j:Nat) {oi oj:Oper} {fuel:Nat} {listed:Array Bool} {a:Act} {w:World} (hi:ops[i]?=some oi) (hj:ops[j]?=some oj) (hr:Region.ready md ops listed=[i,j])
  (h:∀ K':Act→World→Prop,Shut (∀ a w,S w→wpAnyH P md ops Q S fuel (listed.setIfInBounds i true) a w→K' a w)→if Region.wanted oi (yielded ops a.tmps)=true then Oper.wp P oi a w K' Q else K' (a.put oi.dst undef) w)
  (k:∀ K':Act→World→Prop,Shut (∀ a w,S w→wpAnyH P md ops Q S fuel (listed.setIfInBounds j true) a w→K' a w)→if Region.wanted oj (yielded ops a.tmps)=true then Oper.wp P oj a w K' Q else K' (a.put oj.dst undef) w) :
  wpAnyH P md ops Q S (fuel+1) listed a w:=
 ⟨fun h0=>by (rw [hr] at h0;cases h0),fun n hn=>by
  rw [hr] at hn
  rcases (by simpa using hn:n=i∨n=j) with rfl | rfl
  ·exact wpOp_step hi fun K' hK=>h K' fun a w hC hW=>hK a w ⟨hC,hW⟩
  ·exact wpOp_step hj fun K' hK=>k K' fun a w hC hW=>hK a w ⟨hC,hW⟩⟩
theorem wpAnyH_call {fuel:Nat} {listed:Array Bool} {a:Act} {w:World} (h:∀ w0,w=w0→wpAnyH P md ops Q S fuel listed a w0):wpAnyH P md ops Q S fuel listed a w:=h w rfl
end
theorem NoIt.six {w:World} {g e:Nat} {fr:Nat × Nat} {p1 p2 p3 p4 p5 p6:Option Addr} {q1 q2 q3 q4 q5 q6 r1 r2 r3 r4 r5 r6:Nat} (h:w.heap[g]?=some (.cells #[.slice p1 q1 r1,.slice p2 q2 r2,.slice p3 q3 r3,.slice p4 q4 r4,.slice p5 q5 r5,.slice p6 q6 r6] e fr)):NoIt w g:=by
 have hc:∀ o v,w.cell? ⟨g,o,none⟩=some v→∃ a b c,v=.slice a b c:=fun o v hv=>by
  unfold World.cell? at hv
  rw [h] at hv
  match o,hv with
  | 0,hv=>exact ⟨_,_,_,by simpa using hv.symm⟩
  | 1,hv=>exact ⟨_,_,_,by simpa using hv.symm⟩
  | 2,hv=>exact ⟨_,_,_,by simpa using hv.symm⟩
  | 3,hv=>exact ⟨_,_,_,by simpa using hv.symm⟩
  | 4,hv=>exact ⟨_,_,_,by simpa using hv.symm⟩
  | 5,hv=>exact ⟨_,_,_,by simpa using hv.symm⟩
  | n+6,hv=>simp at hv
 exact ⟨fun o m h1=>(by obtain ⟨_,_,_,e⟩:=hc o _ h1;cases e),fun o m m' h1 _=>(by obtain ⟨_,_,_,e⟩:=hc o _ h1;cases e)⟩
end Go.Mh
