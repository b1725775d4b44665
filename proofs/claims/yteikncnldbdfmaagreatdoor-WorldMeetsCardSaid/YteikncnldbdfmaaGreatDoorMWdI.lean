import Derived.Test.YteikncnldbdfmaaGreatDoorMWdH
import Derived.Test.YteikncnldbdfmaaGreatDoorMPl
namespace Go.Proofs.YteikncnldbdfmaaGreatDoor
open Go.RowKit Go.Mh
theorem opSm_of {o:List Pt} (h:chkOp o=0):opSm o:=by
 have h1:=chkOp_ok h
 exact ⟨by have:=h1.len;omega,fun p hp=>by have:=h1.i80 p hp;omega⟩
theorem sent_sm {c:Cl} (h:ClOk c):opSm c.sent:=by
 by_cases hs:c.sent=[]
 ·rw [hs];exact ⟨by simp,by simp⟩
 ·exact opSm_of (sent_chk h hs)
theorem step_of (pg:Bs→List It × Int) (W:Wd) (xk xn:Int) (k:Nat) (xo:List Pt) (xb:Bs) (hk:k < W.cl.length) :
  (xk=1→stepW pg W ⟨xk,k,xn,xo,xb⟩=editW W k xo)∧(xk=2→stepW pg W ⟨xk,k,xn,xo,xb⟩=pasteW pg W k ⟨xk,k,xn,xo,xb⟩)∧(xk=3→stepW pg W ⟨xk,k,xn,xo,xb⟩=serveW W k)∧(xk=4→stepW pg W ⟨xk,k,xn,xo,xb⟩=hearW W k) ∧
  (xk=5→stepW pg W ⟨xk,k,xn,xo,xb⟩=(cutW W k,0))∧(xk=6→stepW pg W ⟨xk,k,xn,xo,xb⟩=joinW W k)∧(xk≠1→xk≠2→xk≠3→xk≠4→xk≠5→xk≠6→stepW pg W ⟨xk,k,xn,xo,xb⟩=(W,4)):=by
 have h0:¬ ((k:Int) < 0∨(W.cl.length:Int)≤k):=by omega
 have e:stepW pg W ⟨xk,k,xn,xo,xb⟩=if xk=1 then editW W k xo
   else if xk=2 then pasteW pg W k ⟨xk,k,xn,xo,xb⟩
   else if xk=3 then serveW W k
   else if xk=4 then hearW W k
   else if xk=5 then (cutW W k,0)
   else if xk=6 then joinW W k
   else (W,4):=by
  unfold stepW
  dsimp only
  rw [if_neg h0]
  rfl
 rw [e]
 refine ⟨fun h=>?_,fun h=>?_,fun h=>?_,fun h=>?_,fun h=>?_,fun h=>?_,fun h1 h2 h3 h4 h5 h6=>?_⟩
 ·rw [if_pos h]
 ·rw [if_neg (by omega),if_pos h]
 ·rw [if_neg (by omega),if_neg (by omega),if_pos h]
 ·rw [if_neg (by omega),if_neg (by omega),if_neg (by omega),if_pos h]
 ·rw [if_neg (by omega),if_neg (by omega),if_neg (by omega),if_neg (by omega),if_pos h]
 ·rw [if_neg (by omega),if_neg (by omega),if_neg (by omega),if_neg (by omega),if_neg (by omega),if_pos h]
 ·rw [if_neg h1,if_neg h2,if_neg h3,if_neg h4,if_neg h5,if_neg h6]
set_option maxRecDepth 100000 in
set_option maxHeartbeats 4000000 in
theorem wdStep_any (B g:Nat) (l:Lay) (w:World) (W:Wd) (v:Value) (x:Hap) (h:WAt B g l w W) (hW:WOk W) (hx:RHap (l.N g) w v x) (hm:∃ m,w.cell? ⟨2,0,none⟩=some (.int .i64 m)) :
  Calls Tryz.prog 36 #[.pointer (some ⟨g,0,none⟩),v] w fun e w'=>e=.returned (.int .i64 (stepW sanP W x).2)∧(∃ l',WAt B g l' w' (stepW sanP W x).1∧Kp (l.N g) (l'.N g) w w')∧Below B w w':=by
 obtain ⟨xk,xc,xn,xo,xb⟩:=x
 obtain ⟨oa,oc,ba,bc,rfl,ho,hb⟩:=hx
 dsimp only at ho hb
 obtain ⟨gc,gu,gd,cc,cu,cd,c,b,n,s,hh,uq,dq,H⟩:=h.facts (k:=0) hW.c1 hW.ul hW.dl
 have hBs:B≤w.heap.size:=by have:=h.gB;obtain ⟨_,kg⟩:=H.kg;have:=lt_of_heap kg;omega
 obtain ⟨w1,hw1⟩:∃ w1,w1=w.alloc (.cells #[.int .i64 xk,.int .i64 xc,.int .i64 xn,.slice oa xo.length oc,.slice ba xb.length bc] 43):=⟨_,rfl⟩
 have hb1:Below w.heap.size w w1:=by rw [hw1];exact bal (brf w) _
 have hN1:=heap_new w (.cells #[.int .i64 xk,.int .i64 xc,.int .i64 xn,.slice oa xo.length oc,.slice ba xb.length bc] 43)
 rw [← hw1] at hN1
 have K1:=Lib.hid (Kp.below (F:=l.N g) hb1)
 have hs1:=hb1.size
 have hB1:B≤w1.heap.size:=Nat.le_trans hBs hs1
 obtain ⟨q0,q1,q2,q3,q4⟩:=cell5 hN1
 have y3:=(hb1.cell (lt_of_cell H.b3)).trans H.b3
 have h1:=Lib.hid (h.below hb1)
 have ho1:=Lib.hid (ROp.to ho (Kp.below hb1))
 have hb1':=Lib.hid (RBytes.to hb (Kp.below hb1))
 have hm1:Hid (∃ m,w1.cell? ⟨2,0,none⟩=some (.int .i64 m)):=Lib.hid (by obtain ⟨m,hm⟩:=hm;exact ⟨m,(hb1.cell (lt_of_cell hm)).trans hm⟩)
 have hBB:=hb1.mono hBs
 have hW:=Lib.hid hW
 clear H hN1 ho hb hm h
 obtain ⟨⟨V,E⟩,hV⟩:∃ r,Hid (stepW sanP W ⟨xk,xc,xn,xo,xb⟩=r):=⟨_,Lib.hid rfl⟩
 rw [hV.out]
 go_enter Tryz.func36,Tryz.ntmps36
 go_upto_region 1 with fail
 rw [← hw1]
 clear hw1
 by_cases h0:xc < 0∨(W.cl.length:Int)≤xc
 ·have e:=hV.out
  unfold stepW at e
  dsimp only at e
  rw [if_pos h0] at e
  cases e
  have way:decide (xc < 0)=true∨(decide (xc < 0)=false∧decide ((W.cl.length:Int)≤xc)=true):=by
   simp only [decide_eq_true_eq,decide_eq_false_iff_not];omega
  clear h0 hV
  rcases way with d1 | ⟨d1,d2⟩
  all_goals
   go_quiet (fail)
   refine name_world ?_
   intro w2 hw2
   have hb2:Below w1.heap.size w1 w2:=by rw [← hw2];exact Go.below_drewN (Below.refl _ _) _
   clear hw2
   go_wp2_with fail
   go_ret
   exact ⟨rfl,⟨_,h1.out.below hb2,Kp.trans K1.out hs1 (Kp.below hb2)⟩,hBB.trans (hb2.mono hB1)⟩
 ·obtain ⟨k,rfl⟩:∃ k:Nat,xc=k:=⟨xc.toNat,by omega⟩
  have hk:k < W.cl.length:=by omega
  obtain ⟨e1,e2,e3,e4,e5,e6,e7⟩:=step_of sanP W xk xn k xo xb hk
  rw [hV.out] at e1 e2 e3 e4 e5 e6 e7
  have e1:=Lib.hid e1
  have e2:=Lib.hid e2
  have e3:=Lib.hid e3
  have e4:=Lib.hid e4
  have e5:=Lib.hid e5
  have e6:=Lib.hid e6
  have e7:=Lib.hid e7
  have hk':=Lib.hid hk
  have d1:decide ((k:Int) < 0)=false:=by simp
  have d2:decide ((W.cl.length:Int)≤(k:Int))=false:=by simpa using hk
  clear h0 hV hk
  have d3:decide (W.cl.length≤k)=false:=by simpa using hk'.out
  go_quiet (fail)
  refine name_world ?_
  intro w2 hw2
  have hb2:Below w1.heap.size w1 w2:=by rw [← hw2];exact Go.below_drewN (Below.refl _ _) _
  clear hw2
  have h2:=Lib.hid (h1.out.below hb2)
  have ho2:=Lib.hid (ROp.to ho1.out (Kp.below hb2))
  have hb2':=Lib.hid (RBytes.to hb1'.out (Kp.below hb2))
  have hm2:Hid (∃ m,w2.cell? ⟨2,0,none⟩=some (.int .i64 m)):=Lib.hid (by obtain ⟨m,hm⟩:=hm1.out;exact ⟨m,(hb2.cell (lt_of_cell hm)).trans hm⟩)
  have K2:=Lib.hid (Kp.trans K1.out hs1 (Kp.below hb2))
  have hBB2:=hBB.trans (hb2.mono hB1)
  have hs2:=Nat.le_trans hs1 hb2.size
  replace q0:=(hb2.cell (lt_of_cell q0)).trans q0
  replace q1:=(hb2.cell (lt_of_cell q1)).trans q1
  replace q2:=(hb2.cell (lt_of_cell q2)).trans q2
  replace q3:=(hb2.cell (lt_of_cell q3)).trans q3
  replace q4:=(hb2.cell (lt_of_cell q4)).trans q4
  clear y3 h1 ho1 hb1' hm1 K1 hBB hs1 hb2 hb1 d1 d2 d3
  by_cases k1:xk=1
  ·subst k1
   have C:=wdEdit_any B g l w2 W k _ xo h2.out hk'.out hW.out.ul hW.out.dl ho2.out
   rw [← e1.out rfl] at C
   have C:=Lib.hid C
   clear e1 e2 e3 e4 e5 e6 e7
   go_wp2_with fail
   refine C.out.mono ?_
   rintro e w5 ⟨rfl,⟨l5,hl5,hk5⟩,hb5⟩
   go_wp2_with fail
   go_ret
   exact ⟨rfl,⟨l5,hl5,Kp.trans K2.out hs2 hk5⟩,hBB2.trans hb5⟩
  by_cases k2:xk=2
  ·subst k2
   have C:=wdPaste_any B g l w2 W k (.agg #[.int .i64 2,.int .i64 k,.int .i64 xn,.slice oa xo.length oc,.slice ba xb.length bc]) ⟨2,k,xn,xo,xb⟩ h2.out hk'.out hW.out.ul hW.out.dl ⟨oa,oc,ba,bc,rfl,ho2.out,hb2'.out⟩ hm2.out
   rw [← e2.out rfl] at C
   have C:=Lib.hid C
   clear e1 e2 e3 e4 e5 e6 e7 k1
   go_wp2_with fail
   refine C.out.mono ?_
   rintro e w5 ⟨rfl,⟨l5,hl5,hk5⟩,hb5⟩
   go_wp2_with fail
   go_ret
   exact ⟨rfl,⟨l5,hl5,Kp.trans K2.out hs2 hk5⟩,hBB2.trans hb5⟩
  by_cases k3:xk=3
  ·subst k3
   have C:=wdServe_any B g l w2 W k h2.out hk'.out hW.out.ul hW.out.dl (by have:=(hW.out.upAt hk'.out).1;omega) (by have:=hW.out.c4;omega)
   rw [← e3.out rfl] at C
   have C:=Lib.hid C
   clear e1 e2 e3 e4 e5 e6 e7 k1 k2
   go_wp2_with fail
   refine C.out.mono ?_
   rintro e w5 ⟨rfl,⟨l5,hl5,hk5⟩,hb5⟩
   go_wp2_with fail
   go_ret
   exact ⟨rfl,⟨l5,hl5,Kp.trans K2.out hs2 hk5⟩,hBB2.trans hb5⟩
  by_cases k4:xk=4
  ·subst k4
   have C:=wdHear_any B g l w2 W k h2.out hk'.out hW.out.ul hW.out.dl (by have:=(hW.out.downAt hk'.out).1;omega)
   rw [← e4.out rfl] at C
   have C:=Lib.hid C
   clear e1 e2 e3 e4 e5 e6 e7 k1 k2 k3
   go_wp2_with fail
   refine C.out.mono ?_
   rintro e w5 ⟨rfl,⟨l5,hl5,hk5⟩,hb5⟩
   go_wp2_with fail
   go_ret
   exact ⟨rfl,⟨l5,hl5,Kp.trans K2.out hs2 hk5⟩,hBB2.trans hb5⟩
  by_cases k5:xk=5
  ·subst k5
   have C:=Lib.hid (wdCut_any B g l w2 W k h2.out hk'.out hW.out.ul hW.out.dl)
   have e:=e5.out rfl
   cases e
   clear e1 e2 e3 e4 e5 e6 e7 k1 k2 k3 k4
   go_wp2_with fail
   refine C.out.mono ?_
   rintro e w5 ⟨rfl,⟨l5,hl5,hk5⟩,hb5⟩
   go_wp2_with fail
   go_ret
   exact ⟨rfl,⟨l5,hl5,Kp.trans K2.out hs2 hk5⟩,hBB2.trans hb5⟩
  by_cases k6:xk=6
  ·subst k6
   have C:=wdJoin_any B g l w2 W k h2.out hk'.out hW.out.ul hW.out.dl (hW.out.clAt hk'.out).r0 (sent_sm (hW.out.clAt hk'.out)) ⟨hW.out.s.len,fun x hx=>opSm_of (en_chk (hW.out.s.ens x hx))⟩
   rw [← e6.out rfl] at C
   have C:=Lib.hid C
   clear e1 e2 e3 e4 e5 e6 e7 k1 k2 k3 k4 k5
   go_wp2_with fail
   refine C.out.mono ?_
   rintro e w5 ⟨rfl,⟨l5,hl5,hk5⟩,hb5⟩
   go_wp2_with fail
   go_ret
   exact ⟨rfl,⟨l5,hl5,Kp.trans K2.out hs2 hk5⟩,hBB2.trans hb5⟩
  have e:=e7.out k1 k2 k3 k4 k5 k6
  cases e
  have t1:(xk == 1)=false:=by simpa using k1
  have t2:(xk == 2)=false:=by simpa using k2
  have t3:(xk == 3)=false:=by simpa using k3
  have t4:(xk == 4)=false:=by simpa using k4
  have t5:(xk == 5)=false:=by simpa using k5
  have t6:(xk == 6)=false:=by simpa using k6
  clear e1 e2 e3 e4 e5 e6 e7 k1 k2 k3 k4 k5 k6
  go_wp2_with fail
  go_ret
  exact ⟨rfl,⟨_,h2.out,K2.out⟩,hBB2⟩
end Go.Proofs.YteikncnldbdfmaaGreatDoor
