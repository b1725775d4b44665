import Derived.Test.YteikncnldbdfmaaGreatDoorMClF
namespace Go.Mh
open Go.RowKit
theorem frN {N:Nat→Prop} {B B':Nat} {T:TypeId} {w w3:World} {k:Nat} (hN:∀ k,B≤k→N k) (hNT:∀ k,¬ N k→∃ xs fr T',w.heap[k]?=some (.cells xs T' fr)∧T'≠T) (hb:∀ j,j < w.heap.size→w3.heap[j]?=w.heap[j]?) (hB:B≤B') (hk:Fr T B' w3 k):N k:=by
 rcases hk with h | ⟨xs,fr,e⟩
 ·exact hN k (Nat.le_trans hB h)
 ·rcases Classical.em (N k) with h | h
  ·exact h
  ·obtain ⟨ys,fr',T',e1,e2⟩:=hNT k h
   rw [hb k (lt_of_heap e1),e1] at e
   cases e
   exact absurd rfl e2
end Go.Mh
namespace Go.Proofs.YteikncnldbdfmaaGreatDoor
open Go.RowKit Go.Mh
set_option maxRecDepth 100000 in
set_option maxHeartbeats 4000000 in
theorem clDo_N (N:Nat→Prop) (v u:Value) (c:Cl) (o:List Pt) (w:World) (h:RCl N w v c) (g:ROp N w u o) (hN:∀ k,w.heap.size≤k→N k) (hNT:∀ k,¬ N k→∃ xs fr T',w.heap[k]?=some (.cells xs T' fr)∧T'≠58) :
  Calls Tryz.prog 157 #[v,u] w fun e w'=>∃ v',e=.returned (.tuple #[v',.bool (doC c o).2.1,.int .i64 (doC c o).2.2])∧RCl N w' v' (doC c o).1∧Below w.heap.size w w':=by
 have HN:=Lib.hid hN
 have HNT:=Lib.hid hNT
 clear hN hNT
 have hh:=RCl.to h (Kp.lt w)
 have gg:=ROp.to g (Kp.lt w)
 clear h g
 obtain ⟨b,n,s,k,rfl,h1,h2,h3,h4⟩:=id hh
 obtain ⟨ba,bc,rfl,_⟩:=RdS.len h1
 obtain ⟨na,nc,rfl,_⟩:=RdS.len h2
 obtain ⟨sa,sc,rfl,_⟩:=RdS.len h3
 obtain ⟨ka,kc,rfl,_⟩:=RdS.len h4
 have H2:=Lib.hid h2
 have H:=Lib.hid hh
 have V:=Lib.hid gg
 clear h1 h2 h3 h4 hh gg
 obtain ⟨w1,hw1⟩:∃ w1,w1=(w.alloc (.cells #[.int .i64 c.rev,.slice ba c.base.length bc,.slice na c.now.length nc,.int .i64 c.seq,.slice sa c.sent.length sc,.slice ka c.held.length kc,.bool c.joined] 52)).alloc clZero:=⟨_,rfl⟩
 have hb1:Below w.heap.size w w1:=by rw [hw1];exact bal (bal (brf w) _) _
 have hG1:=Lib.hid (by rw [hw1];exact heap_at2 rfl:w1.heap[w.heap.size]?=some (.cells #[.int .i64 c.rev,.slice ba c.base.length bc,.slice na c.now.length nc,.int .i64 c.seq,.slice sa c.sent.length sc,.slice ka c.held.length kc,.bool c.joined] 52 (0,0)))
 have hG2:=Lib.hid (by rw [hw1];exact heap_at (by simp):w1.heap[w.heap.size+1]?=some clZero)
 have hz1:=lt_of_heap hG1.out
 have hz2:=lt_of_heap hG2.out
 have hres:∃ r,Hid (doC c o=r):=⟨_,Lib.hid rfl⟩
 obtain ⟨⟨R1,R2,R3⟩,hres⟩:=hres
 rw [hres.out]
 go_enter Tryz.func157,Tryz.ntmps157
 go_upto_region 1 with fail
 rw [← hw1]
 clear hw1
 obtain ⟨x0,x1,x2,x3,x4,x5,x6⟩:=P7.of hG1.out
 go_wp2_with fail
 refine (clCheck_any _ _ c w1 (RCl.to H.out (Kp.below hb1))).mono ?_
 rintro e w2 ⟨rfl,hb2⟩
 have hB2:=hb1.trans (hb2.mono hb1.size)
 have hK1:=Lib.hid ((hb2.block _ hz1).trans hG1.out)
 have hK2:=Lib.hid ((hb2.block _ hz2).trans hG2.out)
 have hz1:=lt_of_heap hK1.out
 have hz2:=lt_of_heap hK2.out
 clear x0 x1 x2 x3 x4 x5 x6 hG1 hG2 hb1 hb2
 obtain ⟨x0,x1,x2,x3,x4,x5,x6⟩:=P7.of hK1.out
 by_cases hck:chkCl c=0
 ·have hok:=Lib.hid (ClOk.of hck)
  have hck':=Lib.hid hck
  rw [hck]
  clear hck
  go_wp2_with fail
  refine (opApply_any _ _ _ u c.now o w2 (RItems.to H2.out (Kp.below hB2)) (ROp.to V.out (Kp.below hB2))).mono ?_
  rintro e w3 ⟨r3,rfl,hr3,hb3⟩
  obtain ⟨ra,rc,rfl,_⟩:=RdS.len hr3
  have hr3':=Lib.hid hr3
  have hB3:=hB2.trans (hb3.mono hB2.size)
  have hK3:=Lib.hid ((hb3.block _ hz1).trans hK1.out)
  have hZ3:=Lib.hid ((hb3.block _ hz2).trans hK2.out)
  have hz13:=lt_of_heap hK3.out
  have hz23:=lt_of_heap hZ3.out
  clear x0 x1 x2 x3 x4 x5 x6 hK1 hK2 hb3 hr3
  obtain ⟨x0,x1,x2,x3,x4,x5,x6⟩:=P7.of hK3.out
  by_cases he:(applyP c.now o).2=0
  ·rw [he]
   have he':=Lib.hid he
   clear he
   go_wp2_with fail
   refine (clCopy_any _ _ c w3 (RCl.to H.out (Kp.below hB3)) hok.out.sm).mono ?_
   rintro e w4 ⟨v4,rfl,hr4,hb4⟩
   obtain ⟨b4,n4,s4,k4,rfl,_⟩:=id hr4
   obtain ⟨p1,p2,p3,p4,p5,p6,p7,p8,rfl,rfl,rfl,rfl⟩:=rcl_shape hr4
   have hK4:=Lib.hid ((hb4.block _ hz13).trans hK3.out)
   have hZ4:=Lib.hid ((hb4.block _ hz23).trans hZ3.out)
   have hB4:=hB3.trans (hb4.mono hB3.size)
   have z34:w3.heap.size≤w4.heap.size:=hb4.size
   have hcat:=CAt.ofVal (F:=fun k=>k≠w.heap.size∧k≠w.heap.size+1∧N k) hK4.out hr4 (fun h=>h.1 rfl) (fun k hk=>by have:=lt_of_heap hZ4.out;exact ⟨by omega,by omega,HN.out _ (by have:=hB4.size;omega)⟩) (fun i hi=>by rcases hi with hi | hi;exact ⟨by omega,by omega,HN.out _ (by have:=hB3.size;omega)⟩;have:=hi.2;exact ⟨by omega,by omega,hi.1⟩)
   have hd4:=Lib.hid (RItems.to hr3'.out (Kp.below hb4))
   obtain ⟨y0,y1,y2,y3,y4,y5,y6⟩:=P7.of hK4.out
   have hfz:∀ i,w4.frozen? ⟨w.heap.size,i,none⟩=false:=fun i=>Lib.frozen_of_heap hK4.out _
   have hz14:=lt_of_heap hK4.out
   have hz24:=lt_of_heap hZ4.out
   go_upto_region 8 with fail
   refine name_world ?_
   intro w5 hW5
   have hK5:=Lib.hid (by rw [← hW5];exact (set7z hK4.out _ _ _ _ _ _ _).1:w5.heap[w.heap.size]?=some (.cells #[.int .i64 c.rev,.slice p1 c.base.length p2,.slice p3 c.now.length p4,.int .i64 c.seq,.slice p5 c.sent.length p6,.slice p7 c.held.length p8,.bool c.joined] 52 (0,0)))
   have H5:CAt 52 (fun k=>k≠w.heap.size∧k≠w.heap.size+1∧N k) w5 w.heap.size c:=by rw [← hW5];exact hcat.1
   have S5:Stays w.heap.size w4 w5:=by rw [← hW5];exact hcat.2
   have hd5:RItems (fun k=>k≠w.heap.size∧k≠w.heap.size+1∧N k) w5 (.slice ra (applyP c.now o).1.length rc) (applyP c.now o).1:=RItems.to hd4.out (fun i hi hl=>⟨⟨by omega,by omega,HN.out _ (by have:=hB2.size;omega)⟩,S5.same i hl (by omega)⟩)
   have H6:=Lib.hid (H5.set2 hd5)
   have S6:Stays w.heap.size w4 (w5.setCell ⟨w.heap.size,2,none⟩ (.slice ra (applyP c.now o).1.length rc)):=S5.trans Stays.set
   have hZ6:=Lib.hid ((S6.same _ hz24 (by omega)).trans hZ4.out)
   have hB6:Below w.heap.size w (w5.setCell ⟨w.heap.size,2,none⟩ (.slice ra (applyP c.now o).1.length rc)):=hB4.trans S6.bel
   have hV6:=Lib.hid (ROp.to V.out (fun i hi hl=>⟨by have:=hi.2;exact ⟨by omega,by omega,hi.1⟩,(hB6.block i hi.2)⟩):ROp (fun k=>k≠w.heap.size∧k≠w.heap.size+1∧N k) (w5.setCell ⟨w.heap.size,2,none⟩ (.slice ra (applyP c.now o).1.length rc)) u o)
   have hK6:=Lib.hid (by rw [heap_setCell_same _ w.heap.size 2 _ _ (.slice ra (applyP c.now o).1.length rc) hK5.out];rfl:(w5.setCell ⟨w.heap.size,2,none⟩ (.slice ra (applyP c.now o).1.length rc)).heap[w.heap.size]?=some (.cells #[.int .i64 c.rev,.slice p1 c.base.length p2,.slice ra (applyP c.now o).1.length rc,.int .i64 c.seq,.slice p5 c.sent.length p6,.slice p7 c.held.length p8,.bool c.joined] 52 (0,0)))
   clear hcat hW5 H5 S5 hd5 S6 hd4 hr3' hfz y0 y1 y2 y3 y4 y5 y6 x0 x1 x2 x3 x4 x5 x6
   have hfz:∀ i,w5.frozen? ⟨w.heap.size,i,none⟩=false:=fun i=>Lib.frozen_of_heap hK5.out _
   have hz15:=lt_of_heap hK5.out
   obtain ⟨y0,y1,y2,y3,y4,y5,y6⟩:=P7.of hK5.out
   clear hr4 hB4 hB3 hB2 hK5 hK4 hZ4 hK3 hZ3 hb4
   go_upto_region 12 with fail
   refine name_world ?_
   intro w6 hW6
   rw [hW6] at H6 hZ6 hB6 hV6 hK6
   clear hW6 y0 y1 y2 y3 y4 y5 y6 hfz
   obtain ⟨x0,x1,x2,x3,x4,x5,x6⟩:=P7.of hK6.out
   have hfz:∀ i,w6.frozen? ⟨w.heap.size,i,none⟩=false:=fun i=>Lib.frozen_of_heap hK6.out _
   have hz16:=lt_of_heap hK6.out
   have hoo:=Lib.hid (chkOp_ok (Applies.of he'.out).op)
   by_cases hs:c.sent=[]
   ·have t1:=len0_true hs
    by_cases hq:c.seq=10000
    ·have t2:(c.seq == 10000)=true:=by simpa using hq
     have hr:=hres.out
     rw [doC,if_neg (by simpa using hck'.out),if_neg (by simpa using he'.out),if_pos hs,if_pos hq] at hr
     cases hr
     clear hs hq hres
     obtain ⟨y0,y1,y2,y3,y4,y5,y6⟩:=P7.of hZ6.out
     have hfz2:∀ i,w6.frozen? ⟨w.heap.size+1,i,none⟩=false:=fun i=>Lib.frozen_of_heap hZ6.out _
     have hzz:=lt_of_heap hZ6.out
     go_wp2
     obtain ⟨q1,q2⟩:=set7z hZ6.out (.int .i64 0) (.slice none 0 0) (.slice none 0 0) (.int .i64 0) (.slice none 0 0) (.slice none 0 0) (.bool false)
     generalize hwz:(((((((w6.setCell ⟨w.heap.size+1,0,none⟩ (.int .i64 0)).setCell ⟨w.heap.size+1,1,none⟩ (.slice none 0 0)).setCell ⟨w.heap.size+1,2,none⟩ (.slice none 0 0)).setCell ⟨w.heap.size+1,3,none⟩ (.int .i64 0)).setCell ⟨w.heap.size+1,4,none⟩ (.slice none 0 0)).setCell ⟨w.heap.size+1,5,none⟩ (.slice none 0 0)).setCell ⟨w.heap.size+1,6,none⟩ (.bool false))=wz at *
     obtain ⟨z0,z1,z2,z3,z4,z5,z6⟩:=P7.of q1
     exact bodyPost_ret (v:=.tuple #[.agg #[.int .i64 0,.slice none 0 0,.slice none 0 0,.int .i64 0,.slice none 0 0,.slice none 0 0,.bool false],.bool false,.int .i64 2]) (by simp [results,Tryz.results157,go_sem,z0,z1,z2,z3,z4,z5,z6]) rfl ⟨_,rfl,RCl.zero,hB6.trans (q2.bel.mono (by omega))⟩
    ·have t2:(c.seq == 10000)=false:=by simpa using hq
     have hr:=hres.out
     rw [doC,if_neg (by simpa using hck'.out),if_neg (by simpa using he'.out),if_pos hs,if_neg hq] at hr
     cases hr
     have hs01:0≤c.seq∧c.seq≤10000:=⟨hok.out.s0,hok.out.s1⟩
     have hwr:IntKind.i64.wrap (c.seq+1)=c.seq+1:=IntWalk.i64_in _ (by omega)
     clear hs hq hres
     go_wp2_with fail
     refine (opCopy_any _ _ o w6 hV6.out (by have:=hoo.out.len;omega) (fun p hp=>by have:=hoo.out.i80 p hp;omega)).mono ?_
     rintro e w7 ⟨r7,rfl,hr7,hb7⟩
     obtain ⟨xa,xc,rfl,_⟩:=RdS.len hr7
     have hK7:=Lib.hid ((hb7.block _ hz16).trans hK6.out)
     have hz17:=lt_of_heap hK7.out
     have H7:=Lib.hid (H6.out.below hb7)
     have hr7':=Lib.hid (ROp.to hr7 (fun i hi hl=>⟨by rcases hi with hi | hi;exact H6.out.2.1 i hi;exact hi,rfl⟩):ROp (fun k=>k≠w.heap.size∧k≠w.heap.size+1∧N k) w7 (.slice xa o.length xc) o)
     have H8:=Lib.hid ((H7.out.set4 hr7'.out).set3 (c.seq+1))
     have S8:Stays w.heap.size w7 ((w7.setCell ⟨w.heap.size,4,none⟩ (.slice xa o.length xc)).setCell ⟨w.heap.size,3,none⟩ (.int .i64 (c.seq+1))):=Stays.set.trans Stays.set
     have hzz6:=lt_of_heap hZ6.out
     have hZ8:=Lib.hid ((S8.same _ (Nat.lt_of_lt_of_le hzz6 hb7.size) (by omega)).trans ((hb7.block _ hzz6).trans hZ6.out))
     have hB8:=(hB6.trans (hb7.mono hB6.size)).trans (S8.bel.mono (Nat.le_refl _))
     clear x0 x1 x2 x3 x4 x5 x6 hfz hr7
     obtain ⟨x0,x1,x2,x3,x4,x5,x6⟩:=P7.of hK7.out
     have hfz:∀ i,w7.frozen? ⟨w.heap.size,i,none⟩=false:=fun i=>Lib.frozen_of_heap hK7.out _
     clear H7 hr7' S8 H6 hZ6 hB6 hV6 hK6 hK7
     go_upto_region 19 with fail
     refine name_world ?_
     intro w8 hW8
     rw [hW8] at H8 hZ8 hB8
     clear hW8 x0 x1 x2 x3 x4 x5 x6 hfz
     obtain ⟨b9,n9,s9,k9,h0,hR⟩:=H8.out.val
     obtain ⟨m1,m2,m3,m4,m5,m6,m7,m8,rfl,rfl,rfl,rfl⟩:=rcl_shape hR
     obtain ⟨y0,y1,y2,y3,y4,y5,y6⟩:=P7.of hZ8.out
     obtain ⟨x0,x1,x2,x3,x4,x5,x6⟩:=P7.of h0
     have hfz2:∀ i,w8.frozen? ⟨w.heap.size+1,i,none⟩=false:=fun i=>Lib.frozen_of_heap hZ8.out _
     have hzz:=lt_of_heap hZ8.out
     have hR':=Lib.hid hR
     clear hR h0
     go_wp2
     obtain ⟨q1,q2⟩:=set7z hZ8.out (.int .i64 ({ c with now:=(applyP c.now o).1,sent:=o,seq:=c.seq+1 }:Cl).rev) (.slice m1 ({ c with now:=(applyP c.now o).1,sent:=o,seq:=c.seq+1 }:Cl).base.length m2) (.slice m3 ({ c with now:=(applyP c.now o).1,sent:=o,seq:=c.seq+1 }:Cl).now.length m4) (.int .i64 ({ c with now:=(applyP c.now o).1,sent:=o,seq:=c.seq+1 }:Cl).seq) (.slice m5 ({ c with now:=(applyP c.now o).1,sent:=o,seq:=c.seq+1 }:Cl).sent.length m6) (.slice m7 ({ c with now:=(applyP c.now o).1,sent:=o,seq:=c.seq+1 }:Cl).held.length m8) (.bool ({ c with now:=(applyP c.now o).1,sent:=o,seq:=c.seq+1 }:Cl).joined)
     generalize hwz:(((((((w8.setCell ⟨w.heap.size+1,0,none⟩ _).setCell ⟨w.heap.size+1,1,none⟩ _).setCell ⟨w.heap.size+1,2,none⟩ _).setCell ⟨w.heap.size+1,3,none⟩ _).setCell ⟨w.heap.size+1,4,none⟩ _).setCell ⟨w.heap.size+1,5,none⟩ _).setCell ⟨w.heap.size+1,6,none⟩ _)=wz at *
     obtain ⟨z0,z1,z2,z3,z4,z5,z6⟩:=P7.of q1
     exact bodyPost_ret (v:=.tuple #[.agg #[.int .i64 ({ c with now:=(applyP c.now o).1,sent:=o,seq:=c.seq+1 }:Cl).rev,.slice m1 ({ c with now:=(applyP c.now o).1,sent:=o,seq:=c.seq+1 }:Cl).base.length m2,.slice m3 ({ c with now:=(applyP c.now o).1,sent:=o,seq:=c.seq+1 }:Cl).now.length m4,.int .i64 ({ c with now:=(applyP c.now o).1,sent:=o,seq:=c.seq+1 }:Cl).seq,.slice m5 ({ c with now:=(applyP c.now o).1,sent:=o,seq:=c.seq+1 }:Cl).sent.length m6,.slice m7 ({ c with now:=(applyP c.now o).1,sent:=o,seq:=c.seq+1 }:Cl).held.length m8,.bool ({ c with now:=(applyP c.now o).1,sent:=o,seq:=c.seq+1 }:Cl).joined],.bool true,.int .i64 0]) (by simp [results,Tryz.results157,go_sem,z0,z1,z2,z3,z4,z5,z6]) rfl ⟨_,rfl,RCl.to hR'.out (fun i hi hl=>⟨hi.2.2,q2.same i hl hi.2.1⟩),hB8.trans (q2.bel.mono (by omega))⟩
   ·have t1:=len0_false hs
    by_cases hh:c.held=[]
    ·have t3:=len0_true hh
     have hr:=hres.out
     rw [doC,if_neg (by simpa using hck'.out),if_neg (by simpa using he'.out),if_neg hs,if_pos hh] at hr
     cases hr
     clear hs hh hres
     go_wp2_with fail
     refine (opCopy_any _ _ o w6 hV6.out (by have:=hoo.out.len;omega) (fun p hp=>by have:=hoo.out.i80 p hp;omega)).mono ?_
     rintro e w7 ⟨r7,rfl,hr7,hb7⟩
     obtain ⟨xa,xc,rfl,_⟩:=RdS.len hr7
     have hK7:=Lib.hid ((hb7.block _ hz16).trans hK6.out)
     have hz17:=lt_of_heap hK7.out
     have H7:=Lib.hid (H6.out.below hb7)
     have hr7':=Lib.hid (ROp.to hr7 (fun i hi hl=>⟨by rcases hi with hi | hi;exact H6.out.2.1 i hi;exact hi,rfl⟩):ROp (fun k=>k≠w.heap.size∧k≠w.heap.size+1∧N k) w7 (.slice xa o.length xc) o)
     have H8:=Lib.hid (H7.out.set5 hr7'.out)
     have S8:Stays w.heap.size w7 (w7.setCell ⟨w.heap.size,5,none⟩ (.slice xa o.length xc)):=Stays.set
     have hzz6:=lt_of_heap hZ6.out
     have hZ8:=Lib.hid ((S8.same _ (Nat.lt_of_lt_of_le hzz6 hb7.size) (by omega)).trans ((hb7.block _ hzz6).trans hZ6.out))
     have hB8:=(hB6.trans (hb7.mono hB6.size)).trans (S8.bel.mono (Nat.le_refl _))
     clear x0 x1 x2 x3 x4 x5 x6 hfz hr7
     obtain ⟨x0,x1,x2,x3,x4,x5,x6⟩:=P7.of hK7.out
     have hfz:∀ i,w7.frozen? ⟨w.heap.size,i,none⟩=false:=fun i=>Lib.frozen_of_heap hK7.out _
     clear H7 hr7' S8 H6 hZ6 hB6 hV6 hK6 hK7
     go_upto_region 19 with fail
     refine name_world ?_
     intro w8 hW8
     rw [hW8] at H8 hZ8 hB8
     clear hW8 x0 x1 x2 x3 x4 x5 x6 hfz
     obtain ⟨b9,n9,s9,k9,h0,hR⟩:=H8.out.val
     obtain ⟨m1,m2,m3,m4,m5,m6,m7,m8,rfl,rfl,rfl,rfl⟩:=rcl_shape hR
     obtain ⟨y0,y1,y2,y3,y4,y5,y6⟩:=P7.of hZ8.out
     obtain ⟨x0,x1,x2,x3,x4,x5,x6⟩:=P7.of h0
     have hfz2:∀ i,w8.frozen? ⟨w.heap.size+1,i,none⟩=false:=fun i=>Lib.frozen_of_heap hZ8.out _
     have hzz:=lt_of_heap hZ8.out
     have hR':=Lib.hid hR
     clear hR h0
     go_wp2
     obtain ⟨q1,q2⟩:=set7z hZ8.out (.int .i64 ({ c with now:=(applyP c.now o).1,held:=o }:Cl).rev) (.slice m1 ({ c with now:=(applyP c.now o).1,held:=o }:Cl).base.length m2) (.slice m3 ({ c with now:=(applyP c.now o).1,held:=o }:Cl).now.length m4) (.int .i64 ({ c with now:=(applyP c.now o).1,held:=o }:Cl).seq) (.slice m5 ({ c with now:=(applyP c.now o).1,held:=o }:Cl).sent.length m6) (.slice m7 ({ c with now:=(applyP c.now o).1,held:=o }:Cl).held.length m8) (.bool ({ c with now:=(applyP c.now o).1,held:=o }:Cl).joined)
     generalize hwz:(((((((w8.setCell ⟨w.heap.size+1,0,none⟩ _).setCell ⟨w.heap.size+1,1,none⟩ _).setCell ⟨w.heap.size+1,2,none⟩ _).setCell ⟨w.heap.size+1,3,none⟩ _).setCell ⟨w.heap.size+1,4,none⟩ _).setCell ⟨w.heap.size+1,5,none⟩ _).setCell ⟨w.heap.size+1,6,none⟩ _)=wz at *
     obtain ⟨z0,z1,z2,z3,z4,z5,z6⟩:=P7.of q1
     exact bodyPost_ret (v:=.tuple #[.agg #[.int .i64 ({ c with now:=(applyP c.now o).1,held:=o }:Cl).rev,.slice m1 ({ c with now:=(applyP c.now o).1,held:=o }:Cl).base.length m2,.slice m3 ({ c with now:=(applyP c.now o).1,held:=o }:Cl).now.length m4,.int .i64 ({ c with now:=(applyP c.now o).1,held:=o }:Cl).seq,.slice m5 ({ c with now:=(applyP c.now o).1,held:=o }:Cl).sent.length m6,.slice m7 ({ c with now:=(applyP c.now o).1,held:=o }:Cl).held.length m8,.bool ({ c with now:=(applyP c.now o).1,held:=o }:Cl).joined],.bool false,.int .i64 0]) (by simp [results,Tryz.results157,go_sem,z0,z1,z2,z3,z4,z5,z6]) rfl ⟨_,rfl,RCl.to hR'.out (fun i hi hl=>⟨hi.2.2,q2.same i hl hi.2.1⟩),hB8.trans (q2.bel.mono (by omega))⟩
    ·have t3:=len0_false hh
     obtain ⟨_,_,b6,n6,s6,k6,g0,_,_,_,g4⟩:=H6.out
     rw [hK6.out] at g0
     simp at g0
     obtain ⟨rfl,rfl,rfl,rfl⟩:=g0
     have C:=Lib.hid (otJoin_any _ _ _ u c.held o w6 g4 hV6.out)
     clear g4
     by_cases hj:(joinP c.held o).2=0
     ·have hr:=hres.out
      rw [doC,if_neg (by simpa using hck'.out),if_neg (by simpa using he'.out),if_neg hs,if_neg hh,if_neg (by simpa using hj)] at hr
      cases hr
      rw [hj] at C
      clear hs hh hres hj
      go_wp2_with fail
      refine C.out.mono ?_
      rintro e w7 ⟨r7,rfl,hr7,hb7⟩
      obtain ⟨xa,xc,rfl,_⟩:=RdS.len hr7
      have hK7:=Lib.hid ((hb7.block _ hz16).trans hK6.out)
      have hz17:=lt_of_heap hK7.out
      have H7:=Lib.hid (H6.out.below hb7)
      have hzz6:=lt_of_heap hZ6.out
      have hr7':=Lib.hid (ROp.to hr7 (fun i hi hl=>⟨⟨(fr_ne hK7.out (by decide) hz16 i hi hl).1,(fr_ne ((hb7.block _ hzz6).trans hZ6.out) (by decide) hzz6 i hi hl).1,frN HN.out HNT.out (fun j hj=>(hB6.trans (hb7.mono hB6.size)).block j hj) hB6.size hi⟩,rfl⟩):ROp (fun k=>k≠w.heap.size∧k≠w.heap.size+1∧N k) w7 (.slice xa (joinP c.held o).1.length xc) (joinP c.held o).1)
      have H8:=Lib.hid (H7.out.set5 hr7'.out)
      have S8:Stays w.heap.size w7 (w7.setCell ⟨w.heap.size,5,none⟩ (.slice xa (joinP c.held o).1.length xc)):=Stays.set
      have hZ8:=Lib.hid ((S8.same _ (Nat.lt_of_lt_of_le hzz6 hb7.size) (by omega)).trans ((hb7.block _ hzz6).trans hZ6.out))
      have hB8:=(hB6.trans (hb7.mono hB6.size)).trans (S8.bel.mono (Nat.le_refl _))
      clear x0 x1 x2 x3 x4 x5 x6 hfz hr7
      obtain ⟨x0,x1,x2,x3,x4,x5,x6⟩:=P7.of hK7.out
      have hfz:∀ i,w7.frozen? ⟨w.heap.size,i,none⟩=false:=fun i=>Lib.frozen_of_heap hK7.out _
      clear H7 hr7' S8 H6 hZ6 hB6 hV6 hK6 hK7
      go_upto_region 19 with fail
      refine name_world ?_
      intro w8 hW8
      rw [hW8] at H8 hZ8 hB8
      clear hW8 x0 x1 x2 x3 x4 x5 x6 hfz
      obtain ⟨b9,n9,s9,k9,h0,hR⟩:=H8.out.val
      obtain ⟨m1,m2,m3,m4,m5,m6,m7,m8,rfl,rfl,rfl,rfl⟩:=rcl_shape hR
      obtain ⟨y0,y1,y2,y3,y4,y5,y6⟩:=P7.of hZ8.out
      obtain ⟨x0,x1,x2,x3,x4,x5,x6⟩:=P7.of h0
      have hfz2:∀ i,w8.frozen? ⟨w.heap.size+1,i,none⟩=false:=fun i=>Lib.frozen_of_heap hZ8.out _
      have hzz:=lt_of_heap hZ8.out
      have hR':=Lib.hid hR
      clear hR h0
      go_wp2
      obtain ⟨q1,q2⟩:=set7z hZ8.out (.int .i64 ({ c with now:=(applyP c.now o).1,held:=(joinP c.held o).1 }:Cl).rev) (.slice m1 ({ c with now:=(applyP c.now o).1,held:=(joinP c.held o).1 }:Cl).base.length m2) (.slice m3 ({ c with now:=(applyP c.now o).1,held:=(joinP c.held o).1 }:Cl).now.length m4) (.int .i64 ({ c with now:=(applyP c.now o).1,held:=(joinP c.held o).1 }:Cl).seq) (.slice m5 ({ c with now:=(applyP c.now o).1,held:=(joinP c.held o).1 }:Cl).sent.length m6) (.slice m7 ({ c with now:=(applyP c.now o).1,held:=(joinP c.held o).1 }:Cl).held.length m8) (.bool ({ c with now:=(applyP c.now o).1,held:=(joinP c.held o).1 }:Cl).joined)
      generalize hwz:(((((((w8.setCell ⟨w.heap.size+1,0,none⟩ _).setCell ⟨w.heap.size+1,1,none⟩ _).setCell ⟨w.heap.size+1,2,none⟩ _).setCell ⟨w.heap.size+1,3,none⟩ _).setCell ⟨w.heap.size+1,4,none⟩ _).setCell ⟨w.heap.size+1,5,none⟩ _).setCell ⟨w.heap.size+1,6,none⟩ _)=wz at *
      obtain ⟨z0,z1,z2,z3,z4,z5,z6⟩:=P7.of q1
      exact bodyPost_ret (v:=.tuple #[.agg #[.int .i64 ({ c with now:=(applyP c.now o).1,held:=(joinP c.held o).1 }:Cl).rev,.slice m1 ({ c with now:=(applyP c.now o).1,held:=(joinP c.held o).1 }:Cl).base.length m2,.slice m3 ({ c with now:=(applyP c.now o).1,held:=(joinP c.held o).1 }:Cl).now.length m4,.int .i64 ({ c with now:=(applyP c.now o).1,held:=(joinP c.held o).1 }:Cl).seq,.slice m5 ({ c with now:=(applyP c.now o).1,held:=(joinP c.held o).1 }:Cl).sent.length m6,.slice m7 ({ c with now:=(applyP c.now o).1,held:=(joinP c.held o).1 }:Cl).held.length m8,.bool ({ c with now:=(applyP c.now o).1,held:=(joinP c.held o).1 }:Cl).joined],.bool false,.int .i64 0]) (by simp [results,Tryz.results157,go_sem,z0,z1,z2,z3,z4,z5,z6]) rfl ⟨_,rfl,RCl.to hR'.out (fun i hi hl=>⟨hi.2.2,q2.same i hl hi.2.1⟩),hB8.trans (q2.bel.mono (by omega))⟩
     ·have hr:=hres.out
      rw [doC,if_neg (by simpa using hck'.out),if_neg (by simpa using he'.out),if_neg hs,if_neg hh,if_pos hj] at hr
      cases hr
      have hj':((joinP c.held o).2 != 0)=true:=by simpa using hj
      clear hs hh hres hj
      go_wp2_with fail
      refine C.out.mono ?_
      rintro e w7 ⟨r7,rfl,hr7,hb7⟩
      obtain ⟨xa,xc,rfl,_⟩:=RdS.len hr7
      have hK7:=Lib.hid ((hb7.block _ hz16).trans hK6.out)
      have hz17:=lt_of_heap hK7.out
      have S8:Stays w.heap.size w7 (w7.setCell ⟨w.heap.size,5,none⟩ (.slice xa (joinP c.held o).1.length xc)):=Stays.set
      have hzz6:=lt_of_heap hZ6.out
      have hZ8:=Lib.hid ((S8.same _ (Nat.lt_of_lt_of_le hzz6 hb7.size) (by omega)).trans ((hb7.block _ hzz6).trans hZ6.out))
      have hB8:=(hB6.trans (hb7.mono hB6.size)).trans (S8.bel.mono (Nat.le_refl _))
      clear x0 x1 x2 x3 x4 x5 x6 hfz hr7
      obtain ⟨x0,x1,x2,x3,x4,x5,x6⟩:=P7.of hK7.out
      have hfz:∀ i,w7.frozen? ⟨w.heap.size,i,none⟩=false:=fun i=>Lib.frozen_of_heap hK7.out _
      clear S8 H6 hZ6 hB6 hV6 hK6 hK7
      go_upto_region 11 with fail
      refine name_world ?_
      intro w8 hW8
      rw [hW8] at hZ8 hB8
      clear hW8 x0 x1 x2 x3 x4 x5 x6 hfz
      obtain ⟨y0,y1,y2,y3,y4,y5,y6⟩:=P7.of hZ8.out
      have hfz2:∀ i,w8.frozen? ⟨w.heap.size+1,i,none⟩=false:=fun i=>Lib.frozen_of_heap hZ8.out _
      have hzz:=lt_of_heap hZ8.out
      go_wp2
      obtain ⟨q1,q2⟩:=set7z hZ8.out (.int .i64 0) (.slice none 0 0) (.slice none 0 0) (.int .i64 0) (.slice none 0 0) (.slice none 0 0) (.bool false)
      generalize hwz:(((((((w8.setCell ⟨w.heap.size+1,0,none⟩ (.int .i64 0)).setCell ⟨w.heap.size+1,1,none⟩ (.slice none 0 0)).setCell ⟨w.heap.size+1,2,none⟩ (.slice none 0 0)).setCell ⟨w.heap.size+1,3,none⟩ (.int .i64 0)).setCell ⟨w.heap.size+1,4,none⟩ (.slice none 0 0)).setCell ⟨w.heap.size+1,5,none⟩ (.slice none 0 0)).setCell ⟨w.heap.size+1,6,none⟩ (.bool false))=wz at *
      obtain ⟨z0,z1,z2,z3,z4,z5,z6⟩:=P7.of q1
      exact bodyPost_ret (v:=.tuple #[.agg #[.int .i64 0,.slice none 0 0,.slice none 0 0,.int .i64 0,.slice none 0 0,.slice none 0 0,.bool false],.bool false,.int .i64 (joinP c.held o).2]) (by simp [results,Tryz.results157,go_sem,z0,z1,z2,z3,z4,z5,z6]) rfl ⟨_,rfl,RCl.zero,hB8.trans (q2.bel.mono (by omega))⟩
  ·have hr:=hres.out
   rw [doC,if_neg (by simpa using hck'.out),if_pos he] at hr
   cases hr
   have he':((applyP c.now o).2 != 0)=true:=by simpa using he
   clear he hres
   obtain ⟨y0,y1,y2,y3,y4,y5,y6⟩:=P7.of hZ3.out
   have hfz:∀ i,w3.frozen? ⟨w.heap.size+1,i,none⟩=false:=fun i=>Lib.frozen_of_heap hZ3.out _
   go_wp2
   obtain ⟨q1,q2⟩:=set7z hZ3.out (.int .i64 0) (.slice none 0 0) (.slice none 0 0) (.int .i64 0) (.slice none 0 0) (.slice none 0 0) (.bool false)
   generalize hwz:(((((((w3.setCell ⟨w.heap.size+1,0,none⟩ (.int .i64 0)).setCell ⟨w.heap.size+1,1,none⟩ (.slice none 0 0)).setCell ⟨w.heap.size+1,2,none⟩ (.slice none 0 0)).setCell ⟨w.heap.size+1,3,none⟩ (.int .i64 0)).setCell ⟨w.heap.size+1,4,none⟩ (.slice none 0 0)).setCell ⟨w.heap.size+1,5,none⟩ (.slice none 0 0)).setCell ⟨w.heap.size+1,6,none⟩ (.bool false))=wz at *
   obtain ⟨z0,z1,z2,z3,z4,z5,z6⟩:=P7.of q1
   exact bodyPost_ret (v:=.tuple #[.agg #[.int .i64 0,.slice none 0 0,.slice none 0 0,.int .i64 0,.slice none 0 0,.slice none 0 0,.bool false],.bool false,.int .i64 (applyP c.now o).2]) (by simp [results,Tryz.results157,go_sem,z0,z1,z2,z3,z4,z5,z6]) rfl ⟨_,rfl,RCl.zero,hB3.trans (q2.bel.mono (by omega))⟩
 ·have hr:=hres.out
  rw [doC,if_pos hck] at hr
  cases hr
  have hck':(chkCl c != 0)=true:=by simpa using hck
  clear hck hres
  obtain ⟨y0,y1,y2,y3,y4,y5,y6⟩:=P7.of hK2.out
  have hfz:∀ i,w2.frozen? ⟨w.heap.size+1,i,none⟩=false:=fun i=>Lib.frozen_of_heap hK2.out _
  go_wp2
  obtain ⟨q1,q2⟩:=set7z hK2.out (.int .i64 0) (.slice none 0 0) (.slice none 0 0) (.int .i64 0) (.slice none 0 0) (.slice none 0 0) (.bool false)
  generalize hwz:(((((((w2.setCell ⟨w.heap.size+1,0,none⟩ (.int .i64 0)).setCell ⟨w.heap.size+1,1,none⟩ (.slice none 0 0)).setCell ⟨w.heap.size+1,2,none⟩ (.slice none 0 0)).setCell ⟨w.heap.size+1,3,none⟩ (.int .i64 0)).setCell ⟨w.heap.size+1,4,none⟩ (.slice none 0 0)).setCell ⟨w.heap.size+1,5,none⟩ (.slice none 0 0)).setCell ⟨w.heap.size+1,6,none⟩ (.bool false))=wz at *
  obtain ⟨z0,z1,z2,z3,z4,z5,z6⟩:=P7.of q1
  exact bodyPost_ret (v:=.tuple #[.agg #[.int .i64 0,.slice none 0 0,.slice none 0 0,.int .i64 0,.slice none 0 0,.slice none 0 0,.bool false],.bool false,.int .i64 (chkCl c)]) (by simp [results,Tryz.results157,go_sem,z0,z1,z2,z3,z4,z5,z6]) rfl ⟨_,rfl,RCl.zero,hB2.trans (q2.bel.mono (by omega))⟩
set_option maxRecDepth 100000 in
set_option maxHeartbeats 8000000 in
theorem clHear_N (N:Nat→Prop) (v ov:Value) (c:Cl) (who:Int) (m:Msg) (w:World) (h:RCl N w v c) (g:ROp N w ov m.e.o) (hN:∀ k,w.heap.size≤k→N k) (hNT:∀ k,¬ N k→∃ xs fr T',w.heap[k]?=some (.cells xs T' fr)∧T'≠58) :
  Calls Tryz.prog 161 #[v,.int .i64 who,.agg #[.int .i64 m.rev,.int .i64 m.e.client,.int .i64 m.e.seq,ov]] w fun e w'=>∃ v',e=.returned (.tuple #[v',.bool (hearC c who m).2.1,.int .i64 (hearC c who m).2.2])∧RCl N w' v' (hearC c who m).1∧Below w.heap.size w w':=by
 have HN:=Lib.hid hN
 have HNT:=Lib.hid hNT
 clear hN hNT
 have hh:=RCl.to h (Kp.lt w)
 have gg:=ROp.to g (Kp.lt w)
 clear h g
 obtain ⟨b,n,s,k,rfl,h1,h2,h3,h4⟩:=id hh
 obtain ⟨ba,bc,rfl,_⟩:=RdS.len h1
 obtain ⟨na,nc,rfl,_⟩:=RdS.len h2
 obtain ⟨sa,sc,rfl,_⟩:=RdS.len h3
 obtain ⟨ka,kc,rfl,_⟩:=RdS.len h4
 obtain ⟨oa,oc,rfl,_⟩:=RdS.len gg
 have H:=Lib.hid hh
 have V:=Lib.hid gg
 clear h1 h2 h3 h4 hh gg
 obtain ⟨w1,hw1⟩:∃ w1,w1=((w.alloc (.cells #[.int .i64 c.rev,.slice ba c.base.length bc,.slice na c.now.length nc,.int .i64 c.seq,.slice sa c.sent.length sc,.slice ka c.held.length kc,.bool c.joined] 52)).alloc (.cells #[.int .i64 m.rev,.int .i64 m.e.client,.int .i64 m.e.seq,.slice oa m.e.o.length oc] 79)).alloc clZero:=⟨_,rfl⟩
 have hb1:Below w.heap.size w w1:=by rw [hw1];exact bal (bal (bal (brf w) _) _) _
 have hG1:=Lib.hid (by rw [hw1];exact heap_at3 rfl:w1.heap[w.heap.size]?=some (.cells #[.int .i64 c.rev,.slice ba c.base.length bc,.slice na c.now.length nc,.int .i64 c.seq,.slice sa c.sent.length sc,.slice ka c.held.length kc,.bool c.joined] 52 (0,0)))
 have K1:=Lib.hid (⟨by rw [hw1];exact heap_at2 (by simp),by rw [hw1];exact heap_at (by simp),ROp.to V.out (fun i hi hl=>⟨by have:=hi.2;exact ⟨by omega,by omega,by omega,hi.1⟩,hb1.block i hi.2⟩),hb1⟩:HrS 52 79 (fun k=>k≠w.heap.size∧k≠w.heap.size+1∧k≠w.heap.size+2∧N k) w w1 (.slice oa m.e.o.length oc) m)
 have hz1:=lt_of_heap hG1.out
 have hres:∃ r,Hid (hearC c who m=r):=⟨_,Lib.hid rfl⟩
 obtain ⟨⟨R1,R2,R3⟩,hres⟩:=hres
 rw [hres.out]
 go_enter Tryz.func161,Tryz.ntmps161
 go_upto_region 1 with fail
 rw [← hw1]
 clear hw1
 obtain ⟨x0,x1,x2,x3,x4,x5,x6⟩:=P7.of hG1.out
 go_wp2_with fail
 refine (clCheck_any _ _ c w1 (RCl.to H.out (Kp.below hb1))).mono ?_
 rintro e w2 ⟨rfl,hb2⟩
 have K2:=Lib.hid (K1.out.below hb2)
 have hK1:=Lib.hid ((hb2.block _ hz1).trans hG1.out)
 have hz1:=lt_of_heap hK1.out
 clear x0 x1 x2 x3 x4 x5 x6 hG1 hb1 hb2 K1
 obtain ⟨x0,x1,x2,x3,x4,x5,x6⟩:=P7.of hK1.out
 by_cases hck:chkCl c=0
 ·have hok:=Lib.hid (ClOk.of hck)
  have hck':=Lib.hid hck
  rw [hck]
  clear hck
  go_wp2_with fail
  refine (clCopy_any _ _ c w2 (RCl.to H.out (Kp.below K2.out.B)) hok.out.sm).mono ?_
  rintro e w4 ⟨v4,rfl,hr4,hb4⟩
  obtain ⟨b4,n4,s4,k4,rfl,_⟩:=id hr4
  obtain ⟨p1,p2,p3,p4,p5,p6,p7,p8,rfl,rfl,rfl,rfl⟩:=rcl_shape hr4
  have hK4:=Lib.hid ((hb4.block _ hz1).trans hK1.out)
  have K4:=Lib.hid (K2.out.below hb4)
  have z24:w2.heap.size≤w4.heap.size:=hb4.size
  have zz2:=lt_of_heap K2.out.Z
  have hcat:=CAt.ofVal (F:=(fun k=>k≠w.heap.size∧k≠w.heap.size+1∧k≠w.heap.size+2∧N k)) hK4.out hr4 (fun h=>h.1 rfl) (fun k hk=>⟨by omega,by omega,by omega,HN.out _ (by omega)⟩) (fun i hi=>by rcases hi with hi | hi;exact ⟨by omega,by omega,by omega,HN.out _ (by omega)⟩;have:=hi.2;exact ⟨by omega,by omega,by omega,hi.1⟩)
  have hz14:=lt_of_heap hK4.out
  clear x0 x1 x2 x3 x4 x5 x6 hb4 hr4 K2 hK1 z24 zz2 hz1
  obtain ⟨x0,x1,x2,x3,x4,x5,x6⟩:=P7.of hK4.out
  have hfz:∀ i,w4.frozen? ⟨w.heap.size,i,none⟩=false:=fun i=>Lib.frozen_of_heap hK4.out _
  go_upto_region 5 with fail
  refine name_world ?_
  intro w5 hW5
  have hA:=hcat.1
  have hS:=hcat.2
  rw [hW5] at hA hS
  have H5:=Lib.hid hA
  have K5:=Lib.hid (K4.out.stays (fun h=>h.1 rfl) hS)
  clear hcat hA hS hW5 hfz x0 x1 x2 x3 x4 x5 x6 K4 hK4 hz14
  obtain ⟨_,_,bb,nn,ss,kk,e0,e1,e2,e3,e4⟩:=H5.out
  obtain ⟨ba,bc,rfl,_⟩:=RdS.len e1
  obtain ⟨na,nc,rfl,_⟩:=RdS.len e2
  obtain ⟨sa,sc,rfl,_⟩:=RdS.len e3
  obtain ⟨ka,kc,rfl,_⟩:=RdS.len e4
  obtain ⟨x0,x1,x2,x3,x4,x5,x6⟩:=P7.of e0
  have E0:=Lib.hid e0
  have E1:=Lib.hid e1
  have E3:=Lib.hid e3
  have E4:=Lib.hid e4
  have hfz:∀ i,w5.frozen? ⟨w.heap.size,i,none⟩=false:=fun i=>Lib.frozen_of_heap e0 _
  have hgx:w.heap.size < w5.heap.size:=lt_of_heap e0
  clear e0 e1 e2 e3 e4
  obtain ⟨u0,u1,u2,u3⟩:=P4.of K5.out.M
  go_cut [10] (fun s10 wx=>s10=.bool (decide (m.e.client=who∧m.e.seq=c.seq∧c.sent≠[]))∧wx=w5)
  case first =>
   have way:((m.e.client == who)=true∧(m.e.seq == c.seq)=true∧0 < c.sent.length∧(m.e.client=who∧m.e.seq=c.seq∧c.sent≠[]))∨((m.e.client == who)=true∧(m.e.seq == c.seq)=true∧¬ 0 < c.sent.length∧¬ (m.e.client=who∧m.e.seq=c.seq∧c.sent≠[]))∨((m.e.client == who)=true∧(m.e.seq == c.seq)=false∧¬ (m.e.client=who∧m.e.seq=c.seq∧c.sent≠[]))∨((m.e.client == who)=false∧¬ (m.e.client=who∧m.e.seq=c.seq∧c.sent≠[])):=by
    by_cases a1:m.e.client=who
    ·by_cases a2:m.e.seq=c.seq
     ·by_cases a3:c.sent=[]
      ·exact Or.inr (Or.inl ⟨by simpa using a1,by simpa using a2,lpos_false a3,fun h=>h.2.2 a3⟩)
      ·exact Or.inl ⟨by simpa using a1,by simpa using a2,lpos_true a3,a1,a2,a3⟩
     ·exact Or.inr (Or.inr (Or.inl ⟨by simpa using a1,by simpa using a2,fun h=>a2 h.2.1⟩))
    ·exact Or.inr (Or.inr (Or.inr ⟨by simpa using a1,fun h=>a1 h.1⟩))
   rcases way with ⟨t1,t2,t3,t4⟩ | ⟨t1,t2,t3,t4⟩ | ⟨t1,t2,t4⟩ | ⟨t1,t4⟩
   ·have t5:=Lib.hid (decide_eq_true t4)
    clear t4
    go_wp2
    go_meet
    exact ⟨by rw [t5.out],rfl⟩
   ·have t5:=Lib.hid (decide_eq_false t4)
    clear t4
    go_wp2
    go_meet
    exact ⟨by rw [t5.out],rfl⟩
   ·have t5:=Lib.hid (decide_eq_false t4)
    clear t4
    go_wp2
    go_meet
    exact ⟨by rw [t5.out],rfl⟩
   ·have t5:=Lib.hid (decide_eq_false t4)
    clear t4
    go_wp2
    go_meet
    exact ⟨by rw [t5.out],rfl⟩
  case rest =>
   obtain ⟨rfl,hwc⟩:=hcut
   rw [hwc]
   clear hwc
   obtain ⟨ow,how⟩:∃ ow,Hid (decide (m.e.client=who∧m.e.seq=c.seq∧c.sent≠[])=ow):=⟨_,Lib.hid rfl⟩
   rw [how.out]
   have hwr:IntKind.i64.wrap (c.rev+1)=c.rev+1:=IntWalk.i64_in _ (by have:=hok.out.r0;have:=hok.out.r60;omega)
   by_cases ho:m.e.o=[]
   ·have t1:=len0_true ho
    by_cases hown:(m.e.client=who∧m.e.seq=c.seq∧c.sent≠[])
    ·have hr:=hres.out
     rw [hearC,if_neg (by simpa using hck'.out),if_pos ho,if_pos hown] at hr
     cases hr
     obtain rfl:ow=true:=how.out.symm.trans (decide_eq_true hown)
     clear hres ho hown
     go_wp2_with fail
     refine (clGive_any _ _ c w5 H5.out hok.out.sm.b).mono ?_
     rintro e w6 ⟨rfl,H6',S6⟩
     have H6:=Lib.hid H6'
     have K6:=Lib.hid (K5.out.stays (fun h=>h.1 rfl) S6)
     clear x0 x1 x2 x3 x4 x5 x6 u0 u1 u2 u3 hfz H6' S6 K5 H5
     obtain ⟨b9,n9,s9,k9,h0,hR⟩:=H6.out.val
     obtain ⟨m1,m2,m3,m4,m5,m6,m7,m8,rfl,rfl,rfl,rfl⟩:=rcl_shape hR
     obtain ⟨y0,y1,y2,y3,y4,y5,y6⟩:=P7.of K6.out.Z
     obtain ⟨x0,x1,x2,x3,x4,x5,x6⟩:=P7.of h0
     have hfz2:∀ i,w6.frozen? ⟨w.heap.size+2,i,none⟩=false:=fun i=>Lib.frozen_of_heap K6.out.Z _
     have hzz:=lt_of_heap K6.out.Z
     have hR':=Lib.hid hR
     clear hR h0
     go_wp2
     obtain ⟨q1,q2⟩:=set7z K6.out.Z (.int .i64 (giveC c).rev) (.slice m1 (giveC c).base.length m2) (.slice m3 (giveC c).now.length m4) (.int .i64 (giveC c).seq) (.slice m5 (giveC c).sent.length m6) (.slice m7 (giveC c).held.length m8) (.bool (giveC c).joined)
     generalize hwz:(((((((w6.setCell ⟨w.heap.size+2,0,none⟩ _).setCell ⟨w.heap.size+2,1,none⟩ _).setCell ⟨w.heap.size+2,2,none⟩ _).setCell ⟨w.heap.size+2,3,none⟩ _).setCell ⟨w.heap.size+2,4,none⟩ _).setCell ⟨w.heap.size+2,5,none⟩ _).setCell ⟨w.heap.size+2,6,none⟩ _)=wz at *
     obtain ⟨z0,z1,z2,z3,z4,z5,z6⟩:=P7.of q1
     exact bodyPost_ret (v:=.tuple #[.agg #[.int .i64 (giveC c).rev,.slice m1 (giveC c).base.length m2,.slice m3 (giveC c).now.length m4,.int .i64 (giveC c).seq,.slice m5 (giveC c).sent.length m6,.slice m7 (giveC c).held.length m8,.bool (giveC c).joined],.bool false,.int .i64 0]) (by simp [results,Tryz.results161,go_sem,z0,z1,z2,z3,z4,z5,z6]) rfl ⟨_,rfl,RCl.to hR'.out (fun i hi hl=>⟨hi.2.2.2,q2.same i hl hi.2.2.1⟩),K6.out.B.trans (q2.bel.mono (by omega))⟩
    ·have hr:=hres.out
     rw [hearC,if_neg (by simpa using hck'.out),if_pos ho,if_neg hown] at hr
     cases hr
     obtain rfl:ow=false:=how.out.symm.trans (decide_eq_false hown)
     clear hres ho hown x0 x1 x2 x3 x4 x5 x6
     obtain ⟨b9,n9,s9,k9,h0,hR⟩:=H5.out.val
     obtain ⟨m1,m2,m3,m4,m5,m6,m7,m8,rfl,rfl,rfl,rfl⟩:=rcl_shape hR
     obtain ⟨y0,y1,y2,y3,y4,y5,y6⟩:=P7.of K5.out.Z
     obtain ⟨x0,x1,x2,x3,x4,x5,x6⟩:=P7.of h0
     have hfz2:∀ i,w5.frozen? ⟨w.heap.size+2,i,none⟩=false:=fun i=>Lib.frozen_of_heap K5.out.Z _
     have hzz:=lt_of_heap K5.out.Z
     have hR':=Lib.hid hR
     clear hR h0
     go_wp2
     obtain ⟨q1,q2⟩:=set7z K5.out.Z (.int .i64 (c).rev) (.slice m1 (c).base.length m2) (.slice m3 (c).now.length m4) (.int .i64 (c).seq) (.slice m5 (c).sent.length m6) (.slice m7 (c).held.length m8) (.bool (c).joined)
     generalize hwz:(((((((w5.setCell ⟨w.heap.size+2,0,none⟩ _).setCell ⟨w.heap.size+2,1,none⟩ _).setCell ⟨w.heap.size+2,2,none⟩ _).setCell ⟨w.heap.size+2,3,none⟩ _).setCell ⟨w.heap.size+2,4,none⟩ _).setCell ⟨w.heap.size+2,5,none⟩ _).setCell ⟨w.heap.size+2,6,none⟩ _)=wz at *
     obtain ⟨z0,z1,z2,z3,z4,z5,z6⟩:=P7.of q1
     exact bodyPost_ret (v:=.tuple #[.agg #[.int .i64 (c).rev,.slice m1 (c).base.length m2,.slice m3 (c).now.length m4,.int .i64 (c).seq,.slice m5 (c).sent.length m6,.slice m7 (c).held.length m8,.bool (c).joined],.bool false,.int .i64 0]) (by simp [results,Tryz.results161,go_sem,z0,z1,z2,z3,z4,z5,z6]) rfl ⟨_,rfl,RCl.to hR'.out (fun i hi hl=>⟨hi.2.2.2,q2.same i hl hi.2.2.1⟩),K5.out.B.trans (q2.bel.mono (by omega))⟩
   ·have t1:=len0_false ho
    go_wp2_with fail
    refine (opCheck_any _ _ m.e.o w5 K5.out.V).mono ?_
    rintro e w6 ⟨rfl,hb6⟩
    have H6:=Lib.hid (H5.out.below hb6)
    have K6:=Lib.hid (K5.out.below hb6)
    clear x0 x1 x2 x3 x4 x5 x6 u0 u1 u2 u3 hfz K5 H5 hb6 E0 E1 E3 E4 hgx
    obtain ⟨_,_,bb,nn,ss,kk,e0,e1,e2,e3,e4⟩:=H6.out
    obtain ⟨ba,bc,rfl,_⟩:=RdS.len e1
    obtain ⟨na,nc,rfl,_⟩:=RdS.len e2
    obtain ⟨sa,sc,rfl,_⟩:=RdS.len e3
    obtain ⟨ka,kc,rfl,_⟩:=RdS.len e4
    obtain ⟨x0,x1,x2,x3,x4,x5,x6⟩:=P7.of e0
    have E0:=Lib.hid e0
    have E1:=Lib.hid e1
    have E3:=Lib.hid e3
    have E4:=Lib.hid e4
    have hfz:∀ i,w6.frozen? ⟨w.heap.size,i,none⟩=false:=fun i=>Lib.frozen_of_heap e0 _
    have hgx:w.heap.size < w6.heap.size:=lt_of_heap e0
    clear e0 e1 e2 e3 e4
    obtain ⟨u0,u1,u2,u3⟩:=P4.of K6.out.M
    by_cases hk:chkOp m.e.o=0
    ·have hk':=Lib.hid hk
     rw [hk]
     clear hk
     by_cases hbq:m.rev≠c.rev+1∨c.rev=60
     ·have hr:=hres.out
      rw [hearC,if_neg (by simpa using hck'.out),if_neg ho,if_neg (by simpa using hk'.out),if_pos hbq] at hr
      cases hr
      have way:(m.rev != c.rev+1)=true∨((m.rev != c.rev+1)=false∧(c.rev == 60)=true):=by
       by_cases a1:m.rev=c.rev+1
       ·exact Or.inr ⟨by simpa using a1,by simp;rcases hbq with h | h;exact absurd a1 h;exact h⟩
       ·exact Or.inl (by simpa using a1)
      clear hres ho hbq
      rcases way with b1 | ⟨b1,b2⟩
      all_goals
       clear E0 E1 E3 E4
       go_upto_region 14 with fail
       clear x0 x1 x2 x3 x4 x5 x6
       obtain ⟨b9,n9,s9,k9,h0,hR⟩:=H6.out.val
       obtain ⟨m1,m2,m3,m4,m5,m6,m7,m8,rfl,rfl,rfl,rfl⟩:=rcl_shape hR
       obtain ⟨y0,y1,y2,y3,y4,y5,y6⟩:=P7.of K6.out.Z
       obtain ⟨x0,x1,x2,x3,x4,x5,x6⟩:=P7.of h0
       have hfz2:∀ i,w6.frozen? ⟨w.heap.size+2,i,none⟩=false:=fun i=>Lib.frozen_of_heap K6.out.Z _
       have hzz:=lt_of_heap K6.out.Z
       have hR':=Lib.hid hR
       clear hR h0
       go_wp2
       obtain ⟨q1,q2⟩:=set7z K6.out.Z (.int .i64 (c).rev) (.slice m1 (c).base.length m2) (.slice m3 (c).now.length m4) (.int .i64 (c).seq) (.slice m5 (c).sent.length m6) (.slice m7 (c).held.length m8) (.bool (c).joined)
       generalize hwz:(((((((w6.setCell ⟨w.heap.size+2,0,none⟩ _).setCell ⟨w.heap.size+2,1,none⟩ _).setCell ⟨w.heap.size+2,2,none⟩ _).setCell ⟨w.heap.size+2,3,none⟩ _).setCell ⟨w.heap.size+2,4,none⟩ _).setCell ⟨w.heap.size+2,5,none⟩ _).setCell ⟨w.heap.size+2,6,none⟩ _)=wz at *
       obtain ⟨z0,z1,z2,z3,z4,z5,z6⟩:=P7.of q1
       exact bodyPost_ret (v:=.tuple #[.agg #[.int .i64 (c).rev,.slice m1 (c).base.length m2,.slice m3 (c).now.length m4,.int .i64 (c).seq,.slice m5 (c).sent.length m6,.slice m7 (c).held.length m8,.bool (c).joined],.bool false,.int .i64 0]) (by simp [results,Tryz.results161,go_sem,z0,z1,z2,z3,z4,z5,z6]) rfl ⟨_,rfl,RCl.to hR'.out (fun i hi hl=>⟨hi.2.2.2,q2.same i hl hi.2.2.1⟩),K6.out.B.trans (q2.bel.mono (by omega))⟩
     ·have b1:(m.rev != c.rev+1)=false:=by simp;exact Decidable.byContradiction fun h=>hbq (Or.inl h)
      have b2:(c.rev == 60)=false:=by simp;exact fun h=>hbq (Or.inr h)
      by_cases hown:(m.e.client=who∧m.e.seq=c.seq∧c.sent≠[])
      ·obtain rfl:ow=true:=how.out.symm.trans (decide_eq_true hown)
       have C:=Lib.hid (opApply_any _ _ _ _ c.base m.e.o w6 E1.out K6.out.V)
       by_cases he:(applyP c.base m.e.o).2=0
       ·rw [he] at C
        have he':=Lib.hid he
        have hlen:=Lib.hid (applyP_len he)
        have hr:=hres.out
        rw [hearC,if_neg (by simpa using hck'.out),if_neg ho,if_neg (by simpa using hk'.out),if_neg hbq,if_neg (not_not_intro hown),if_neg (by simpa using he)] at hr
        have hr':=Lib.hid hr
        clear hr hres ho hbq hown he
        go_wp2_with fail
        refine C.out.mono ?_
        rintro e w7 ⟨r7,rfl,hr7,hb7⟩
        obtain ⟨ra,rc,rfl,_⟩:=RdS.len hr7
        have H7:=Lib.hid (H6.out.below hb7)
        have K7:=Lib.hid (K6.out.below hb7)
        have A7:=Lib.hid (RItems.to hr7 (fun i hi hl=>⟨H6.out.2.1 i hi,rfl⟩):RItems (fun k=>k≠w.heap.size∧k≠w.heap.size+1∧k≠w.heap.size+2∧N k) w7 (.slice ra (applyP c.base m.e.o).1.length rc) (applyP c.base m.e.o).1)
        have E07:=Lib.hid ((hb7.block _ hgx).trans E0.out)
        have E47:=Lib.hid (ROp.to E4.out (Kp.below hb7))
        clear x0 x1 x2 x3 x4 x5 x6 u0 u1 u2 u3 hfz C K6 H6 E0 E1 E3 E4 hr7 hb7 hgx
        obtain ⟨x0,x1,x2,x3,x4,x5,x6⟩:=P7.of E07.out
        have hfz:∀ i,w7.frozen? ⟨w.heap.size,i,none⟩=false:=fun i=>Lib.frozen_of_heap E07.out _
        have hgx:w.heap.size < w7.heap.size:=lt_of_heap E07.out
        have S8:Stays w.heap.size w7 ((w7.setCell ⟨w.heap.size,1,none⟩ (.slice ra (applyP c.base m.e.o).1.length rc)).setCell ⟨w.heap.size,0,none⟩ (.int .i64 (c.rev+1))):=Stays.set.trans Stays.set
        have nF:¬ (fun k=>k≠w.heap.size∧k≠w.heap.size+1∧k≠w.heap.size+2∧N k) w.heap.size:=fun h=>h.1 rfl
        have H8:=Lib.hid ((((H7.out.set1 A7.out).set0 (c.rev+1)).set4 (ROp.to E47.out (kp_stays nF S8))).set5 (RdS.nil:ROp _ _ (.slice none 0 0) []))
        have S9:Stays w.heap.size w7 ((((w7.setCell ⟨w.heap.size,1,none⟩ (.slice ra (applyP c.base m.e.o).1.length rc)).setCell ⟨w.heap.size,0,none⟩ (.int .i64 (c.rev+1))).setCell ⟨w.heap.size,4,none⟩ (.slice ka c.held.length kc)).setCell ⟨w.heap.size,5,none⟩ (.slice none 0 0)):=(S8.trans Stays.set).trans Stays.set
        have K8:=Lib.hid (K7.out.stays nF S9)
        have A8:=Lib.hid (RItems.to A7.out (kp_stays nF S9))
        clear S8 S9 H7 K7 A7 E47
        go_upto_region 22 with fail
        refine name_world ?_
        intro w8 hW8
        rw [hW8] at H8 K8 A8
        clear hW8 x0 x1 x2 x3 x4 x5 x6 hfz hgx E07
        obtain ⟨_,_,bb,nn,ss,kk,e0,e1,e2,e3,e4⟩:=H8.out
        obtain ⟨ba8,bc8,rfl,_⟩:=RdS.len e1
        obtain ⟨na8,nc8,rfl,_⟩:=RdS.len e2
        obtain ⟨sa8,sc8,rfl,_⟩:=RdS.len e3
        obtain ⟨ka8,kc8,rfl,_⟩:=RdS.len e4
        obtain ⟨x0,x1,x2,x3,x4,x5,x6⟩:=P7.of e0
        have E0:=Lib.hid e0
        have E1:=Lib.hid e1
        have E3:=Lib.hid e3
        have E4:=Lib.hid e4
        have hfz:∀ i,w8.frozen? ⟨w.heap.size,i,none⟩=false:=fun i=>Lib.frozen_of_heap e0 _
        have hgx:w.heap.size < w8.heap.size:=lt_of_heap e0
        clear e0 e1 e2 e3 e4
        by_cases hh:c.held=[]
        ·have t2:=len0_true hh
         have hr:=hr'.out
         rw [if_pos hh] at hr
         cases hr
         have hss:({ c with base:=(applyP c.base m.e.o).1,rev:=c.rev+1,sent:=c.held,held:=[] }:Cl)={ c with base:=(applyP c.base m.e.o).1,rev:=c.rev+1,sent:=[],held:=[] }:=by rw [hh]
         have H8':=Lib.hid (hss ▸ H8.out)
         clear hh hss hr' H8
         go_wp2_with fail
         refine (cloneDoc_any _ _ (applyP c.base m.e.o).1 w8 A8.out hlen.out).mono ?_
         rintro e w9 ⟨u9,rfl,hu,hb9⟩
         obtain ⟨ua,uc,rfl,_⟩:=RdS.len hu.rd
         have H9:=Lib.hid (H8'.out.below hb9)
         have U9:=Lib.hid (RItems.to hu.rd (fun i hi hl=>⟨H8'.out.2.1 i hi,rfl⟩):RItems (fun k=>k≠w.heap.size∧k≠w.heap.size+1∧k≠w.heap.size+2∧N k) w9 (.slice ua (applyP c.base m.e.o).1.length uc) (applyP c.base m.e.o).1)
         have H10:=Lib.hid (H9.out.set2 U9.out)
         have K10:=Lib.hid ((K8.out.below hb9).stays (fun h=>h.1 rfl) (Stays.set (i:=2) (u:=.slice ua (applyP c.base m.e.o).1.length uc)))
         have E09:=Lib.hid ((hb9.block _ hgx).trans E0.out)
         clear x0 x1 x2 x3 x4 x5 x6 hfz hu hb9 hgx E0 E1 E3 E4 K8 A8 H8' H9 U9
         obtain ⟨x0,x1,x2,x3,x4,x5,x6⟩:=P7.of E09.out
         have hfz:∀ i,w9.frozen? ⟨w.heap.size,i,none⟩=false:=fun i=>Lib.frozen_of_heap E09.out _
         have hgx:w.heap.size < w9.heap.size:=lt_of_heap E09.out
         go_upto_region 24 with fail
         refine name_world ?_
         intro w10 hW10
         rw [hW10] at H10 K10
         clear hW10 x0 x1 x2 x3 x4 x5 x6 hfz hgx E09
         obtain ⟨b9,n9,s9,k9,h0,hR⟩:=H10.out.val
         obtain ⟨m1,m2,m3,m4,m5,m6,m7,m8,rfl,rfl,rfl,rfl⟩:=rcl_shape hR
         obtain ⟨y0,y1,y2,y3,y4,y5,y6⟩:=P7.of K10.out.Z
         obtain ⟨x0,x1,x2,x3,x4,x5,x6⟩:=P7.of h0
         have hfz2:∀ i,w10.frozen? ⟨w.heap.size+2,i,none⟩=false:=fun i=>Lib.frozen_of_heap K10.out.Z _
         have hzz:=lt_of_heap K10.out.Z
         have hR':=Lib.hid hR
         clear hR h0
         go_wp2
         obtain ⟨q1,q2⟩:=set7z K10.out.Z (.int .i64 ({ c with base:=(applyP c.base m.e.o).1,rev:=c.rev+1,sent:=[],held:=[],now:=(applyP c.base m.e.o).1 }:Cl).rev) (.slice m1 ({ c with base:=(applyP c.base m.e.o).1,rev:=c.rev+1,sent:=[],held:=[],now:=(applyP c.base m.e.o).1 }:Cl).base.length m2) (.slice m3 ({ c with base:=(applyP c.base m.e.o).1,rev:=c.rev+1,sent:=[],held:=[],now:=(applyP c.base m.e.o).1 }:Cl).now.length m4) (.int .i64 ({ c with base:=(applyP c.base m.e.o).1,rev:=c.rev+1,sent:=[],held:=[],now:=(applyP c.base m.e.o).1 }:Cl).seq) (.slice m5 ({ c with base:=(applyP c.base m.e.o).1,rev:=c.rev+1,sent:=[],held:=[],now:=(applyP c.base m.e.o).1 }:Cl).sent.length m6) (.slice m7 ({ c with base:=(applyP c.base m.e.o).1,rev:=c.rev+1,sent:=[],held:=[],now:=(applyP c.base m.e.o).1 }:Cl).held.length m8) (.bool ({ c with base:=(applyP c.base m.e.o).1,rev:=c.rev+1,sent:=[],held:=[],now:=(applyP c.base m.e.o).1 }:Cl).joined)
         generalize hwz:(((((((w10.setCell ⟨w.heap.size+2,0,none⟩ _).setCell ⟨w.heap.size+2,1,none⟩ _).setCell ⟨w.heap.size+2,2,none⟩ _).setCell ⟨w.heap.size+2,3,none⟩ _).setCell ⟨w.heap.size+2,4,none⟩ _).setCell ⟨w.heap.size+2,5,none⟩ _).setCell ⟨w.heap.size+2,6,none⟩ _)=wz at *
         obtain ⟨z0,z1,z2,z3,z4,z5,z6⟩:=P7.of q1
         exact bodyPost_ret (v:=.tuple #[.agg #[.int .i64 ({ c with base:=(applyP c.base m.e.o).1,rev:=c.rev+1,sent:=[],held:=[],now:=(applyP c.base m.e.o).1 }:Cl).rev,.slice m1 ({ c with base:=(applyP c.base m.e.o).1,rev:=c.rev+1,sent:=[],held:=[],now:=(applyP c.base m.e.o).1 }:Cl).base.length m2,.slice m3 ({ c with base:=(applyP c.base m.e.o).1,rev:=c.rev+1,sent:=[],held:=[],now:=(applyP c.base m.e.o).1 }:Cl).now.length m4,.int .i64 ({ c with base:=(applyP c.base m.e.o).1,rev:=c.rev+1,sent:=[],held:=[],now:=(applyP c.base m.e.o).1 }:Cl).seq,.slice m5 ({ c with base:=(applyP c.base m.e.o).1,rev:=c.rev+1,sent:=[],held:=[],now:=(applyP c.base m.e.o).1 }:Cl).sent.length m6,.slice m7 ({ c with base:=(applyP c.base m.e.o).1,rev:=c.rev+1,sent:=[],held:=[],now:=(applyP c.base m.e.o).1 }:Cl).held.length m8,.bool ({ c with base:=(applyP c.base m.e.o).1,rev:=c.rev+1,sent:=[],held:=[],now:=(applyP c.base m.e.o).1 }:Cl).joined],.bool false,.int .i64 0]) (by simp [results,Tryz.results161,go_sem,z0,z1,z2,z3,z4,z5,z6]) rfl ⟨_,rfl,RCl.to hR'.out (fun i hi hl=>⟨hi.2.2.2,q2.same i hl hi.2.2.1⟩),K10.out.B.trans (q2.bel.mono (by omega))⟩
        ·have t2:=len0_false hh
         by_cases hq:c.seq=10000
         ·have t3:(c.seq == 10000)=true:=by simpa using hq
          have hr:=hr'.out
          rw [if_neg hh,if_pos (Or.inl hq)] at hr
          simp only [Prod.mk.injEq] at hr
          obtain ⟨hr1,rfl,rfl⟩:=hr
          have hR1:=Lib.hid hr1
          clear hr1
          clear hh hq hr'
          go_wp2_with fail
          refine (clGive_any _ _ _ w8 H8.out hlen.out).mono ?_
          rintro e w9 ⟨rfl,H9',S9⟩
          have H9:Hid (CAt 52 (fun k=>k≠w.heap.size∧k≠w.heap.size+1∧k≠w.heap.size+2∧N k) w9 w.heap.size R1):=Lib.hid (by rw [← hR1.out];exact H9')
          have K9:=Lib.hid (K8.out.stays (fun h=>h.1 rfl) S9)
          clear x0 x1 x2 x3 x4 x5 x6 hfz H9' S9 K8 H8 E0 E1 E3 E4 hgx
          obtain ⟨b9,n9,s9,k9,h0,hR⟩:=H9.out.val
          obtain ⟨m1,m2,m3,m4,m5,m6,m7,m8,rfl,rfl,rfl,rfl⟩:=rcl_shape hR
          obtain ⟨y0,y1,y2,y3,y4,y5,y6⟩:=P7.of K9.out.Z
          obtain ⟨x0,x1,x2,x3,x4,x5,x6⟩:=P7.of h0
          have hfz2:∀ i,w9.frozen? ⟨w.heap.size+2,i,none⟩=false:=fun i=>Lib.frozen_of_heap K9.out.Z _
          have hzz:=lt_of_heap K9.out.Z
          have hR':=Lib.hid hR
          clear hR h0
          go_wp2
          obtain ⟨q1,q2⟩:=set7z K9.out.Z (.int .i64 (R1).rev) (.slice m1 (R1).base.length m2) (.slice m3 (R1).now.length m4) (.int .i64 (R1).seq) (.slice m5 (R1).sent.length m6) (.slice m7 (R1).held.length m8) (.bool (R1).joined)
          generalize hwz:(((((((w9.setCell ⟨w.heap.size+2,0,none⟩ _).setCell ⟨w.heap.size+2,1,none⟩ _).setCell ⟨w.heap.size+2,2,none⟩ _).setCell ⟨w.heap.size+2,3,none⟩ _).setCell ⟨w.heap.size+2,4,none⟩ _).setCell ⟨w.heap.size+2,5,none⟩ _).setCell ⟨w.heap.size+2,6,none⟩ _)=wz at *
          obtain ⟨z0,z1,z2,z3,z4,z5,z6⟩:=P7.of q1
          exact bodyPost_ret (v:=.tuple #[.agg #[.int .i64 (R1).rev,.slice m1 (R1).base.length m2,.slice m3 (R1).now.length m4,.int .i64 (R1).seq,.slice m5 (R1).sent.length m6,.slice m7 (R1).held.length m8,.bool (R1).joined],.bool false,.int .i64 0]) (by simp [results,Tryz.results161,go_sem,z0,z1,z2,z3,z4,z5,z6]) rfl ⟨_,rfl,RCl.to hR'.out (fun i hi hl=>⟨hi.2.2.2,q2.same i hl hi.2.2.1⟩),K9.out.B.trans (q2.bel.mono (by omega))⟩
         ·have t3:(c.seq == 10000)=false:=by simpa using hq
          have C2:=Lib.hid (opApply_any _ _ _ _ (applyP c.base m.e.o).1 c.held w8 A8.out E3.out)
          by_cases he2:(applyP (applyP c.base m.e.o).1 c.held).2=0
          ·have hr:=hr'.out
           rw [if_neg hh,if_neg (fun h=>by rcases h with h | h;exact hq h;exact h he2)] at hr
           simp only [Prod.mk.injEq] at hr
           obtain ⟨hr1,rfl,rfl⟩:=hr
           have hR1:=Lib.hid hr1
           clear hr1
           rw [he2] at C2
           have hws:IntKind.i64.wrap (c.seq+1)=c.seq+1:=IntWalk.i64_in _ (by have:=hok.out.s0;have:=hok.out.s1;omega)
           clear hh hq hr' he2
           go_wp2_with fail
           refine C2.out.mono ?_
           rintro e w9 ⟨r9,rfl,hr9,hb9⟩
           obtain ⟨ua,uc,rfl,_⟩:=RdS.len hr9
           have H9:=Lib.hid (H8.out.below hb9)
           have U9:=Lib.hid (RItems.to hr9 (fun i hi hl=>⟨H8.out.2.1 i hi,rfl⟩):RItems (fun k=>k≠w.heap.size∧k≠w.heap.size+1∧k≠w.heap.size+2∧N k) w9 (.slice ua (applyP (applyP c.base m.e.o).1 c.held).1.length uc) (applyP (applyP c.base m.e.o).1 c.held).1)
           have H10:=Lib.hid ((H9.out.set2 U9.out).set3 (c.seq+1))
           have K10:=Lib.hid ((K8.out.below hb9).stays (fun h=>h.1 rfl) ((Stays.set (i:=2) (u:=.slice ua (applyP (applyP c.base m.e.o).1 c.held).1.length uc)).trans (Stays.set (i:=3) (u:=.int .i64 (c.seq+1)))))
           have E09:=Lib.hid ((hb9.block _ hgx).trans E0.out)
           clear x0 x1 x2 x3 x4 x5 x6 hfz hr9 hb9 hgx E0 E1 E3 E4 K8 A8 H8 H9 U9 C2
           obtain ⟨x0,x1,x2,x3,x4,x5,x6⟩:=P7.of E09.out
           have hfz:∀ i,w9.frozen? ⟨w.heap.size,i,none⟩=false:=fun i=>Lib.frozen_of_heap E09.out _
           have hgx:w.heap.size < w9.heap.size:=lt_of_heap E09.out
           go_upto_region 34 with fail
           refine name_world ?_
           intro w10 hW10
           rw [hW10] at H10 K10
           have H11:Hid (CAt 52 (fun k=>k≠w.heap.size∧k≠w.heap.size+1∧k≠w.heap.size+2∧N k) w10 w.heap.size R1):=Lib.hid (by rw [← hR1.out];exact H10.out)
           clear H10 hW10 x0 x1 x2 x3 x4 x5 x6 hfz hgx E09
           obtain ⟨b9,n9,s9,k9,h0,hR⟩:=H11.out.val
           obtain ⟨m1,m2,m3,m4,m5,m6,m7,m8,rfl,rfl,rfl,rfl⟩:=rcl_shape hR
           obtain ⟨y0,y1,y2,y3,y4,y5,y6⟩:=P7.of K10.out.Z
           obtain ⟨x0,x1,x2,x3,x4,x5,x6⟩:=P7.of h0
           have hfz2:∀ i,w10.frozen? ⟨w.heap.size+2,i,none⟩=false:=fun i=>Lib.frozen_of_heap K10.out.Z _
           have hzz:=lt_of_heap K10.out.Z
           have hR':=Lib.hid hR
           clear hR h0
           go_wp2
           obtain ⟨q1,q2⟩:=set7z K10.out.Z (.int .i64 (R1).rev) (.slice m1 (R1).base.length m2) (.slice m3 (R1).now.length m4) (.int .i64 (R1).seq) (.slice m5 (R1).sent.length m6) (.slice m7 (R1).held.length m8) (.bool (R1).joined)
           generalize hwz:(((((((w10.setCell ⟨w.heap.size+2,0,none⟩ _).setCell ⟨w.heap.size+2,1,none⟩ _).setCell ⟨w.heap.size+2,2,none⟩ _).setCell ⟨w.heap.size+2,3,none⟩ _).setCell ⟨w.heap.size+2,4,none⟩ _).setCell ⟨w.heap.size+2,5,none⟩ _).setCell ⟨w.heap.size+2,6,none⟩ _)=wz at *
           obtain ⟨z0,z1,z2,z3,z4,z5,z6⟩:=P7.of q1
           exact bodyPost_ret (v:=.tuple #[.agg #[.int .i64 (R1).rev,.slice m1 (R1).base.length m2,.slice m3 (R1).now.length m4,.int .i64 (R1).seq,.slice m5 (R1).sent.length m6,.slice m7 (R1).held.length m8,.bool (R1).joined],.bool true,.int .i64 0]) (by simp [results,Tryz.results161,go_sem,z0,z1,z2,z3,z4,z5,z6]) rfl ⟨_,rfl,RCl.to hR'.out (fun i hi hl=>⟨hi.2.2.2,q2.same i hl hi.2.2.1⟩),K10.out.B.trans (q2.bel.mono (by omega))⟩
          ·have hr:=hr'.out
           rw [if_neg hh,if_pos (Or.inr he2)] at hr
           simp only [Prod.mk.injEq] at hr
           obtain ⟨hr1,rfl,rfl⟩:=hr
           have hR1:=Lib.hid hr1
           clear hr1
           have he2':((applyP (applyP c.base m.e.o).1 c.held).2 != 0)=true:=by simpa using he2
           clear hh hq hr' he2
           go_wp2_with fail
           refine C2.out.mono ?_
           rintro e w9 ⟨r9,rfl,hr9,hb9⟩
           have H9:=Lib.hid (H8.out.below hb9)
           have K9:=Lib.hid (K8.out.below hb9)
           clear x0 x1 x2 x3 x4 x5 x6 hfz hr9 hb9 hgx E0 E1 E3 E4 K8 A8 H8 C2
           go_wp2_with fail
           refine (clGive_any _ _ _ w9 H9.out hlen.out).mono ?_
           rintro e w10 ⟨rfl,H10',S10⟩
           have H10:Hid (CAt 52 (fun k=>k≠w.heap.size∧k≠w.heap.size+1∧k≠w.heap.size+2∧N k) w10 w.heap.size R1):=Lib.hid (by rw [← hR1.out];exact H10')
           have K10:=Lib.hid (K9.out.stays (fun h=>h.1 rfl) S10)
           clear H10' S10 K9 H9
           obtain ⟨b9,n9,s9,k9,h0,hR⟩:=H10.out.val
           obtain ⟨m1,m2,m3,m4,m5,m6,m7,m8,rfl,rfl,rfl,rfl⟩:=rcl_shape hR
           obtain ⟨y0,y1,y2,y3,y4,y5,y6⟩:=P7.of K10.out.Z
           obtain ⟨x0,x1,x2,x3,x4,x5,x6⟩:=P7.of h0
           have hfz2:∀ i,w10.frozen? ⟨w.heap.size+2,i,none⟩=false:=fun i=>Lib.frozen_of_heap K10.out.Z _
           have hzz:=lt_of_heap K10.out.Z
           have hR':=Lib.hid hR
           clear hR h0
           go_wp2
           obtain ⟨q1,q2⟩:=set7z K10.out.Z (.int .i64 (R1).rev) (.slice m1 (R1).base.length m2) (.slice m3 (R1).now.length m4) (.int .i64 (R1).seq) (.slice m5 (R1).sent.length m6) (.slice m7 (R1).held.length m8) (.bool (R1).joined)
           generalize hwz:(((((((w10.setCell ⟨w.heap.size+2,0,none⟩ _).setCell ⟨w.heap.size+2,1,none⟩ _).setCell ⟨w.heap.size+2,2,none⟩ _).setCell ⟨w.heap.size+2,3,none⟩ _).setCell ⟨w.heap.size+2,4,none⟩ _).setCell ⟨w.heap.size+2,5,none⟩ _).setCell ⟨w.heap.size+2,6,none⟩ _)=wz at *
           obtain ⟨z0,z1,z2,z3,z4,z5,z6⟩:=P7.of q1
           exact bodyPost_ret (v:=.tuple #[.agg #[.int .i64 (R1).rev,.slice m1 (R1).base.length m2,.slice m3 (R1).now.length m4,.int .i64 (R1).seq,.slice m5 (R1).sent.length m6,.slice m7 (R1).held.length m8,.bool (R1).joined],.bool false,.int .i64 0]) (by simp [results,Tryz.results161,go_sem,z0,z1,z2,z3,z4,z5,z6]) rfl ⟨_,rfl,RCl.to hR'.out (fun i hi hl=>⟨hi.2.2.2,q2.same i hl hi.2.2.1⟩),K10.out.B.trans (q2.bel.mono (by omega))⟩
       ·have hr:=hres.out
        rw [hearC,if_neg (by simpa using hck'.out),if_neg ho,if_neg (by simpa using hk'.out),if_neg hbq,if_neg (not_not_intro hown),if_pos he] at hr
        cases hr
        have he':((applyP c.base m.e.o).2 != 0)=true:=by simpa using he
        clear hres ho hbq hown he
        go_wp2_with fail
        refine C.out.mono ?_
        rintro e w7 ⟨r7,rfl,hr7,hb7⟩
        have K7:=Lib.hid (K6.out.below hb7)
        clear x0 x1 x2 x3 x4 x5 x6 u0 u1 u2 u3 hfz C K6 H6 E0 E1 E3 E4 hr7 hb7 hgx
        obtain ⟨y0,y1,y2,y3,y4,y5,y6⟩:=P7.of K7.out.Z
        have hfz2:∀ i,w7.frozen? ⟨w.heap.size+2,i,none⟩=false:=fun i=>Lib.frozen_of_heap K7.out.Z _
        have hzz:=lt_of_heap K7.out.Z
        go_wp2
        obtain ⟨q1,q2⟩:=set7z K7.out.Z (.int .i64 0) (.slice none 0 0) (.slice none 0 0) (.int .i64 0) (.slice none 0 0) (.slice none 0 0) (.bool false)
        generalize hwz:(((((((w7.setCell ⟨w.heap.size+2,0,none⟩ (.int .i64 0)).setCell ⟨w.heap.size+2,1,none⟩ (.slice none 0 0)).setCell ⟨w.heap.size+2,2,none⟩ (.slice none 0 0)).setCell ⟨w.heap.size+2,3,none⟩ (.int .i64 0)).setCell ⟨w.heap.size+2,4,none⟩ (.slice none 0 0)).setCell ⟨w.heap.size+2,5,none⟩ (.slice none 0 0)).setCell ⟨w.heap.size+2,6,none⟩ (.bool false))=wz at *
        obtain ⟨z0,z1,z2,z3,z4,z5,z6⟩:=P7.of q1
        exact bodyPost_ret (v:=.tuple #[.agg #[.int .i64 0,.slice none 0 0,.slice none 0 0,.int .i64 0,.slice none 0 0,.slice none 0 0,.bool false],.bool false,.int .i64 (applyP c.base m.e.o).2]) (by simp [results,Tryz.results161,go_sem,z0,z1,z2,z3,z4,z5,z6]) rfl ⟨_,rfl,RCl.zero,K7.out.B.trans (q2.bel.mono (by omega))⟩
      ·have hr:=hres.out
       rw [hearC,if_neg (by simpa using hck'.out),if_neg ho,if_neg (by simpa using hk'.out),if_neg hbq,if_pos hown] at hr
       cases hr
       obtain rfl:ow=false:=how.out.symm.trans (decide_eq_false hown)
       clear hres ho hbq hown
       have hT:∀ k,¬ (fun k=>k≠w.heap.size∧k≠w.heap.size+1∧k≠w.heap.size+2∧N k) k→k=w.heap.size∨∃ xs fr T',w6.heap[k]?=some (.cells xs T' fr)∧T'≠58:=fun k hk=>by
        by_cases k0:k=w.heap.size
        ·exact Or.inl k0
        ·by_cases k1:k=w.heap.size+1
         ·exact Or.inr ⟨_,_,_,by rw [k1];exact K6.out.M,by decide⟩
         ·by_cases k2:k=w.heap.size+2
          ·exact Or.inr ⟨_,_,_,by rw [k2];exact K6.out.Z,by decide⟩
          ·obtain ⟨xs,fr,T',e1,e2⟩:=HNT.out k (fun hn=>hk ⟨k0,k1,k2,hn⟩)
           exact Or.inr ⟨xs,fr,T',(K6.out.B.block k (lt_of_heap e1)).trans e1,e2⟩
       have C:=Lib.hid (clOther_any _ _ _ c m.e.o w6 H6.out K6.out.V hT hok.out.r0 hok.out.r60)
       clear hT
       go_wp2_with fail
       refine C.out.mono ?_
       rintro e w7 ⟨rfl,H7',S7⟩
       have H7:=Lib.hid H7'
       have K7:=Lib.hid (K6.out.stays (fun h=>h.1 rfl) S7)
       clear x0 x1 x2 x3 x4 x5 x6 u0 u1 u2 u3 hfz H7' S7 K6 H6 C E0 E1 E3 E4 hgx
       obtain ⟨b9,n9,s9,k9,h0,hR⟩:=H7.out.val
       obtain ⟨m1,m2,m3,m4,m5,m6,m7,m8,rfl,rfl,rfl,rfl⟩:=rcl_shape hR
       obtain ⟨y0,y1,y2,y3,y4,y5,y6⟩:=P7.of K7.out.Z
       obtain ⟨x0,x1,x2,x3,x4,x5,x6⟩:=P7.of h0
       have hfz2:∀ i,w7.frozen? ⟨w.heap.size+2,i,none⟩=false:=fun i=>Lib.frozen_of_heap K7.out.Z _
       have hzz:=lt_of_heap K7.out.Z
       have hR':=Lib.hid hR
       clear hR h0
       go_wp2
       obtain ⟨q1,q2⟩:=set7z K7.out.Z (.int .i64 (otherC c m.e.o).rev) (.slice m1 (otherC c m.e.o).base.length m2) (.slice m3 (otherC c m.e.o).now.length m4) (.int .i64 (otherC c m.e.o).seq) (.slice m5 (otherC c m.e.o).sent.length m6) (.slice m7 (otherC c m.e.o).held.length m8) (.bool (otherC c m.e.o).joined)
       generalize hwz:(((((((w7.setCell ⟨w.heap.size+2,0,none⟩ _).setCell ⟨w.heap.size+2,1,none⟩ _).setCell ⟨w.heap.size+2,2,none⟩ _).setCell ⟨w.heap.size+2,3,none⟩ _).setCell ⟨w.heap.size+2,4,none⟩ _).setCell ⟨w.heap.size+2,5,none⟩ _).setCell ⟨w.heap.size+2,6,none⟩ _)=wz at *
       obtain ⟨z0,z1,z2,z3,z4,z5,z6⟩:=P7.of q1
       exact bodyPost_ret (v:=.tuple #[.agg #[.int .i64 (otherC c m.e.o).rev,.slice m1 (otherC c m.e.o).base.length m2,.slice m3 (otherC c m.e.o).now.length m4,.int .i64 (otherC c m.e.o).seq,.slice m5 (otherC c m.e.o).sent.length m6,.slice m7 (otherC c m.e.o).held.length m8,.bool (otherC c m.e.o).joined],.bool false,.int .i64 0]) (by simp [results,Tryz.results161,go_sem,z0,z1,z2,z3,z4,z5,z6]) rfl ⟨_,rfl,RCl.to hR'.out (fun i hi hl=>⟨hi.2.2.2,q2.same i hl hi.2.2.1⟩),K7.out.B.trans (q2.bel.mono (by omega))⟩
    ·have hr:=hres.out
     rw [hearC,if_neg (by simpa using hck'.out),if_neg ho,if_pos hk] at hr
     cases hr
     have hk':(chkOp m.e.o != 0)=true:=by simpa using hk
     clear hres ho hk
     obtain ⟨y0,y1,y2,y3,y4,y5,y6⟩:=P7.of K6.out.Z
     have hfz2:∀ i,w6.frozen? ⟨w.heap.size+2,i,none⟩=false:=fun i=>Lib.frozen_of_heap K6.out.Z _
     have hzz:=lt_of_heap K6.out.Z
     go_wp2
     obtain ⟨q1,q2⟩:=set7z K6.out.Z (.int .i64 0) (.slice none 0 0) (.slice none 0 0) (.int .i64 0) (.slice none 0 0) (.slice none 0 0) (.bool false)
     generalize hwz:(((((((w6.setCell ⟨w.heap.size+2,0,none⟩ (.int .i64 0)).setCell ⟨w.heap.size+2,1,none⟩ (.slice none 0 0)).setCell ⟨w.heap.size+2,2,none⟩ (.slice none 0 0)).setCell ⟨w.heap.size+2,3,none⟩ (.int .i64 0)).setCell ⟨w.heap.size+2,4,none⟩ (.slice none 0 0)).setCell ⟨w.heap.size+2,5,none⟩ (.slice none 0 0)).setCell ⟨w.heap.size+2,6,none⟩ (.bool false))=wz at *
     obtain ⟨z0,z1,z2,z3,z4,z5,z6⟩:=P7.of q1
     exact bodyPost_ret (v:=.tuple #[.agg #[.int .i64 0,.slice none 0 0,.slice none 0 0,.int .i64 0,.slice none 0 0,.slice none 0 0,.bool false],.bool false,.int .i64 (chkOp m.e.o)]) (by simp [results,Tryz.results161,go_sem,z0,z1,z2,z3,z4,z5,z6]) rfl ⟨_,rfl,RCl.zero,K6.out.B.trans (q2.bel.mono (by omega))⟩
 ·have hr:=hres.out
  rw [hearC,if_pos hck] at hr
  cases hr
  have hck':(chkCl c != 0)=true:=by simpa using hck
  clear hck hres
  obtain ⟨y0,y1,y2,y3,y4,y5,y6⟩:=P7.of K2.out.Z
  have hfz2:∀ i,w2.frozen? ⟨w.heap.size+2,i,none⟩=false:=fun i=>Lib.frozen_of_heap K2.out.Z _
  have hzz:=lt_of_heap K2.out.Z
  go_wp2
  obtain ⟨q1,q2⟩:=set7z K2.out.Z (.int .i64 0) (.slice none 0 0) (.slice none 0 0) (.int .i64 0) (.slice none 0 0) (.slice none 0 0) (.bool false)
  generalize hwz:(((((((w2.setCell ⟨w.heap.size+2,0,none⟩ (.int .i64 0)).setCell ⟨w.heap.size+2,1,none⟩ (.slice none 0 0)).setCell ⟨w.heap.size+2,2,none⟩ (.slice none 0 0)).setCell ⟨w.heap.size+2,3,none⟩ (.int .i64 0)).setCell ⟨w.heap.size+2,4,none⟩ (.slice none 0 0)).setCell ⟨w.heap.size+2,5,none⟩ (.slice none 0 0)).setCell ⟨w.heap.size+2,6,none⟩ (.bool false))=wz at *
  obtain ⟨z0,z1,z2,z3,z4,z5,z6⟩:=P7.of q1
  exact bodyPost_ret (v:=.tuple #[.agg #[.int .i64 0,.slice none 0 0,.slice none 0 0,.int .i64 0,.slice none 0 0,.slice none 0 0,.bool false],.bool false,.int .i64 (chkCl c)]) (by simp [results,Tryz.results161,go_sem,z0,z1,z2,z3,z4,z5,z6]) rfl ⟨_,rfl,RCl.zero,K2.out.B.trans (q2.bel.mono (by omega))⟩
end Go.Proofs.YteikncnldbdfmaaGreatDoor
