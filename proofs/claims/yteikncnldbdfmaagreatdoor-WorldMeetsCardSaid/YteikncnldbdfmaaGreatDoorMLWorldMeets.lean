import Derived.Test.YteikncnldbdfmaaGreatDoorMMet
import Derived.Test.YteikncnldbdfmaaGreatDoorMPlayM
import Derived.Test.YteikncnldbdfmaaGreatDoorMCalm
namespace Go.Proofs.YteikncnldbdfmaaGreatDoor
open Go Go.RowKit Go.Mh
theorem meets1_any (V:Wd) (v:Value) (w:World) (h:RWd (fun _=>True) w v V):Calls Tryz.prog 28 #[v] w fun e w'=>e=.returned (.bool true)∧Below w.heap.size w w':=by
 obtain ⟨a1,a2,l1,l2,n1,n2,c1,c2,u1,u2,d1,d2,rfl⟩:=RWd.shape h
 go_enter Tryz.func28,Tryz.ntmps28
 go_wp2
 go_ret
 exact ⟨rfl,bal (brf w) _⟩
set_option maxRecDepth 100000 in
set_option maxHeartbeats 4000000 in
theorem worldMeets_walk (F G:Nat→Prop) (v u:Value) (d:List It) (n:Int) (l:List Hap) (w:World) (hm:∃ m,w.cell? ⟨2,0,none⟩=some (.int .i64 m)) (hd:RItems F w v d) (hl:RHaps G w u l) :
  Calls Tryz.prog 6 #[v,.int .i64 n,u] w fun e w'=>e=.returned (.bool true)∧Below w.heap.size w w':=by
 obtain ⟨aa,ac,rfl,_⟩:=RdS.len hd
 obtain ⟨la,lc,rfl,_⟩:=RdS.len hl
 have C1:=Lib.hid (met_any w hm)
 replace hm:=Lib.hid hm
 replace hd:=Lib.hid (RItems.to hd (Kp.lt w))
 replace hl:=Lib.hid (RHaps.to hl (Kp.lt w))
 go_enter Tryz.func6,Tryz.ntmps6
 go_wp2_with fail
 refine C1.out.mono ?_
 rintro e w1 ⟨rfl,hb1⟩
 have C2:=Lib.hid (check_any _ _ d w1 (RItems.to hd.out (Kp.below hb1)))
 go_wp2_with fail
 refine C2.out.mono ?_
 rintro e w2 ⟨rfl,hb2⟩
 have hb02:=Lib.hid (btr hb1 hb2)
 have hm2:=Lib.hid (max_keep hm.out hb02.out)
 clear C1 C2 hb1 hb2
 by_cases hc:chkDoc d=0
 ·have hc':(chkDoc d != 0)=false:=by simpa using hc
  have CA:=Lib.hid (at_any n 4 (by decide) (by decide) w2)
  replace hc:=Lib.hid hc
  go_wp2_with fail
  refine CA.out.mono ?_
  rintro e w3 ⟨m,rfl,m0,m4,hb3⟩
  have hb03:=btr hb02.out hb3
  have hwm:wrap64 (1+m)=1+m:=wrap_w (by omega) (by omega)
  have CP:=Lib.hid (playedM_any _ _ _ _ d (1+m) l w3 (RItems.to hd.out (Kp.below hb03)) (RHaps.to hl.out (Kp.below hb03)) (max_keep hm.out hb03) hc.out (by omega) (by omega) (fun V q w' hq _=>meets1_any V q w' hq))
  replace hb03:=Lib.hid hb03
  clear CA hb3 m0 m4
  go_wp2_with fail
  refine CP.out.mono ?_
  rintro e w4 ⟨r,V,rfl,hr,hI,hb4⟩
  obtain ⟨a1,a2,l1,l2,n1,n2,c1,c2,u1,u2,d1,d2,rfl⟩:=RWd.shape hr
  have hb04:=btr hb03.out hb4
  obtain ⟨w5,hw5⟩:∃ w5,w5=w4.alloc (.cells #[.slice a1 V.s.first.length a2,.slice l1 V.s.log.length l2,.slice n1 V.s.now.length n2,.slice c1 V.cl.length c2,.slice u1 V.up.length u2,.slice d1 V.down.length d2] 30):=⟨_,rfl⟩
  have hb5:Below w4.heap.size w4 w5:=by rw [hw5];exact bal (brf w4) _
  have E5:=heap_new w4 (.cells #[.slice a1 V.s.first.length a2,.slice l1 V.s.log.length l2,.slice n1 V.s.now.length n2,.slice c1 V.cl.length c2,.slice u1 V.up.length u2,.slice d1 V.down.length d2] 30)
  rw [← hw5] at E5
  have hb05:=btr hb04 hb5
  have hw40:w.heap.size≤w4.heap.size:=hb04.size
  have CC:=Lib.hid (calm_anyZ (fun k=>k=w4.heap.size) _ V w5 (fun z hz=>by subst hz;exact ⟨lt_of_heap E5,NoIt.six E5⟩) (RWd.to (RWd.to hr (Kp.lt w4)) fun k hk _=>⟨fun h=>by have:=hk.2;omega,hb5.block k hk.2⟩) hI (max_keep hm.out hb05))
  obtain ⟨x0,x1,x2,x3,x4,x5⟩:=P6.of E5
  replace hI:=Lib.hid hI
  replace E5:=Lib.hid E5
  replace hb05:=Lib.hid hb05
  clear hr hb4 CP hb5 hb04
  go_upto_region 4 with fail
  rw [← hw5]
  clear hw5
  go_wp2_with fail
  refine CC.out.mono ?_
  rintro e w6 ⟨r,rfl,hr6,hb6⟩
  obtain ⟨hIc,hL⟩:=law_calm (pg:=sanP) hI.out
  obtain ⟨U,hU⟩:∃ U,U=calmN sanP 8 V:=⟨_,rfl⟩
  rw [← hU] at hIc hL hr6
  obtain ⟨a1',a2',l1',l2',n1',n2',c1',c2',u1',u2',d1',d2',rfl⟩:=RWd.shape hr6
  have E6:=(hb6.block _ (lt_of_heap E5.out)).trans E5.out
  have hb06:=btr hb05.out hb6
  have fz6:∀ i,w6.frozen? ⟨w4.heap.size,i,none⟩=false:=fun i=>Lib.frozen_of_heap E6 _
  clear x0 x1 x2 x3 x4 x5 CC hU
  obtain ⟨x0,x1,x2,x3,x4,x5⟩:=P6.of E6
  replace hL:=Lib.hid hL
  replace hIc:=Lib.hid hIc
  go_upto_region 7 with fail
  obtain ⟨q1,q2,q3⟩:=set6 E6 rfl (.slice a1' U.s.first.length a2') (.slice l1' U.s.log.length l2') (.slice n1' U.s.now.length n2') (.slice c1' U.cl.length c2') (.slice u1' U.up.length u2') (.slice d1' U.down.length d2')
  have hr7:=Lib.hid (RWd.to hr6 (fun k hk _=>⟨trivial,q2 k hk⟩):RWd (fun _=>True) _ _ U)
  have hb07:=Lib.hid (hb06.trans (q3 _ hw40))
  generalize hwz:((((((w6.setCell ⟨w4.heap.size,0,none⟩ _).setCell ⟨w4.heap.size,1,none⟩ _).setCell ⟨w4.heap.size,2,none⟩ _).setCell ⟨w4.heap.size,3,none⟩ _).setCell ⟨w4.heap.size,4,none⟩ _).setCell ⟨w4.heap.size,5,none⟩ _)=w7 at *
  clear x0 x1 x2 x3 x4 x5 fz6 hr6 hb6 hb06 E6 q2 q3 hwz
  obtain ⟨x0,x1,x2,x3,x4,x5⟩:=P6.of q1
  replace q1:=Lib.hid q1
  have hU4:U.cl.length≤4:=hIc.out.n4
  go_wp2_with fail
  go_loopw [35] (fun i wr=>∃ k:Nat,k≤U.cl.length∧i=.int .i64 k∧Below w7.heap.size w7 wr) (fun i _=>U.cl.length - (intOf i).toNat)
  case atStart=>exact ⟨0,Nat.zero_le _,rfl,brf _⟩
  case round =>
   clear x0 x1 x2 x3 x4 x5
   obtain ⟨k,hk,rfl,hb⟩:=hrel
   obtain ⟨wo,hwo⟩:∃ wo,wo=wr:=⟨_,rfl⟩
   subst hwo
   have hbo:=btr hb07.out hb
   by_cases hlt:k < U.cl.length
   ·obtain ⟨c,hc⟩:∃ c,U.cl[k]?=some c:=⟨_,List.getElem?_eq_getElem hlt⟩
    obtain ⟨L1,L2,L3,L4,L5,L6,L7⟩:=hL.out k hlt
    rw [show clAt U k=c from getD_some hc] at L1 L2 L3 L4 L5
    have hul:U.up.length=U.cl.length:=hIc.out.ul
    have hdl:U.down.length=U.cl.length:=hIc.out.dl
    obtain ⟨_,_,_,_,_,_,e1,hsv,hcl,hup,hdn⟩:=hr7.out
    simp only [Value.agg.injEq,Array.mk.injEq,List.cons.injEq,and_true] at e1
    obtain ⟨rfl,rfl,rfl,rfl,rfl,rfl⟩:=e1
    obtain ⟨_,_,_,e2,_,_,hsn⟩:=hsv
    simp only [Value.agg.injEq,Array.mk.injEq,List.cons.injEq,and_true] at e2
    obtain ⟨rfl,rfl,rfl⟩:=e2
    obtain ⟨us,hu1,hu2,hu3⟩:=RQs.vals hup
    obtain ⟨ds,hd1,hd2,hd3⟩:=RQs.vals hdn
    obtain ⟨uq,huq⟩:∃ q,us[k]?=some q:=⟨_,List.getElem?_eq_getElem (by omega)⟩
    obtain ⟨dq,hdq⟩:∃ q,ds[k]?=some q:=⟨_,List.getElem?_eq_getElem (by omega)⟩
    have huk:U.up[k]?=some []:=by
     rw [← L6]
     unfold upAt
     rw [List.getD_eq_getElem?_getD,List.getElem?_eq_getElem (by omega)]
     rfl
    have hdk:U.down[k]?=some []:=by
     rw [← L7]
     unfold downAt
     rw [List.getD_eq_getElem?_getD,List.getElem?_eq_getElem (by omega)]
     rfl
    obtain ⟨ua,uc,rfl,_⟩:=RdS.len (hu3 k uq _ huq huk)
    obtain ⟨da,dc,rfl,_⟩:=RdS.len (hd3 k dq _ hdq hdk)
    obtain ⟨b,o,v0,v1,v2,v3,v4,v5,v6,e3,rc,y0,y1,y2,y3,y4,y5,y6⟩:=RClcs.at hcl hb hc
    subst e3
    obtain ⟨p1,q1',p2,q2,p3,q3,p4,q4,rfl,rfl,rfl,rfl,rfl,rfl,rfl⟩:=RCl.shape rc
    have hnow:RItems (fun _=>True) w7 (.slice p2 c.now.length q2) c.now:=by
     obtain ⟨_,_,_,_,e,_,hi,_⟩:=rc
     simp only [Value.agg.injEq,Array.mk.injEq,List.cons.injEq,and_true] at e
     obtain ⟨_,_,rfl,_⟩:=e
     exact hi
    rw [L5] at hnow y2
    rw [L3,List.length_nil] at y4
    rw [L4,List.length_nil] at y5
    rw [L2] at y0
    rw [L1] at y6
    obtain ⟨w8,hw8⟩:∃ w8,w8=wo.alloc (.cells #[.int .i64 U.s.log.length,.slice p1 c.base.length q1',.slice p2 U.s.now.length q2,.int .i64 c.seq,.slice p3 0 q3,.slice p4 0 q4,.bool true] 52):=⟨_,rfl⟩
    have hb8:Below wo.heap.size wo w8:=by rw [hw8];exact bal (brf wo) _
    have N8:=heap_new wo (.cells #[.int .i64 U.s.log.length,.slice p1 c.base.length q1',.slice p2 U.s.now.length q2,.int .i64 c.seq,.slice p3 0 q3,.slice p4 0 q4,.bool true] 52)
    rw [← hw8] at N8
    have hb78:=btr hb hb8
    obtain ⟨bu,ou,rfl,gu⟩:=RVals.at hu2 hb78 huq
    obtain ⟨bd,od,rfl,gd⟩:=RVals.at hd2 hb78 hdq
    obtain ⟨x0,x1,x2,x3,x4,x5⟩:=P6.of ((hb78.block _ (lt_of_heap q1.out)).trans q1.out)
    obtain ⟨z0,z1,z2,z3,z4,z5,z6⟩:=cell7 N8
    have CS:=same_any _ _ _ _ U.s.now U.s.now w8 (RItems.to hnow (Kp.below hb78)) (RItems.to hsn (Kp.below hb78))
    rw [show decide (U.s.now=U.s.now)=true from by simp] at CS
    replace CS:=Lib.hid CS
    replace hb78:=Lib.hid hb78
    have hk1:=Lib.hid (show k+1≤U.cl.length from hlt)
    have hlu:k < U.up.length:=by omega
    have hld:k < U.down.length:=by omega
    have hbx:b < wo.heap.size:=lt_of_cell y0
    clear hcl hup hdn hsn hu1 hu2 hu3 hd1 hd2 hd3 huq hdq huk hdk rc hnow L1 L2 L3 L4 L5 L6 L7 hb hb8 N8 hul hdl
    go_upto_region 10 with fail
    rw [← hw8]
    clear hw8
    go_wp2_with fail
    refine CS.out.mono ?_
    rintro e w9 ⟨rfl,hb9⟩
    have hb79:=btr hb78.out hb9
    have gu9:=(hb9.cell (lt_of_cell gu)).trans gu
    have gd9:=(hb9.cell (lt_of_cell gd)).trans gd
    obtain ⟨x0,x1,x2,x3,x4,x5⟩:=P6.of ((hb79.block _ (lt_of_heap q1.out)).trans q1.out)
    have hk2:=hk1.out
    replace hb79:=Lib.hid hb79
    clear CS hb9 gu gd
    go_wp2_with fail
    exact ⟨⟨k+1,hk2,by go_num,hb79.out⟩,by simp [intOf];omega⟩
   ·obtain rfl:k=U.cl.length:=by omega
    go_wp2
    go_ret
    exact ⟨rfl,hbo⟩
 ·have hc':(chkDoc d != 0)=true:=by simpa using hc
  have C3:=Lib.hid (met_any w2 hm2.out)
  clear hc
  go_wp2_with fail
  refine C3.out.mono ?_
  rintro e w3 ⟨rfl,hb3⟩
  go_wp2
  go_ret
  exact ⟨rfl,btr hb02.out hb3⟩
end Go.Proofs.YteikncnldbdfmaaGreatDoor
