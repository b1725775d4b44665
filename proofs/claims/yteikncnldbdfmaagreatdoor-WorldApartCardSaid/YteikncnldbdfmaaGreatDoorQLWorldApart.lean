import Derived.Test.YteikncnldbdfmaaGreatDoorQMet
import Derived.Test.YteikncnldbdfmaaGreatDoorQPl
import Derived.Test.YteikncnldbdfmaaGreatDoorQClF
import Derived.Test.YteikncnldbdfmaaGreatDoorQSvF
namespace Go.Proofs.YteikncnldbdfmaaGreatDoor
open Go Go.RowKit Go.Mh
theorem but_val {F : Nat → Prop} {w : World} {c d : Cl} (hj : ButJ c d) {v0 v1 v2 v3 v4 v5 v6 : Value} (h : RCl F w (.agg #[v0,v1,v2,v3,v4,v5,v6]) d) : RCl F w (.agg #[v0,v1,v2,v3,v4,v5,.bool c.joined]) c:=by
 obtain ⟨b,n,s,k,e,h1,h2,h3,h4⟩:=h
 simp only [Value.agg.injEq,Array.mk.injEq,List.cons.injEq,and_true] at e
 obtain ⟨rfl,rfl,rfl,rfl,rfl,rfl,rfl⟩:=e
 have hr:=congrArg Cl.rev hj
 have hb:=congrArg Cl.base hj
 have hn:=congrArg Cl.now hj
 have hs:=congrArg Cl.seq hj
 have ht:=congrArg Cl.sent hj
 have hh:=congrArg Cl.held hj
 dsimp only at hr hb hn hs ht hh
 rw [hr,hs]
 rw [hb] at h1
 rw [hn] at h2
 rw [ht] at h3
 rw [hh] at h4
 exact ⟨_,_,_,_,rfl,h1,h2,h3,h4⟩
set_option maxRecDepth 100000 in
set_option maxHeartbeats 8000000 in
theorem worldApart_walk (F G : Nat → Prop) (v u : Value) (W : Wd) (x : Hap) (w : World) (hm : ∃ m,w.cell? ⟨2,0,none⟩ = some (.int .i64 m)) (h : RWd F w v W) (hx : RHap G w u x) :
  Calls Tryz.prog 8 #[v,u] w fun e w' => e = .returned (.bool true) ∧ Below w.heap.size w w':=by
 replace h:=RWd.to h (Kp.lt w)
 replace hx:=RHap.to hx (Kp.lt w)
 obtain ⟨aa,ac,la,lc,na,nc,ca,cc,ua,uc,da,dc,rfl⟩:=RWd.shape h
 obtain ⟨oa,oc,ba,bc,rfl,_⟩:=id hx
 obtain ⟨w1,hw1⟩ : ∃ w1,w1 = (w.alloc (.cells #[.slice aa W.s.first.length ac,.slice la W.s.log.length lc,.slice na W.s.now.length nc,.slice ca W.cl.length cc,.slice ua W.up.length uc,.slice da W.down.length dc] 30)).alloc (.cells #[.int .i64 x.kind,.int .i64 x.client,.int .i64 x.n,.slice oa x.o.length oc,.slice ba x.b.length bc] 43):=⟨_,rfl⟩
 have hb1 : Below w.heap.size w w1:=by rw [hw1];exact bal (bal (brf w) _) _
 have E1 : w1.heap[w.heap.size]? = some (.cells #[.slice aa W.s.first.length ac,.slice la W.s.log.length lc,.slice na W.s.now.length nc,.slice ca W.cl.length cc,.slice ua W.up.length uc,.slice da W.down.length dc] 30 (0,0)):=by rw [hw1];exact heap_at2 rfl
 have E2 : w1.heap[w.heap.size + 1]? = some (.cells #[.int .i64 x.kind,.int .i64 x.client,.int .i64 x.n,.slice oa x.o.length oc,.slice ba x.b.length bc] 43 (0,0)):=by rw [hw1];exact heap_at (by simp)
 have C:=wdDo_any (fun _ => True) _ _ W x w1 (RWd.to h fun k _ hl => ⟨trivial,hb1.block k hl⟩) (RHap.to hx fun k _ hl => ⟨trivial,hb1.block k hl⟩) (max_keep hm hb1)
 obtain ⟨⟨V,E⟩,hV⟩ : ∃ r,doW sanP W x = r:=⟨_,rfl⟩
 rw [hV] at C
 replace C:=Lib.hid C
 replace hV:=Lib.hid hV
 replace h:=Lib.hid h
 replace hm:=Lib.hid hm
 obtain ⟨x0,x1,x2,x3,x4,x5⟩:=P6.of E1
 obtain ⟨y0,y1,y2,y3,y4⟩:=cell5 E2
 replace E1:=Lib.hid E1
 replace E2:=Lib.hid E2
 clear hx
 go_enter Tryz.func8,Tryz.ntmps8
 go_upto_region 1 with fail
 rw [← hw1]
 clear hw1
 go_wp2_with fail
 refine C.out.mono ?_
 rintro e w2 ⟨v2,rfl,hv2,hb2⟩
 obtain ⟨aa',ac',la',lc',na',nc',ca',cc',ua',uc',da',dc',rfl⟩:=RWd.shape hv2
 obtain ⟨w3,hw3⟩ : ∃ w3,w3 = w2.alloc (.cells #[.slice aa' V.s.first.length ac',.slice la' V.s.log.length lc',.slice na' V.s.now.length nc',.slice ca' V.cl.length cc',.slice ua' V.up.length uc',.slice da' V.down.length dc'] 30):=⟨_,rfl⟩
 have hb3 : Below w2.heap.size w2 w3:=by rw [hw3];exact bal (brf w2) _
 have E3:=heap_new w2 (.cells #[.slice aa' V.s.first.length ac',.slice la' V.s.log.length lc',.slice na' V.s.now.length nc',.slice ca' V.cl.length cc',.slice ua' V.up.length uc',.slice da' V.down.length dc'] 30)
 rw [← hw3] at E3
 have hb13:=hb2.trans (hb3.mono hb2.size)
 have hB3:=hb1.trans (hb13.mono hb1.size)
 have hv3:=Lib.hid (RWd.to hv2 (Kp.below hb3))
 have h3:=Lib.hid (RWd.to h.out (Kp.below hB3))
 have E13:=Lib.hid ((hb13.block _ (lt_of_heap E1.out)).trans E1.out)
 have E23:=Lib.hid ((hb13.block _ (lt_of_heap E2.out)).trans E2.out)
 have M3:=Lib.hid (met_any w3 (max_keep hm.out hB3))
 replace E3:=Lib.hid E3
 clear C x0 x1 x2 x3 x4 x5 y0 y1 y2 y3 y4 E1 E2 hv2 hb2 hb3 hb13 hb1
 go_upto_region 2 with fail
 rw [← hw3]
 clear hw3
 go_wp2_with fail
 refine M3.out.mono ?_
 rintro e w4 ⟨rfl,hb4⟩
 have hB4:=hB3.trans (hb4.mono hB3.size)
 by_cases he : E = 0
 ·subst he
  have hl : chkWd W = 0 ∧ stepW sanP W x = (V,0):=by
   have e:=hV.out
   unfold doW at e
   split at e
   ·rename_i h1
    simp at e
    exact absurd e.2 h1
   ·rename_i h1
    split at e
    ·rename_i h2
     simp at e
     exact absurd e.2 h2
    ·exact ⟨Decidable.not_not.1 h1,e⟩
  have hc4:=(WOk.of hl.1).c4
  obtain ⟨l1,l2,l3,l4,l5⟩:=law_apart (pg:=sanP) (w:=W) (x:=x) (by rw [hl.2])
  rw [hl.2] at l3 l4 l5
  dsimp only at l3 l4 l5
  replace l1:=Lib.hid l1
  replace l2:=Lib.hid l2
  replace l3:=Lib.hid l3
  replace l4:=Lib.hid l4
  replace l5:=Lib.hid l5
  have h4:=Lib.hid (RWd.to h3.out (Kp.below hb4))
  have hv4:=Lib.hid (RWd.to hv3.out (Kp.below hb4))
  have E14:=Lib.hid ((hb4.block _ (lt_of_heap E13.out)).trans E13.out)
  have E24:=Lib.hid ((hb4.block _ (lt_of_heap E23.out)).trans E23.out)
  have E4:=Lib.hid ((hb4.block _ (lt_of_heap E3.out)).trans E3.out)
  obtain ⟨x0,x1,x2,x3,x4,x5⟩:=P6.of E14.out
  clear hl h3 hv3 E13 E23 E3 M3 hB3 hb4
  go_wp2_with fail
  go_loopw [26] (fun i wr => ∃ k : Nat,k ≤ W.cl.length ∧ i = .int .i64 k ∧ Below w4.heap.size w4 wr) (fun i _ => W.cl.length - (intOf i).toNat)
  case atStart => exact ⟨0,Nat.zero_le _,rfl,brf _⟩
  case round =>
   clear x0 x1 x2 x3 x4 x5
   obtain ⟨k,hk,rfl,hb⟩:=hrel
   obtain ⟨wo,hwo⟩ : ∃ wo,wo = wr:=⟨_,rfl⟩
   subst hwo
   have hzr:=hb.size
   by_cases hlt : k < W.cl.length
   ·obtain ⟨c,hc⟩ : ∃ c,W.cl[k]? = some c:=⟨_,List.getElem?_eq_getElem hlt⟩
    obtain ⟨d,hd⟩ : ∃ d,V.cl[k]? = some d:=⟨_,List.getElem?_eq_getElem (by rw [l3.out];exact hlt)⟩
    obtain ⟨_,_,_,_,_,_,e1,_,hcl,_,_⟩:=h4.out
    simp only [Value.agg.injEq,Array.mk.injEq,List.cons.injEq,and_true] at e1
    obtain ⟨rfl,rfl,rfl,rfl,rfl,rfl⟩:=e1
    obtain ⟨_,_,_,_,_,_,e2,_,hdl,_,_⟩:=hv4.out
    simp only [Value.agg.injEq,Array.mk.injEq,List.cons.injEq,and_true] at e2
    obtain ⟨rfl,rfl,rfl,rfl,rfl,rfl⟩:=e2
    obtain ⟨b,o,v0,v1,v2,v3,v4,v5,v6,e3,rc,c0,c1,c2,c3,c4,c5,c6⟩:=RClcs.at hcl hb hc
    subst e3
    obtain ⟨p1,q1,p2,q2,p3,q3,p4,q4,rfl,rfl,rfl,rfl,rfl,rfl,rfl⟩:=RCl.shape rc
    obtain ⟨b',o',v0,v1,v2,v3,v4,v5,v6,e3,rd,d0,d1,d2,d3,d4,d5,d6⟩:=RClcs.at hdl hb hd
    subst e3
    obtain ⟨s1,t1,s2,t2,s3,t3,s4,t4,rfl,rfl,rfl,rfl,rfl,rfl,rfl⟩:=RCl.shape rd
    have hlV : k < V.cl.length:=by rw [l3.out];exact hlt
    have hbl : b < wo.heap.size:=lt_of_cell c0
    have hbl' : b' < wo.heap.size:=lt_of_cell d0
    have hbut : k ≠ x.client.toNat ∨ x.kind = 3 → ButJ c d:=fun hi => by
     have:=l5.out k hi
     rwa [show clAt W k = c from getD_some hc,show clAt V k = d from getD_some hd] at this
    have hcl1:=Lib.hid l1.out
    obtain ⟨w5,hw5⟩ : ∃ w5,w5 = wo.alloc (.cells #[.int .i64 c.rev,.slice p1 c.base.length q1,.slice p2 c.now.length q2,.int .i64 c.seq,.slice p3 c.sent.length q3,.slice p4 c.held.length q4,.bool c.joined] 52):=⟨_,rfl⟩
    have hb5 : Below wo.heap.size wo w5:=by rw [hw5];exact bal (brf wo) _
    have E5:=heap_new wo (.cells #[.int .i64 c.rev,.slice p1 c.base.length q1,.slice p2 c.now.length q2,.int .i64 c.seq,.slice p3 c.sent.length q3,.slice p4 c.held.length q4,.bool c.joined] 52)
    rw [← hw5] at E5
    have hb45:=hb.trans (hb5.mono hzr)
    have X5:=(P6.of ((hb45.block _ (lt_of_heap E4.out)).trans E4.out)).2.2.2.1
    replace d0:=(hb5.cell (lt_of_cell d0)).trans d0
    replace d1:=(hb5.cell (lt_of_cell d1)).trans d1
    replace d2:=(hb5.cell (lt_of_cell d2)).trans d2
    replace d3:=(hb5.cell (lt_of_cell d3)).trans d3
    replace d4:=(hb5.cell (lt_of_cell d4)).trans d4
    replace d5:=(hb5.cell (lt_of_cell d5)).trans d5
    replace d6:=(hb5.cell (lt_of_cell d6)).trans d6
    obtain ⟨w6,hw6⟩ : ∃ w6,w6 = w5.alloc (.cells #[.int .i64 d.rev,.slice s1 d.base.length t1,.slice s2 d.now.length t2,.int .i64 d.seq,.slice s3 d.sent.length t3,.slice s4 d.held.length t4,.bool d.joined] 52):=⟨_,rfl⟩
    have hb6 : Below w5.heap.size w5 w6:=by rw [hw6];exact bal (brf w5) _
    have E6:=heap_new w5 (.cells #[.int .i64 d.rev,.slice s1 d.base.length t1,.slice s2 d.now.length t2,.int .i64 d.seq,.slice s3 d.sent.length t3,.slice s4 d.held.length t4,.bool d.joined] 52)
    rw [← hw6] at E6
    have hz56:=hb5.size
    have hb46:=hb45.trans (hb6.mono (Nat.le_trans hzr hz56))
    have E56:=(hb6.block _ (lt_of_heap E5)).trans E5
    obtain ⟨_,r1,_,_,_⟩:=cell5 ((hb46.block _ (lt_of_heap E24.out)).trans E24.out)
    obtain ⟨r0,_,_,_,_⟩:=cell5 ((hb46.block _ (lt_of_heap E24.out)).trans E24.out)
    obtain ⟨e0,e1,e2,e3,e4,e5,e6⟩:=cell7 E56
    obtain ⟨f0,f1,f2,f3,f4,f5,f6⟩:=cell7 E6
    have fz6 : ∀ i,w6.frozen? ⟨w5.heap.size,i,none⟩ = false:=fun i => Lib.frozen_of_heap E6 _
    have hk46 : ∀ m,m < w4.heap.size → w6.heap[m]? = w4.heap[m]?:=fun m hm => hb46.block m hm
    have hne56 : wo.heap.size ≠ w5.heap.size:=by have:=lt_of_heap E5;omega
    have rc6:=Lib.hid (RCl.to rc (F':=(· < w4.heap.size)) fun m hm hl => ⟨hl,hk46 m hl⟩)
    have rd6:=Lib.hid (RCl.to rd (F':=(· < w4.heap.size)) fun m hm hl => ⟨hl,hk46 m hl⟩)
    have hk1:=Lib.hid (show k + 1 ≤ W.cl.length from hlt)
    have hz45:=Lib.hid (Nat.le_trans hzr hz56)
    have hbut':=Lib.hid hbut
    replace E56:=Lib.hid E56
    replace E6:=Lib.hid E6
    replace hb46:=Lib.hid hb46
    have hsz6 : w4.heap.size ≤ w6.heap.size:=hb46.out.size
    have hl4:=Lib.hid (lt_of_heap E4.out)
    clear rc rd hbut E5 hb45 hk46 hc hd hcl1
    go_upto_region 7 with fail
    rw [← hw5]
    clear hw5 c0 c1 c2 c3 c4 c5 c6
    go_upto_region 8 with fail
    rw [← hw6]
    clear hw6 d0 d1 d2 d3 d4 d5 d6 X5
    have way : (((k : Int) != x.client) = true ∨ (((k : Int) != x.client) = false ∧ (x.kind == 3) = true)) ∨ (((k : Int) != x.client) = false ∧ (x.kind == 3) = false):=by
     simp only [bne_iff_ne,bne_eq_false_iff_eq,beq_iff_eq,beq_eq_false_iff_ne,ne_eq]
     by_cases h1 : (k : Int) = x.client
     ·by_cases h2 : x.kind = 3
      ·exact Or.inl (Or.inr ⟨h1,h2⟩)
      ·exact Or.inr ⟨h1,h2⟩
     ·exact Or.inl (Or.inl h1)
    rcases way with way | ⟨g1,g2⟩
    ·have hj:=hbut'.out (by
      rcases way with h1 | ⟨_,h2⟩
      ·refine Or.inl fun e => ?_
       rw [bne_iff_ne] at h1
       have:=l1.out
       omega
      ·exact Or.inr (by simpa using h2))
     have rj:=but_val hj rd6.out
     obtain ⟨w7,hw7⟩ : ∃ w7,w6.setCell ⟨w5.heap.size,6,none⟩ (.bool c.joined) = w7:=⟨_,rfl⟩
     have E7 : w7.heap[w5.heap.size]? = some (.cells #[.int .i64 d.rev,.slice s1 d.base.length t1,.slice s2 d.now.length t2,.int .i64 d.seq,.slice s3 d.sent.length t3,.slice s4 d.held.length t4,.bool c.joined] 52 (0,0)):=by rw [← hw7];exact heap_setCell_same _ _ 6 _ _ _ E6.out
     have K7 : ∀ m,m ≠ w5.heap.size → w7.heap[m]? = w6.heap[m]?:=fun m hm => by rw [← hw7];exact heap_setCell_other _ _ _ _ hm
     have B7 : Below w4.heap.size w4 w7:=by rw [← hw7];exact hb46.out.setCell (p:=⟨w5.heap.size,6,none⟩) (Nat.le_trans hzr hz56) _
     obtain ⟨e0',e1',e2',e3',e4',e5',e6'⟩:=cell7 ((K7 _ hne56).trans E56.out)
     obtain ⟨f0',f1',f2',f3',f4',f5',f6'⟩:=cell7 E7
     have S:=Lib.hid (clSameC_any (fun _ => True) (fun _ => True) (.agg #[.int .i64 c.rev,.slice p1 c.base.length q1,.slice p2 c.now.length q2,.int .i64 c.seq,.slice p3 c.sent.length q3,.slice p4 c.held.length q4,.bool c.joined]) (.agg #[.int .i64 d.rev,.slice s1 d.base.length t1,.slice s2 d.now.length t2,.int .i64 d.seq,.slice s3 d.sent.length t3,.slice s4 d.held.length t4,.bool c.joined]) c w7 (RCl.to rc6.out fun m hm hl => ⟨trivial,K7 m (by have hm' : m < w4.heap.size:=hm;have:=hz45.out;omega)⟩) (RCl.to rj fun m hm hl => ⟨trivial,K7 m (by have hm' : m < w4.heap.size:=hm;have:=hz45.out;omega)⟩))
     rcases way with g1 | ⟨g1,g2⟩
     all_goals
      go_wp2_with fail
      refine S.out.mono ?_
      rintro e w8 ⟨rfl,hb8⟩
      go_wp2_with fail
      go_roundw
      case rel => exact ⟨k + 1,hk1.out,by go_num,B7.trans (hb8.mono B7.size)⟩
      case measure => have:=hk1.out;simp [intOf];omega
    ·go_wp2_with fail
     go_roundw
     case rel => exact ⟨k + 1,hk1.out,by go_num,hb46.out⟩
     case measure => have:=hk1.out;simp [intOf];omega
   ·obtain rfl : k = W.cl.length:=by omega
    obtain ⟨r0,_,_,_,_⟩:=cell5 ((hb.block _ (lt_of_heap E24.out)).trans E24.out)
    obtain ⟨x0,x1,x2,_,_,_⟩:=P6.of ((hb.block _ (lt_of_heap E14.out)).trans E14.out)
    obtain ⟨y0,y1,y2,_,_,_⟩:=P6.of ((hb.block _ (lt_of_heap E4.out)).trans E4.out)
    by_cases hk3 : x.kind = 3
    ·have g3 : (x.kind == 3) = true:=by simpa using hk3
     clear hk3
     go_wp2_with fail
     go_ret
     exact ⟨rfl,hB4.trans (hb.mono hB4.size)⟩
    ·have g3 : (x.kind == 3) = false:=by simpa using hk3
     have hs:=l4.out hk3
     obtain ⟨_,_,_,_,_,_,e1,hs1,_,_,_⟩:=h4.out
     simp only [Value.agg.injEq,Array.mk.injEq,List.cons.injEq,and_true] at e1
     obtain ⟨rfl,rfl,rfl,rfl,rfl,rfl⟩:=e1
     obtain ⟨_,_,_,_,_,_,e2,hs2,_,_,_⟩:=hv4.out
     simp only [Value.agg.injEq,Array.mk.injEq,List.cons.injEq,and_true] at e2
     obtain ⟨rfl,rfl,rfl,rfl,rfl,rfl⟩:=e2
     have S:=svSame_any _ _ _ _ W.s V.s wo (RSrv.to hs1 (Kp.below hb)) (RSrv.to hs2 (Kp.below hb))
     have hd1 : (decide (W.s.first = V.s.first) && decide (W.s.now = V.s.now) && decide (W.s.log = V.s.log)) = true:=by rw [hs];simp
     rw [hd1] at S
     replace S:=Lib.hid S
     clear hk3 hs hs1 hs2 hd1
     go_wp2_with fail
     refine S.out.mono ?_
     rintro e w8 ⟨rfl,hb8⟩
     go_wp2_with fail
     go_ret
     exact ⟨rfl,(hB4.trans (hb.mono hB4.size)).trans (hb8.mono (Nat.le_trans hB4.size hb.size))⟩
 ·have he' : (E != 0) = true:=by simpa using he
  have M4:=Lib.hid (met_any w4 (max_keep hm.out hB4))
  clear he
  go_wp2_with fail
  refine M4.out.mono ?_
  rintro e w5 ⟨rfl,hb5⟩
  go_wp2_with fail
  go_ret
  exact ⟨rfl,hB4.trans (hb5.mono hB4.size)⟩
end Go.Proofs.YteikncnldbdfmaaGreatDoor
