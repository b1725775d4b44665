import Derived.Test.YteikncnldbdfmaaGreatDoorZWdM
import Derived.Test.YteikncnldbdfmaaGreatDoorZDoc
import Derived.Test.YteikncnldbdfmaaGreatDoorZPlM
namespace Go.Proofs.YteikncnldbdfmaaGreatDoor
open Go Go.RowKit Go.Mh
set_option maxRecDepth 100000 in
set_option maxHeartbeats 8000000 in
theorem holds1_any (V:Wd) (v:Value) (w:World) (h:RWd (fun _=>True) w v V) (hI:Inv V) :
  Calls Tryz.prog 31 #[v] w fun e w'=>e=.returned (.bool true)∧Below w.heap.size w w':=by
 have h:=RWd.to h (Kp.lt w)
 obtain ⟨a1,a2,l1,l2,n1,n2,c1,c2,u1,u2,d1,d2,rfl⟩:=RWd.shape h
 obtain ⟨w1,hw1⟩:∃ w1,w1=w.alloc (.cells #[.slice a1 V.s.first.length a2,.slice l1 V.s.log.length l2,.slice n1 V.s.now.length n2,.slice c1 V.cl.length c2,.slice u1 V.up.length u2,.slice d1 V.down.length d2] 30):=⟨_,rfl⟩
 have hb1:Below w.heap.size w w1:=by rw [hw1];exact bal (brf w) _
 have E1:=heap_new w (.cells #[.slice a1 V.s.first.length a2,.slice l1 V.s.log.length l2,.slice n1 V.s.now.length n2,.slice c1 V.cl.length c2,.slice u1 V.up.length u2,.slice d1 V.down.length d2] 30)
 rw [← hw1] at E1
 have hc4:V.cl.length≤4:=hI.n4
 have C1:=wdCheck_any _ _ V w1 (RWd.to h (Kp.below hb1))
 rw [Inv.chk hI] at C1
 replace C1:=Lib.hid C1
 replace h:=Lib.hid h
 replace hI:=Lib.hid hI
 replace hb1:=Lib.hid hb1
 obtain ⟨x0,x1,x2,x3,x4,x5⟩:=P6.of E1
 replace E1:=Lib.hid E1
 go_enter Tryz.func31,Tryz.ntmps31
 go_upto_region 1 with fail
 rw [← hw1]
 clear hw1
 go_wp2_with fail
 refine C1.out.mono ?_
 rintro e w2 ⟨rfl,hb2⟩
 have E2:=Lib.hid ((hb2.block _ (lt_of_heap E1.out)).trans E1.out)
 have hB2:=Lib.hid (btr hb1.out hb2)
 clear x0 x1 x2 x3 x4 x5 C1 hb2 hb1 E1
 obtain ⟨x0,x1,x2,x3,x4,x5⟩:=P6.of E2.out
 go_wp2_with fail
 go_loopw [13] (fun i wr=>∃ k:Nat,k≤V.cl.length∧i=.int .i64 k∧Below w2.heap.size w2 wr) (fun i _=>V.cl.length - (intOf i).toNat)
 case atStart=>exact ⟨0,Nat.zero_le _,rfl,brf _⟩
 case round =>
  clear x0 x1 x2 x3 x4 x5
  obtain ⟨k,hk,rfl,hb⟩:=hrel
  obtain ⟨wo,hwo⟩:∃ wo,wo=wr:=⟨_,rfl⟩
  subst hwo
  have hbo:=btr hB2.out hb
  by_cases hlt:k < V.cl.length
  ·obtain ⟨c,hc⟩:∃ c,V.cl[k]?=some c:=⟨_,List.getElem?_eq_getElem hlt⟩
   obtain ⟨_,_,_,_,_,_,e1,hsv,hcl,_,_⟩:=h.out
   simp only [Value.agg.injEq,Array.mk.injEq,List.cons.injEq,and_true] at e1
   obtain ⟨rfl,rfl,rfl,rfl,rfl,rfl⟩:=e1
   obtain ⟨_,_,_,e2,hsf,hsl,_⟩:=hsv
   simp only [Value.agg.injEq,Array.mk.injEq,List.cons.injEq,and_true] at e2
   obtain ⟨rfl,rfl,rfl⟩:=e2
   obtain ⟨b,o,v0,v1,v2,v3,v4,v5,v6,e3,rc,c0,c1,c2,c3,c4,c5,c6⟩:=RClcs.at hcl hbo hc
   subst e3
   obtain ⟨p1,q1,p2,q2,p3,q3,p4,q4,rfl,rfl,rfl,rfl,rfl,rfl,rfl⟩:=RCl.shape rc
   obtain ⟨g1,g2,g3⟩:=hI.out.holds hlt
   rw [show clAt V k=c from getD_some hc] at g1 g2 g3
   obtain ⟨r,hr'⟩:∃ r:Nat,c.rev=r:=⟨c.rev.toNat,by omega⟩
   rw [hr'] at g1 g2 g3 c0
   rw [Int.toNat_natCast] at g3
   have hr:r≤V.s.log.length:=by omega
   have hrl:r≤l2:=by
    obtain ⟨_,_,e,h1,_⟩:=hsl
    cases e
    omega
   obtain ⟨w5,hw5⟩:∃ w5,w5=wo.alloc (.cells #[.int .i64 r,.slice p1 c.base.length q1,.slice p2 c.now.length q2,.int .i64 c.seq,.slice p3 c.sent.length q3,.slice p4 c.held.length q4,.bool c.joined] 52):=⟨_,rfl⟩
   have hb5:Below wo.heap.size wo w5:=by rw [hw5];exact bal (brf wo) _
   have N5:=heap_new wo (.cells #[.int .i64 r,.slice p1 c.base.length q1,.slice p2 c.now.length q2,.int .i64 c.seq,.slice p3 c.sent.length q3,.slice p4 c.held.length q4,.bool c.joined] 52)
   rw [← hw5] at N5
   have hb25:=btr hb hb5
   have E5:=Lib.hid ((hb25.block _ (lt_of_heap E2.out)).trans E2.out)
   have hB5:=btr hB2.out hb25
   have hF5:=Lib.hid (RItems.to hsf (Kp.below hB5))
   have hL5:=Lib.hid (RdS.to hsl (by decide) (Kp.below hB5) (fun _ _ _ q=>REn.to q (Kp.below hB5)))
   have hBs:RItems (fun k=>True∧k < w.heap.size) w5 (.slice p1 c.base.length q1) c.base:=by
    obtain ⟨_,_,_,_,e,hi,_⟩:=rc
    simp only [Value.agg.injEq,Array.mk.injEq,List.cons.injEq,and_true] at e
    obtain ⟨_,rfl,_⟩:=e
    exact RItems.to hi (Kp.below hB5)
   replace hBs:=Lib.hid hBs
   obtain ⟨x0,x1,x2,x3,x4,x5⟩:=P6.of E5.out
   obtain ⟨y0,y1,y2,y3,y4,y5,y6⟩:=cell7 N5
   replace N5:=Lib.hid N5
   replace hb25:=Lib.hid hb25
   replace g3:=Lib.hid g3
   have t1:decide ((V.s.log.length:Int) < (r:Int))=false:=by simp;omega
   clear g1 g2 hr' hsf hsl hcl hb hbo rc hB5
   go_upto_region 6 with fail
   rw [← hw5]
   clear hw5 c0 c1 c2 c3 c4 c5 c6
   go_upto_region 8 with fail
   go_cut [5,6] (fun s5 s6 wx=>∃ fa fc,s5=.slice fa c.base.length fc∧s6=.int .i64 0∧RItems (w5.heap.size≤·) wx (.slice fa c.base.length fc) c.base∧Below w5.heap.size w5 wx)
   case first =>
     refine wp_region_held (S:=fun w'=>Below w5.heap.size w5 w') (by kernel_rfl) ?_
     have S0:=(brf w5).drew
     refine wpAnyH_takeD 0 25 (v:=?_) rfl rfl (by kernel_rfl) (by kernel_rfl) (by kernel_rfl) (fun _ _ _ h=>h) (Or.inl ⟨by rfl, ?_⟩) S0 ?_
     rotate_left
     ·(intro w' hw';obtain ⟨x0,x1,x2,x3,x4,x5⟩:=P6.of ((Below.block hw' _ (lt_of_heap E5.out)).trans E5.out);obtain ⟨y0,y1,y2,y3,y4,y5,y6⟩:=cell7 ((Below.block hw' _ (lt_of_heap N5.out)).trans N5.out);go_simp;try with_reducible rfl)
     simp only [List.set_cons_zero,List.set_cons_succ]
     refine wpAnyH_takeD 1 26 (v:=?_) rfl rfl (by kernel_rfl) (by kernel_rfl) (by kernel_rfl) (fun _ _ _ h=>h) (Or.inl ⟨by rfl, ?_⟩) S0 ?_
     rotate_left
     ·(intro w' hw';obtain ⟨x0,x1,x2,x3,x4,x5⟩:=P6.of ((Below.block hw' _ (lt_of_heap E5.out)).trans E5.out);obtain ⟨y0,y1,y2,y3,y4,y5,y6⟩:=cell7 ((Below.block hw' _ (lt_of_heap N5.out)).trans N5.out);go_simp;try with_reducible rfl)
     simp only [List.set_cons_zero,List.set_cons_succ]
     refine wpAnyH_takeD 2 27 (v:=?_) rfl rfl (by kernel_rfl) (by kernel_rfl) (by kernel_rfl) (fun _ _ _ h=>h) (Or.inl ⟨by rfl, ?_⟩) S0 ?_
     rotate_left
     ·(intro w' hw';obtain ⟨x0,x1,x2,x3,x4,x5⟩:=P6.of ((Below.block hw' _ (lt_of_heap E5.out)).trans E5.out);obtain ⟨y0,y1,y2,y3,y4,y5,y6⟩:=cell7 ((Below.block hw' _ (lt_of_heap N5.out)).trans N5.out);go_simp;try with_reducible rfl)
     simp only [List.set_cons_zero,List.set_cons_succ]
     refine wpAnyH_takeD 3 28 (v:=?_) rfl rfl (by kernel_rfl) (by kernel_rfl) (by kernel_rfl) (fun _ _ _ h=>h) (Or.inl ⟨by rfl, ?_⟩) S0 ?_
     rotate_left
     ·(intro w' hw';obtain ⟨x0,x1,x2,x3,x4,x5⟩:=P6.of ((Below.block hw' _ (lt_of_heap E5.out)).trans E5.out);obtain ⟨y0,y1,y2,y3,y4,y5,y6⟩:=cell7 ((Below.block hw' _ (lt_of_heap N5.out)).trans N5.out);go_simp;try with_reducible rfl)
     simp only [List.set_cons_zero,List.set_cons_succ]
     refine wpAnyH_takeD 4 29 (v:=?_) rfl rfl (by kernel_rfl) (by kernel_rfl) (by kernel_rfl) (fun _ _ _ h=>h) (Or.inl ⟨by rfl, ?_⟩) S0 ?_
     rotate_left
     ·(intro w' hw';obtain ⟨x0,x1,x2,x3,x4,x5⟩:=P6.of ((Below.block hw' _ (lt_of_heap E5.out)).trans E5.out);obtain ⟨y0,y1,y2,y3,y4,y5,y6⟩:=cell7 ((Below.block hw' _ (lt_of_heap N5.out)).trans N5.out);go_simp;try with_reducible rfl)
     simp only [List.set_cons_zero,List.set_cons_succ]
     refine wpAnyH_takeD 5 30 (v:=?_) rfl rfl (by kernel_rfl) (by kernel_rfl) (by kernel_rfl) (fun _ _ _ h=>h) (Or.inl ⟨by rfl, ?_⟩) S0 ?_
     rotate_left
     ·(intro w' hw';obtain ⟨x0,x1,x2,x3,x4,x5⟩:=P6.of ((Below.block hw' _ (lt_of_heap E5.out)).trans E5.out);obtain ⟨y0,y1,y2,y3,y4,y5,y6⟩:=cell7 ((Below.block hw' _ (lt_of_heap N5.out)).trans N5.out);go_simp;try with_reducible rfl)
     simp only [List.set_cons_zero,List.set_cons_succ]
     refine wpAnyH_takeD 6 31 (v:=?_) rfl rfl (by kernel_rfl) (by kernel_rfl) (by kernel_rfl) (fun _ _ _ h=>h) (Or.inl ⟨by rfl, ?_⟩) S0 ?_
     rotate_left
     ·(intro w' hw';obtain ⟨x0,x1,x2,x3,x4,x5⟩:=P6.of ((Below.block hw' _ (lt_of_heap E5.out)).trans E5.out);obtain ⟨y0,y1,y2,y3,y4,y5,y6⟩:=cell7 ((Below.block hw' _ (lt_of_heap N5.out)).trans N5.out);go_simp;try with_reducible rfl)
     simp only [List.set_cons_zero,List.set_cons_succ]
     refine wpAnyH_takeD 7 32 (v:=?_) rfl rfl (by kernel_rfl) (by kernel_rfl) (by kernel_rfl) (fun _ _ _ h=>h) (Or.inl ⟨by rfl, ?_⟩) S0 ?_
     rotate_left
     ·(intro w' hw';obtain ⟨x0,x1,x2,x3,x4,x5⟩:=P6.of ((Below.block hw' _ (lt_of_heap E5.out)).trans E5.out);obtain ⟨y0,y1,y2,y3,y4,y5,y6⟩:=cell7 ((Below.block hw' _ (lt_of_heap N5.out)).trans N5.out);go_simp;try with_reducible rfl)
     simp only [List.set_cons_zero,List.set_cons_succ]
     refine wpAnyH_takeD 8 33 (v:=?_) rfl rfl (by kernel_rfl) (by kernel_rfl) (by kernel_rfl) (fun _ _ _ h=>h) (Or.inl ⟨by rfl, ?_⟩) S0 ?_
     rotate_left
     ·(intro w' hw';obtain ⟨x0,x1,x2,x3,x4,x5⟩:=P6.of ((Below.block hw' _ (lt_of_heap E5.out)).trans E5.out);obtain ⟨y0,y1,y2,y3,y4,y5,y6⟩:=cell7 ((Below.block hw' _ (lt_of_heap N5.out)).trans N5.out);go_simp;try with_reducible rfl)
     simp only [List.set_cons_zero,List.set_cons_succ]
     refine wpAnyH_step 9 rfl (by kernel_rfl) (fun K' hK'=>?_)
     rw [if_pos (by rfl)]
     go_simp
     go_at_call 32
     refine (svFold_any _ _ _ _ V.s.first (V.s.log.take r) _ (RItems.to hF5.out (Kp.below S0)) (RdS.to (RdS.take hL5.out r hr) (by decide) (Kp.below S0) (fun _ _ _ q=>REn.to q (Kp.below S0)))).mono ?_
     rintro e w6 ⟨fr,rfl,hfr,hb6⟩
     dsimp only
     have S1:=btr S0 hb6
     refine hK'.out _ _ S1 ?_
     clear hK' K'
     refine wpAnyH_takeD 10 24 (v:=?_) rfl rfl (by kernel_rfl) (by kernel_rfl) (by kernel_rfl) (fun _ _ _ h=>h) (Or.inl ⟨by rfl, ?_⟩) S1 ?_
     rotate_left
     ·(intro w' hw';(try dsimp only at hw');go_simp;try with_reducible rfl)
     simp only [List.set_cons_zero,List.set_cons_succ]
     refine wpAnyH_takeD 11 35 (v:=?_) rfl rfl (by kernel_rfl) (by kernel_rfl) (by kernel_rfl) (fun _ _ _ h=>h) (Or.inl ⟨by rfl, ?_⟩) S1 ?_
     rotate_left
     ·(intro w' hw';(try dsimp only at hw');go_simp;try with_reducible rfl)
     simp only [List.set_cons_zero,List.set_cons_succ]
     refine wpAnyH_takeD 12 36 (v:=?_) rfl rfl (by kernel_rfl) (by kernel_rfl) (by kernel_rfl) (fun _ _ _ h=>h) (Or.inl ⟨by rfl, ?_⟩) S1 ?_
     rotate_left
     ·(intro w' hw';(try dsimp only at hw');go_simp;try with_reducible rfl)
     simp only [List.set_cons_zero,List.set_cons_succ]
     refine wpAnyH_takeD 13 5 (v:=?_) rfl rfl (by kernel_rfl) (by kernel_rfl) (by kernel_rfl) (fun _ _ _ h=>h) (Or.inl ⟨by rfl, ?_⟩) S1 ?_
     rotate_left
     ·(intro w' hw';(try dsimp only at hw');go_simp;try with_reducible rfl)
     simp only [List.set_cons_zero,List.set_cons_succ]
     refine wpAnyH_takeD 14 6 (v:=?_) rfl rfl (by kernel_rfl) (by kernel_rfl) (by kernel_rfl) (fun _ _ _ h=>h) (Or.inl ⟨by rfl, ?_⟩) S1 ?_
     rotate_left
     ·(intro w' hw';(try dsimp only at hw');go_simp;try with_reducible rfl)
     simp only [List.set_cons_zero,List.set_cons_succ]
     refine wpAnyH_done (by kernel_rfl) ?_ _
     go_wp2_with fail
     go_meet
     rw [g3.out] at hfr ⊢
     obtain ⟨fa,fc,rfl,_⟩:=RdS.len hfr
     exact ⟨fa,fc,rfl,rfl,RItems.to hfr (Kp.weak _ fun j hj=>Nat.le_trans S0.size hj),S1⟩
   case rest =>
    obtain ⟨fa,fc,rfl,rfl,hfr,S6⟩:=hcut
    have N6:=(S6.block _ (lt_of_heap N5.out)).trans N5.out
    obtain ⟨y0,y1,y2,y3,y4,y5,y6⟩:=cell7 N6
    have CS:=same_any _ _ _ _ c.base c.base wc hfr (RItems.to hBs.out (Kp.below S6))
    rw [show decide (c.base=c.base)=true from by simp] at CS
    replace CS:=Lib.hid CS
    have hb26:=Lib.hid (btr hb25.out S6)
    have hk1:=Lib.hid (show k+1≤V.cl.length from hlt)
    clear hfr N6 S6
    go_wp2_with fail
    refine CS.out.mono ?_
    rintro e w7 ⟨rfl,hb7⟩
    have hb27:=btr hb26.out hb7
    have hk2:=hk1.out
    go_wp2_with fail
    exact ⟨⟨k+1,hk2,by go_num,hb27⟩,by simp [intOf];omega⟩
  ·obtain rfl:k=V.cl.length:=by omega
   go_wp2
   go_ret
   exact ⟨rfl,hbo⟩
end Go.Proofs.YteikncnldbdfmaaGreatDoor
