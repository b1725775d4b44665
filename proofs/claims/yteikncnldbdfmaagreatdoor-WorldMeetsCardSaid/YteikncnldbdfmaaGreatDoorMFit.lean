import Derived.Test.YteikncnldbdfmaaGreatDoorMWdR
import Derived.Test.YteikncnldbdfmaaGreatDoorMDoc
namespace Go.Proofs.YteikncnldbdfmaaGreatDoor
open Go Go.RowKit Go.Mh
set_option maxRecDepth 100000 in
set_option maxHeartbeats 1000000 in
theorem at_any (k n:Int) (h0:0 < n) (h1:n≤9223372036854775807) (w:World) :
  Calls Tryz.prog 27 #[.int .i64 k,.int .i64 n] w fun e w'=>∃ m,e=.returned (.int .i64 m)∧0≤m∧m < n∧Below w.heap.size w w':=by
 have hlt:=Int.tmod_lt_of_pos k h0
 have hgt:-n < k.tmod n:=by
  have:=Int.lt_tmod_of_pos k h0
  omega
 go_enter Tryz.func27,Tryz.ntmps27
 go_wp2
 all_goals go_ret
 all_goals refine ⟨_,rfl, ?_, ?_,brf w⟩
 all_goals (first | (rw [IntWalk.wrap64_in _ (by omega)];omega) | omega)
abbrev TH:TypeId:=43
abbrev NB (w0:World) (k:Nat):Prop:=k≠w0.heap.size+1∧k≠w0.heap.size+2
structure HAt (w0 w:World) (kd cn xn:Int) (xb:List UInt8) (o:List Pt) (oa:Option Addr) (oc:Nat) (ba:Option Addr) (bc:Nat):Prop where
 hb:Below w0.heap.size w0 w
 e:w.heap[w0.heap.size+1]?=some (.cells #[.int .i64 kd,.int .i64 cn,.int .i64 xn,.slice oa o.length oc,.slice ba xb.length bc] TH (0,0))
 z:w.heap[w0.heap.size+2]?=some (.cells #[.int .i64 0,.int .i64 0,.int .i64 0,.slice none 0 0,.slice none 0 0] TH (0,0))
 ho:ROp (NB w0) w (.slice oa o.length oc) o
 hs:RBytes (NB w0) w (.slice ba xb.length bc) xb
theorem HAt.below {w0 w w':World} {kd cn xn:Int} {xb:List UInt8} {o:List Pt} {oa ba:Option Addr} {oc bc:Nat} (h:HAt w0 w kd cn xn xb o oa oc ba bc) (hb:Below w.heap.size w w'):HAt w0 w' kd cn xn xb o oa oc ba bc:=
 ⟨h.hb.trans (hb.mono h.hb.size),(hb.block _ (lt_of_heap h.e)).trans h.e,(hb.block _ (lt_of_heap h.z)).trans h.z,ROp.to h.ho (Kp.below hb),RBytes.to h.hs (Kp.below hb)⟩
theorem HAt.put {w0 w:World} {kd cn xn:Int} {xb:List UInt8} {o o':List Pt} {oa ba oa':Option Addr} {oc bc oc':Nat} (h:HAt w0 w kd cn xn xb o oa oc ba bc) (ho:ROp (NB w0) w (.slice oa' o'.length oc') o') :
  HAt w0 (w.setCell ⟨w0.heap.size+1,3,none⟩ (.slice oa' o'.length oc')) kd cn xn xb o' oa' oc' ba bc:=by
 have hk:∀ k,k≠w0.heap.size+1→(w.setCell ⟨w0.heap.size+1,3,none⟩ (.slice oa' o'.length oc')).heap[k]?=w.heap[k]?:=fun k hk=>heap_setCell_other w _ _ _ hk
 exact ⟨h.hb.setCell (by simp) _,by rw [heap_setCell_same w _ 3 _ _ _ h.e];rfl,(hk _ (by omega)).trans h.z,ROp.to ho fun k hn _=>⟨hn,hk k hn.1⟩,RBytes.to h.hs fun k hn _=>⟨hn,hk k hn.1⟩⟩
theorem HAt.grow {w0 w w':World} {kd cn xn:Int} {xb:List UInt8} {o:List Pt} {oa ba:Option Addr} {oc bc:Nat} (h:HAt w0 w kd cn xn xb o oa oc ba bc) (hk:∀ k,k < w.heap.size→w'.heap[k]?=w.heap[k]?) (hb:Below w0.heap.size w0 w'):HAt w0 w' kd cn xn xb o oa oc ba bc:=
 ⟨hb,(hk _ (lt_of_heap h.e)).trans h.e,(hk _ (lt_of_heap h.z)).trans h.z,ROp.to h.ho (fun k hn hl=>⟨hn,hk k hl⟩),RBytes.to h.hs (fun k hn hl=>⟨hn,hk k hl⟩)⟩
theorem setC5 {w:World} {g T:Nat} {b0 b1 b2 b3 b4:Value} (h:w.heap[g]?=some (.cells #[b0,b1,b2,b3,b4] T (0,0))) (a0 a1 a2 a3 a4:Value) :
  let w':=((((w.setCell ⟨g,0,none⟩ a0).setCell ⟨g,1,none⟩ a1).setCell ⟨g,2,none⟩ a2).setCell ⟨g,3,none⟩ a3).setCell ⟨g,4,none⟩ a4
  w'.heap[g]?=some (.cells #[a0,a1,a2,a3,a4] T (0,0))∧(∀ k,k≠g→w'.heap[k]?=w.heap[k]?)∧∀ B,B≤g→Below B w w':=by
 intro w'
 have e1:=heap_setCell_same w g 0 _ _ a0 h
 have e2:=heap_setCell_same _ g 1 _ _ a1 e1
 have e3:=heap_setCell_same _ g 2 _ _ a2 e2
 have e4:=heap_setCell_same _ g 3 _ _ a3 e3
 have e5:=heap_setCell_same _ g 4 _ _ a4 e4
 refine ⟨e5,fun k hk=>?_,fun B hB=>?_⟩
 ·simp only [w']
  rw [heap_setCell_other _ _ _ _ hk,heap_setCell_other _ _ _ _ hk,heap_setCell_other _ _ _ _ hk,heap_setCell_other _ _ _ _ hk,heap_setCell_other _ _ _ _ hk]
 ·exact (((((Below.refl B w).setCell (p:=⟨g,0,none⟩) hB _).setCell (p:=⟨g,1,none⟩) hB _).setCell (p:=⟨g,2,none⟩) hB _).setCell (p:=⟨g,3,none⟩) hB _).setCell (p:=⟨g,4,none⟩) hB _
def FitP (w:World) (e:Ending) (w':World):Prop:=∃ r y,e=.returned r∧RHap (fun _=>True) w' r y∧Below w.heap.size w w'
theorem FitP.of {w w':World} {r:Value} {y:Hap} (h:RHap (fun _=>True) w' r y) (hb:Below w.heap.size w w'):FitP w (.returned r) w':=⟨r,y,rfl,h,hb⟩
theorem HAt.done {w0 w:World} {kd cn xn:Int} {xb:List UInt8} {o:List Pt} {oa ba:Option Addr} {oc bc:Nat} (h:HAt w0 w kd cn xn xb o oa oc ba bc) (ln:Nat) (hl:o.length=ln) :
  let w':=((((w.setCell ⟨w0.heap.size+2,0,none⟩ (.int .i64 kd)).setCell ⟨w0.heap.size+2,1,none⟩ (.int .i64 cn)).setCell ⟨w0.heap.size+2,2,none⟩ (.int .i64 xn)).setCell ⟨w0.heap.size+2,3,none⟩ (.slice oa ln oc)).setCell ⟨w0.heap.size+2,4,none⟩ (.slice ba xb.length bc)
  w'.heap[w0.heap.size+2]?=some (.cells #[.int .i64 kd,.int .i64 cn,.int .i64 xn,.slice oa o.length oc,.slice ba xb.length bc] TH (0,0))∧RHap (fun _=>True) w' (.agg #[.int .i64 kd,.int .i64 cn,.int .i64 xn,.slice oa o.length oc,.slice ba xb.length bc]) ⟨kd,cn,xn,o,xb⟩∧Below w0.heap.size w0 w':=by
 subst hl
 intro w'
 obtain ⟨q1,q2,q3⟩:=setC5 h.z (.int .i64 kd) (.int .i64 cn) (.int .i64 xn) (.slice oa o.length oc) (.slice ba xb.length bc)
 exact ⟨q1,⟨oa,oc,ba,bc,rfl,ROp.to h.ho fun k hn _=>⟨trivial,q2 k hn.2⟩,RBytes.to h.hs fun k hn _=>⟨trivial,q2 k hn.2⟩⟩,h.hb.trans (q3 _ (by omega))⟩
set_option maxRecDepth 100000 in
set_option maxHeartbeats 8000000 in
theorem fitted_any (F G:Nat→Prop) (v u:Value) (W:Wd) (x:Hap) (w:World) (h:RWd F w v W) (hx:RHap G w u x) (hne:∀ c ∈ W.cl,c.now≠[]) :
  Calls Tryz.prog 83 #[v,u] w fun e w'=>FitP w e w':=by
 have h:=RWd.to h (Kp.lt w)
 have hx:=RHap.to hx (Kp.lt w)
 obtain ⟨aa,ac,la,lc,na,nc,ca,cc,ua,uc,da,dc,rfl⟩:=RWd.shape h
 obtain ⟨oa,oc,ba,bc,rfl,ho,hs⟩:=hx
 obtain ⟨kd,cn,xn,xo,xb⟩:=x
 dsimp only at ho hs ⊢
 obtain ⟨w1,hw1⟩:∃ w1,w1=((w.alloc (.cells #[.slice aa W.s.first.length ac,.slice la W.s.log.length lc,.slice na W.s.now.length nc,.slice ca W.cl.length cc,.slice ua W.up.length uc,.slice da W.down.length dc] 30)).alloc (.cells #[.int .i64 kd,.int .i64 cn,.int .i64 xn,.slice oa xo.length oc,.slice ba xb.length bc] 43)).alloc (.cells #[.int .i64 0,.int .i64 0,.int .i64 0,.slice none 0 0,.slice none 0 0] 43):=⟨_,rfl⟩
 have hb1:Below w.heap.size w w1:=by rw [hw1];exact bal (bal (bal (brf w) _) _) _
 have E1:w1.heap[w.heap.size]?=some (.cells #[.slice aa W.s.first.length ac,.slice la W.s.log.length lc,.slice na W.s.now.length nc,.slice ca W.cl.length cc,.slice ua W.up.length uc,.slice da W.down.length dc] 30 (0,0)):=by
  rw [hw1]
  exact ((bal (brf _) _).block _ (by simp;omega)).trans (heap_at2 rfl)
 have H1:HAt w w1 kd cn xn xb xo oa oc ba bc:=by
  refine ⟨hb1, ?_, ?_,ROp.to ho fun k hk _=>⟨⟨by omega,by omega⟩,hb1.block k hk.2⟩,RBytes.to hs fun k hk _=>⟨⟨by omega,by omega⟩,hb1.block k hk.2⟩⟩
  ·rw [hw1]
   exact ((bal (brf _) _).block _ (by simp)).trans (heap_at (by simp))
  ·rw [hw1]
   exact heap_at (by simp)
 obtain ⟨x0,x1,x2,x3,x4,x5⟩:=P6.of E1
 obtain ⟨y0,y1,y2,y3,y4⟩:=cell5 H1.e
 obtain ⟨z0,z1,z2,z3,z4⟩:=cell5 H1.z
 have fz2:∀ i,w1.frozen? ⟨w.heap.size+2,i,none⟩=false:=fun i=>Lib.frozen_of_heap H1.z _
 replace H1:=Lib.hid H1
 replace E1:=Lib.hid E1
 replace h:=Lib.hid h
 replace hne:=Lib.hid hne
 replace hb1:=Lib.hid hb1
 clear ho hs
 go_enter Tryz.func83,Tryz.ntmps83
 go_upto_region 1 with fail
 rw [← hw1]
 clear hw1
 by_cases hk1:kd=1∧0≤cn∧cn < W.cl.length
 ·obtain ⟨rfl,h0,hlt⟩:=hk1
  obtain ⟨k,rfl⟩:∃ k:Nat,cn=k:=⟨cn.toNat,by omega⟩
  have hlt':k < W.cl.length:=by omega
  obtain ⟨c,hc⟩:∃ c,W.cl[k]?=some c:=⟨_,List.getElem?_eq_getElem hlt'⟩
  have hcne:c.now≠[]:=hne.out c (List.mem_of_getElem? hc)
  obtain ⟨_,_,_,_,_,_,e1,_,hcl,_,_⟩:=h.out
  simp only [Value.agg.injEq,Array.mk.injEq,List.cons.injEq,and_true] at e1
  obtain ⟨rfl,rfl,rfl,rfl,rfl,rfl⟩:=e1
  obtain ⟨b,o,v0,v1,v2,v3,v4,v5,v6,e3,rc,c0,c1,c2,c3,c4,c5,c6⟩:=RClcs.at hcl hb1.out hc
  subst e3
  obtain ⟨p1,q1,p2,q2,p3,q3,p4,q4,rfl,rfl,rfl,rfl,rfl,rfl,rfl⟩:=RCl.shape rc
  have hnl:c.now.length≤9223372036854775807:=by
   obtain ⟨_,_,_,_,_,_,hi,_⟩:=rc
   obtain ⟨_,_,_,h1,h2,_⟩:=hi
   unfold maxLen at h2
   omega
  have hn0:0 < c.now.length:=List.length_pos_iff.2 hcne
  have d1:decide ((k:Int) < 0)=false:=by simp
  have d2:decide ((W.cl.length:Int)≤(k:Int))=false:=by simp;omega
  clear h hcl hc hcne rc c0 c1 c3 c4 c5 c6 z0 z1 z2 z3 z4 fz2 hne
  have CL:=Lib.hid (opLong_any _ _ xo w1 H1.out.ho)
  have hnl':=Lib.hid hnl
  have hn0':=Lib.hid hn0
  clear hnl hn0
  go_wp2_with fail
  refine CL.out.mono ?_
  rintro e w2 ⟨rfl,hb2⟩
  have H2:=Lib.hid (H1.out.below hb2)
  obtain ⟨y0,y1,y2,y3,y4⟩:=cell5 H2.out.e
  obtain ⟨from1,hfrom⟩:∃ f,f=(longs 0 0 xo).1:=⟨_,rfl⟩
  rw [← hfrom]
  clear hfrom CL x0 x1 x2 x3 x4 x5 c2 H1 hb2 hb1 E1
  have CK:=Lib.hid (opCheck_any _ _ xo w2 H2.out.ho)
  go_wp2_with fail
  refine CK.out.mono ?_
  rintro e w3 ⟨rfl,hb3⟩
  have H3:=Lib.hid (H2.out.below hb3)
  obtain ⟨y0,y1,y2,y3,y4⟩:=cell5 H3.out.e
  clear CK hb3 H2
  by_cases hc1:chkOp xo=0∧from1 < (c.now.length:Int)
  ·obtain ⟨g1,g2⟩:=hc1
   have hlo:xo.length≤40:=by
    by_cases hh:xo.length≤40
    ·exact hh
    ·exact absurd g1 (by rw [chkOp_many (Or.inr (by omega))];decide)
   have b1:(chkOp xo == 0)=true:=by simpa using g1
   have b2:decide (from1 < (c.now.length:Int))=true:=by simpa using g2
   clear g1 g2
   have CC:=Lib.hid (cloneOp_any (NB w) _ xo w3 H3.out.ho (by omega))
   have hlo':=Lib.hid hlo
   clear hlo
   go_wp2_with fail
   refine CC.out.mono ?_
   rintro e w4 ⟨uo,rfl,ho4,hb4⟩
   obtain ⟨oa4,oc4,rfl,_⟩:=RdS.len ho4.rd
   have H4:=Lib.hid (H3.out.below hb4)
   obtain ⟨y0,y1,y2,y3,y4⟩:=cell5 H4.out.e
   clear CC
   have ho4':=Lib.hid ho4
   clear ho4
   have fz4:∀ i,w4.frozen? ⟨w.heap.size+1,i,none⟩=false:=fun i=>Lib.frozen_of_heap H4.out.e _
   obtain ⟨pt,hpt⟩:∃ pt:Pt,pt=⟨1,wrap64 ((c.now.length:Int) - from1),[],0,0,false,[]⟩:=⟨_,rfl⟩
   have hBb:Below w4.heap.size w4 (w4.alloc (.cells #[.int .i64 1,.int .i64 (wrap64 ((c.now.length:Int) - from1)),.slice none 0 0,.int .i64 0,.int .i64 0,.bool false,.string ⟨#[]⟩] 93)):=bal (brf w4) _
   have hsrc:=Lib.hid (RdS.one (sz:=7) (R:=RPt fun j=>NB w j∧j < w3.heap.size) (F:=fun _=>True) (w:=w4) (x:=pt) [.int .i64 1,.int .i64 (wrap64 ((c.now.length:Int) - from1)),.slice none 0 0,.int .i64 0,.int .i64 0,.bool false,.string ⟨#[]⟩] 93 rfl trivial (by rw [hpt];exact ⟨_,rfl,RdS.nil⟩))
   have hown:=Lib.hid (ho4'.out.below hBb (fun _ _ _ r=>RPt.to r (Kp.below hBb)))
   have hz34:=hb4.size
   have hzz:=lt_of_heap H4.out.z
   have hlo4:∀ j,j < w3.heap.size→some j≠(Value.slice oa4 xo.length oc4).ownBlock:=fun j hj e=>by have:=(OwnS.own_lt ho4'.out e.symm).1;omega
   replace hlo4:=Lib.hid hlo4
   replace hBb:=Lib.hid hBb
   have hb4':=Lib.hid hb4
   go_upto_region 7 with (at_builtin;refine wpList_app rfl (.tmp 52) (.tmp 57) 40 rfl w3.heap.size 93 7 80 _ elPart (RPt fun j=>NB w j∧j < w3.heap.size) (.slice oa4 xo.length oc4) xo [pt] rfl hown.out (fun _=>True) (.slice (some ⟨w4.heap.size,0,none⟩) 1 1) rfl hsrc.out (RPt_one _) (by have:=hlo'.out;simp [maxLen];omega) (by have:=hlo'.out;simp;omega) (by simp;omega) (fun w' hg cs y _ r=>RPt.to r fun j hj hl=>⟨hj,hg.block j hl (hlo4.out j hj.2)⟩) ?_;intro u5 w5 ho5 hg5 hB5;obtain ⟨oa5,oc5,rfl,_⟩:=RdS.len ho5.rd;have H5:=Lib.hid (H3.out.grow (fun j hj=>(hg5.block j (by have:=hBb.out.size;omega) (hlo4.out j hj)).trans ((hBb.out.block j (by omega)).trans (hb4'.out.block j hj))) (H4.out.hb.trans ((hBb.out.mono H4.out.hb.size).trans (hB5.mono H3.out.hb.size))));have fz5:∀ i,w5.frozen? ⟨w.heap.size+1,i,none⟩=false:=fun i=>Lib.frozen_of_heap H5.out.e _;obtain ⟨y0,y1,y2,y3,y4⟩:=cell5 H5.out.e)
   have R5:=Lib.hid (ho5.rd)
   obtain ⟨xo6,hx6⟩:∃ l,l=xo ++ [pt]:=⟨_,rfl⟩
   have hl6:xo.length+1=xo6.length:=by rw [hx6];simp
   have H6:=Lib.hid (H5.out.put (o':=xo6) (oa':=oa5) (oc':=oc5) (by rw [hx6];exact RdS.to R5.out (by decide) (fun k hk _=>(by have hk1:w3.heap.size≤k:=hk;have:=lt_of_heap H3.out.z;exact ⟨⟨by omega,by omega⟩,rfl⟩)) (fun _ _ _ r=>RPt.to r (Kp.weak w5 fun _ hk=>hk.1))))
   rw [hl6]
   clear H5 R5 ho5 fz4 fz5 hown hsrc hg5 hB5 hx6 hl6 H4 y0 y1 y2 y3 y4
   obtain ⟨y0,y1,y2,y3,y4⟩:=cell5 H6.out.e
   obtain ⟨w6,hw6⟩:∃ w6,w6=w5.setCell ⟨w.heap.size+1,3,none⟩ (.slice oa5 xo6.length oc5):=⟨_,rfl⟩
   rw [← hw6] at H6 y0 y1 y2 y3 y4
   rw [← hw6]
   clear hw6
   have CL:=Lib.hid (opLong_any _ _ xo6 w6 H6.out.ho)
   go_wp2_with fail
   refine CL.out.mono ?_
   rintro e wa ⟨rfl,hba⟩
   have HA:=Lib.hid (H6.out.below hba)
   obtain ⟨y0,y1,y2,y3,y4⟩:=cell5 HA.out.e
   obtain ⟨from2,hfrom⟩:∃ f,f=(longs 0 0 xo6).1:=⟨_,rfl⟩
   rw [← hfrom]
   clear hfrom CL hba
   have CK:=Lib.hid (opCheck_any _ _ xo6 wa HA.out.ho)
   go_wp2_with fail
   refine CK.out.mono ?_
   rintro e wb ⟨rfl,hbb⟩
   have HB:=Lib.hid (HA.out.below hbb)
   obtain ⟨y0,y1,y2,y3,y4⟩:=cell5 HB.out.e
   clear CK hbb
   by_cases hc2:chkOp xo6=0∧(c.now.length:Int) < from2
   ·obtain ⟨g1,g2⟩:=hc2
    have b1:(chkOp xo6 == 0)=true:=by simpa using g1
    have b2:decide ((c.now.length:Int) < from2)=true:=by simpa using g2
    clear g1 g2
    have CA:=Lib.hid (at_any xn c.now.length (by have:=hn0'.out;omega) (by have:=hnl'.out;omega) wb)
    go_wp2_with fail
    refine CA.out.mono ?_
    rintro e wc ⟨m,rfl,m0,m1,hbc⟩
    have HC:=Lib.hid (HB.out.below hbc)
    obtain ⟨y0,y1,y2,y3,y4⟩:=cell5 HC.out.e
    have CP:=Lib.hid (puts_any 33 m c.now.length (by rw [IntWalk.i64_left];exact IntWalk.wrap64_in _ (by have:=hnl'.out;omega)) wc)
    clear CA hbc
    go_wp2_with fail
    refine CP.out.mono ?_
    rintro e wd ⟨r,rfl,hr,hbd⟩
    obtain ⟨ra,rcap,rfl,_⟩:=RdS.len hr
    have hcap:3≤rcap:=by
     obtain ⟨_,_,e,h1,_⟩:=hr
     cases e
     exact h1
    have HD0:=HC.out.below hbd
    have hzc:=lt_of_heap HC.out.z
    have hr':ROp (NB w) wd (.slice ra (putsP 33 m c.now.length).length rcap) (putsP 33 m c.now.length):=ROp.to hr fun k hk _=>(by have hk1:wc.heap.size≤k:=hk;exact ⟨⟨by omega,by omega⟩,rfl⟩)
    rw [show (putsP 33 m c.now.length).length=3 from rfl]
    have HE0:HAt w (wd.setCell ⟨w.heap.size+1,3,none⟩ (.slice ra 3 rcap)) 1 k xn xb (putsP 33 m c.now.length) ra rcap ba bc:=HD0.put hr'
    have fzd:∀ i,wd.frozen? ⟨w.heap.size+1,i,none⟩=false:=fun i=>Lib.frozen_of_heap HD0.e _
    obtain ⟨y0,y1,y2,y3,y4⟩:=cell5 HD0.e
    clear CP hbd hr HD0 hr'
    go_upto_region 10 with fail
    generalize hwe:wd.setCell ⟨w.heap.size+1,3,none⟩ _=we at *
    obtain ⟨b1',o1',sv,e5,_,f0,f1,f2,f3,f4,f5,f6⟩:=ROp.at HE0.ho (brf we) (k:=0) (x:=⟨1,m,[],0,0,false,[]⟩) rfl
    subst e5
    obtain ⟨y0,y1,y2,y3,y4⟩:=cell5 HE0.e
    replace y3:we.cell? ⟨w.heap.size+1,3,none⟩=some (.slice (some ⟨b1',o1',none⟩) 3 rcap):=y3
    simp only [Nat.zero_mul,Nat.add_zero] at f1
    have fze:∀ i,we.frozen? ⟨w.heap.size+1,i,none⟩=false:=fun i=>Lib.frozen_of_heap HE0.e _
    have HE:=Lib.hid HE0
    clear HE0 f0 f2 f3 f4 f5 f6 fzd
    by_cases hm:m=0
    ·subst hm
     have hput:HAt w (we.setCell ⟨w.heap.size+1,3,none⟩ (.slice (some ⟨b1',o1'+7,none⟩) 2 (rcap - 1))) 1 k xn xb [⟨2,0,[⟨33,0,[]⟩],0,0,false,[]⟩,⟨1,c.now.length - 0,[],0,0,false,[]⟩] (some ⟨b1',o1'+7,none⟩) (rcap - 1) ba bc:=HE.out.put (RdS.tail HE.out.ho)
     go_upto_region 12 with fail
     generalize hwf:we.setCell ⟨w.heap.size+1,3,none⟩ _=wf at *
     have HF:=Lib.hid hput
     clear hput f1 fze
     obtain ⟨y0,y1,y2,y3,y4⟩:=cell5 HF.out.e
     obtain ⟨z0,z1,z2,z3,z4⟩:=cell5 HF.out.z
     have fz:∀ i,wf.frozen? ⟨w.heap.size+2,i,none⟩=false:=fun i=>Lib.frozen_of_heap HF.out.z _
     go_wp2
     obtain ⟨q1,q2,q3⟩:=HF.out.done 2 rfl
     generalize hwz:((((wf.setCell ⟨w.heap.size+2,0,none⟩ _).setCell ⟨w.heap.size+2,1,none⟩ _).setCell ⟨w.heap.size+2,2,none⟩ _).setCell ⟨w.heap.size+2,3,none⟩ _).setCell ⟨w.heap.size+2,4,none⟩ _=wz at *
     obtain ⟨t0,t1,t2,t3,t4⟩:=cell5 q1
     refine bodyPost_ret (v:=.agg #[.int .i64 1,.int .i64 (k:Int),.int .i64 xn,.slice (some ⟨b1',o1'+7,none⟩) 2 (rcap - 1),.slice ba xb.length bc]) ?_ rfl ?_
     ·simp [results,Tryz.results83,go_sem,t0,t1,t2,t3,t4] <;> rfl
     ·exact FitP.of q2 q3
    ·have hmz:(m == 0)=false:=by simpa using hm
     clear hm m0 m1
     go_upto_region 12 with fail
     clear f1 fze hmz b1 b2
     obtain ⟨y0,y1,y2,y3,y4⟩:=cell5 HE.out.e
     obtain ⟨z0,z1,z2,z3,z4⟩:=cell5 HE.out.z
     have fz:∀ i,we.frozen? ⟨w.heap.size+2,i,none⟩=false:=fun i=>Lib.frozen_of_heap HE.out.z _
     go_wp2
     obtain ⟨q1,q2,q3⟩:=HE.out.done 3 rfl
     generalize hwz:((((we.setCell ⟨w.heap.size+2,0,none⟩ _).setCell ⟨w.heap.size+2,1,none⟩ _).setCell ⟨w.heap.size+2,2,none⟩ _).setCell ⟨w.heap.size+2,3,none⟩ _).setCell ⟨w.heap.size+2,4,none⟩ _=wz at *
     obtain ⟨t0,t1,t2,t3,t4⟩:=cell5 q1
     refine bodyPost_ret (v:=.agg #[.int .i64 1,.int .i64 (k:Int),.int .i64 xn,.slice (some ⟨b1',o1',none⟩) 3 rcap,.slice ba xb.length bc]) ?_ rfl ?_
     ·simp [results,Tryz.results83,go_sem,t0,t1,t2,t3,t4] <;> rfl
     ·exact FitP.of q2 q3
   ·have hcc:(chkOp xo6 == 0)=false∨((chkOp xo6 == 0)=true∧decide ((c.now.length:Int) < from2)=false):=by
     simp only [beq_eq_false_iff_ne,decide_eq_false_iff_not,beq_iff_eq]
     by_cases hh:chkOp xo6=0
     ·exact Or.inr ⟨hh,fun hg=>hc2 ⟨hh,hg⟩⟩
     ·exact Or.inl hh
    rcases hcc with b1 | ⟨b1,b2⟩
    ·obtain ⟨y0,y1,y2,y3,y4⟩:=cell5 HB.out.e
     obtain ⟨z0,z1,z2,z3,z4⟩:=cell5 HB.out.z
     have fz:∀ i,wb.frozen? ⟨w.heap.size+2,i,none⟩=false:=fun i=>Lib.frozen_of_heap HB.out.z _
     go_wp2
     obtain ⟨q1,q2,q3⟩:=HB.out.done xo6.length rfl
     generalize hwz:((((wb.setCell ⟨w.heap.size+2,0,none⟩ _).setCell ⟨w.heap.size+2,1,none⟩ _).setCell ⟨w.heap.size+2,2,none⟩ _).setCell ⟨w.heap.size+2,3,none⟩ _).setCell ⟨w.heap.size+2,4,none⟩ _=wz at *
     obtain ⟨t0,t1,t2,t3,t4⟩:=cell5 q1
     refine bodyPost_ret (v:=.agg #[.int .i64 1,.int .i64 (k:Int),.int .i64 xn,.slice oa5 xo6.length oc5,.slice ba xb.length bc]) ?_ rfl ?_
     ·simp [results,Tryz.results83,go_sem,t0,t1,t2,t3,t4] <;> rfl
     ·exact FitP.of q2 q3
    ·obtain ⟨y0,y1,y2,y3,y4⟩:=cell5 HB.out.e
     obtain ⟨z0,z1,z2,z3,z4⟩:=cell5 HB.out.z
     have fz:∀ i,wb.frozen? ⟨w.heap.size+2,i,none⟩=false:=fun i=>Lib.frozen_of_heap HB.out.z _
     go_wp2
     obtain ⟨q1,q2,q3⟩:=HB.out.done xo6.length rfl
     generalize hwz:((((wb.setCell ⟨w.heap.size+2,0,none⟩ _).setCell ⟨w.heap.size+2,1,none⟩ _).setCell ⟨w.heap.size+2,2,none⟩ _).setCell ⟨w.heap.size+2,3,none⟩ _).setCell ⟨w.heap.size+2,4,none⟩ _=wz at *
     obtain ⟨t0,t1,t2,t3,t4⟩:=cell5 q1
     refine bodyPost_ret (v:=.agg #[.int .i64 1,.int .i64 (k:Int),.int .i64 xn,.slice oa5 xo6.length oc5,.slice ba xb.length bc]) ?_ rfl ?_
     ·simp [results,Tryz.results83,go_sem,t0,t1,t2,t3,t4] <;> rfl
     ·exact FitP.of q2 q3
  ·have hcc:(chkOp xo == 0)=false∨((chkOp xo == 0)=true∧decide (from1 < (c.now.length:Int))=false):=by
    simp only [beq_eq_false_iff_ne,decide_eq_false_iff_not,beq_iff_eq]
    by_cases hh:chkOp xo=0
    ·exact Or.inr ⟨hh,fun hg=>hc1 ⟨hh,hg⟩⟩
    ·exact Or.inl hh
   rcases hcc with b1 | ⟨b1,b2⟩
   ·have CL:=Lib.hid (opLong_any _ _ xo w3 H3.out.ho)
    go_wp2_with fail
    refine CL.out.mono ?_
    rintro e wa ⟨rfl,hba⟩
    have HA:=Lib.hid (H3.out.below hba)
    obtain ⟨y0,y1,y2,y3,y4⟩:=cell5 HA.out.e
    obtain ⟨from2,hfrom⟩:∃ f,f=(longs 0 0 xo).1:=⟨_,rfl⟩
    rw [← hfrom]
    clear hfrom CL hba
    have CK:=Lib.hid (opCheck_any _ _ xo wa HA.out.ho)
    go_wp2_with fail
    refine CK.out.mono ?_
    rintro e wb ⟨rfl,hbb⟩
    have HB:=Lib.hid (HA.out.below hbb)
    obtain ⟨y0,y1,y2,y3,y4⟩:=cell5 HB.out.e
    clear CK hbb
    obtain ⟨y0,y1,y2,y3,y4⟩:=cell5 HB.out.e
    obtain ⟨z0,z1,z2,z3,z4⟩:=cell5 HB.out.z
    have fz:∀ i,wb.frozen? ⟨w.heap.size+2,i,none⟩=false:=fun i=>Lib.frozen_of_heap HB.out.z _
    go_wp2
    obtain ⟨q1,q2,q3⟩:=HB.out.done xo.length rfl
    generalize hwz:((((wb.setCell ⟨w.heap.size+2,0,none⟩ _).setCell ⟨w.heap.size+2,1,none⟩ _).setCell ⟨w.heap.size+2,2,none⟩ _).setCell ⟨w.heap.size+2,3,none⟩ _).setCell ⟨w.heap.size+2,4,none⟩ _=wz at *
    obtain ⟨t0,t1,t2,t3,t4⟩:=cell5 q1
    refine bodyPost_ret (v:=.agg #[.int .i64 1,.int .i64 (k:Int),.int .i64 xn,.slice oa xo.length oc,.slice ba xb.length bc]) ?_ rfl ?_
    ·simp [results,Tryz.results83,go_sem,t0,t1,t2,t3,t4] <;> rfl
    ·exact FitP.of q2 q3
   ·have CL:=Lib.hid (opLong_any _ _ xo w3 H3.out.ho)
    go_wp2_with fail
    refine CL.out.mono ?_
    rintro e wa ⟨rfl,hba⟩
    have HA:=Lib.hid (H3.out.below hba)
    obtain ⟨y0,y1,y2,y3,y4⟩:=cell5 HA.out.e
    obtain ⟨from2,hfrom⟩:∃ f,f=(longs 0 0 xo).1:=⟨_,rfl⟩
    rw [← hfrom]
    clear hfrom CL hba
    have CK:=Lib.hid (opCheck_any _ _ xo wa HA.out.ho)
    go_wp2_with fail
    refine CK.out.mono ?_
    rintro e wb ⟨rfl,hbb⟩
    have HB:=Lib.hid (HA.out.below hbb)
    obtain ⟨y0,y1,y2,y3,y4⟩:=cell5 HB.out.e
    clear CK hbb
    by_cases g2:(c.now.length:Int) < from2
    ·have b3:decide ((c.now.length:Int) < from2)=true:=by simpa using g2
     clear g2
     have CA:=Lib.hid (at_any xn c.now.length (by have:=hn0'.out;omega) (by have:=hnl'.out;omega) wb)
     go_wp2_with fail
     refine CA.out.mono ?_
     rintro e wc ⟨m,rfl,m0,m1,hbc⟩
     have HC:=Lib.hid (HB.out.below hbc)
     obtain ⟨y0,y1,y2,y3,y4⟩:=cell5 HC.out.e
     have CP:=Lib.hid (puts_any 33 m c.now.length (by rw [IntWalk.i64_left];exact IntWalk.wrap64_in _ (by have:=hnl'.out;omega)) wc)
     clear CA hbc
     go_wp2_with fail
     refine CP.out.mono ?_
     rintro e wd ⟨r,rfl,hr,hbd⟩
     obtain ⟨ra,rcap,rfl,_⟩:=RdS.len hr
     have hcap:3≤rcap:=by
      obtain ⟨_,_,e,h1,_⟩:=hr
      cases e
      exact h1
     have HD0:=HC.out.below hbd
     have hzc:=lt_of_heap HC.out.z
     have hr':ROp (NB w) wd (.slice ra (putsP 33 m c.now.length).length rcap) (putsP 33 m c.now.length):=ROp.to hr fun k hk _=>(by have hk1:wc.heap.size≤k:=hk;exact ⟨⟨by omega,by omega⟩,rfl⟩)
     rw [show (putsP 33 m c.now.length).length=3 from rfl]
     have HE0:HAt w (wd.setCell ⟨w.heap.size+1,3,none⟩ (.slice ra 3 rcap)) 1 k xn xb (putsP 33 m c.now.length) ra rcap ba bc:=HD0.put hr'
     have fzd:∀ i,wd.frozen? ⟨w.heap.size+1,i,none⟩=false:=fun i=>Lib.frozen_of_heap HD0.e _
     obtain ⟨y0,y1,y2,y3,y4⟩:=cell5 HD0.e
     clear CP hbd hr HD0 hr'
     go_upto_region 10 with fail
     generalize hwe:wd.setCell ⟨w.heap.size+1,3,none⟩ _=we at *
     obtain ⟨b1',o1',sv,e5,_,f0,f1,f2,f3,f4,f5,f6⟩:=ROp.at HE0.ho (brf we) (k:=0) (x:=⟨1,m,[],0,0,false,[]⟩) rfl
     subst e5
     obtain ⟨y0,y1,y2,y3,y4⟩:=cell5 HE0.e
     replace y3:we.cell? ⟨w.heap.size+1,3,none⟩=some (.slice (some ⟨b1',o1',none⟩) 3 rcap):=y3
     simp only [Nat.zero_mul,Nat.add_zero] at f1
     have fze:∀ i,we.frozen? ⟨w.heap.size+1,i,none⟩=false:=fun i=>Lib.frozen_of_heap HE0.e _
     have HE:=Lib.hid HE0
     clear HE0 f0 f2 f3 f4 f5 f6 fzd
     by_cases hm:m=0
     ·subst hm
      have hput:HAt w (we.setCell ⟨w.heap.size+1,3,none⟩ (.slice (some ⟨b1',o1'+7,none⟩) 2 (rcap - 1))) 1 k xn xb [⟨2,0,[⟨33,0,[]⟩],0,0,false,[]⟩,⟨1,c.now.length - 0,[],0,0,false,[]⟩] (some ⟨b1',o1'+7,none⟩) (rcap - 1) ba bc:=HE.out.put (RdS.tail HE.out.ho)
      go_upto_region 12 with fail
      generalize hwf:we.setCell ⟨w.heap.size+1,3,none⟩ _=wf at *
      have HF:=Lib.hid hput
      clear hput f1 fze
      obtain ⟨y0,y1,y2,y3,y4⟩:=cell5 HF.out.e
      obtain ⟨z0,z1,z2,z3,z4⟩:=cell5 HF.out.z
      have fz:∀ i,wf.frozen? ⟨w.heap.size+2,i,none⟩=false:=fun i=>Lib.frozen_of_heap HF.out.z _
      go_wp2
      obtain ⟨q1,q2,q3⟩:=HF.out.done 2 rfl
      generalize hwz:((((wf.setCell ⟨w.heap.size+2,0,none⟩ _).setCell ⟨w.heap.size+2,1,none⟩ _).setCell ⟨w.heap.size+2,2,none⟩ _).setCell ⟨w.heap.size+2,3,none⟩ _).setCell ⟨w.heap.size+2,4,none⟩ _=wz at *
      obtain ⟨t0,t1,t2,t3,t4⟩:=cell5 q1
      refine bodyPost_ret (v:=.agg #[.int .i64 1,.int .i64 (k:Int),.int .i64 xn,.slice (some ⟨b1',o1'+7,none⟩) 2 (rcap - 1),.slice ba xb.length bc]) ?_ rfl ?_
      ·simp [results,Tryz.results83,go_sem,t0,t1,t2,t3,t4] <;> rfl
      ·exact FitP.of q2 q3
     ·have hmz:(m == 0)=false:=by simpa using hm
      clear hm m0 m1
      go_upto_region 12 with fail
      clear f1 fze hmz b1 b2
      obtain ⟨y0,y1,y2,y3,y4⟩:=cell5 HE.out.e
      obtain ⟨z0,z1,z2,z3,z4⟩:=cell5 HE.out.z
      have fz:∀ i,we.frozen? ⟨w.heap.size+2,i,none⟩=false:=fun i=>Lib.frozen_of_heap HE.out.z _
      go_wp2
      obtain ⟨q1,q2,q3⟩:=HE.out.done 3 rfl
      generalize hwz:((((we.setCell ⟨w.heap.size+2,0,none⟩ _).setCell ⟨w.heap.size+2,1,none⟩ _).setCell ⟨w.heap.size+2,2,none⟩ _).setCell ⟨w.heap.size+2,3,none⟩ _).setCell ⟨w.heap.size+2,4,none⟩ _=wz at *
      obtain ⟨t0,t1,t2,t3,t4⟩:=cell5 q1
      refine bodyPost_ret (v:=.agg #[.int .i64 1,.int .i64 (k:Int),.int .i64 xn,.slice (some ⟨b1',o1',none⟩) 3 rcap,.slice ba xb.length bc]) ?_ rfl ?_
      ·simp [results,Tryz.results83,go_sem,t0,t1,t2,t3,t4] <;> rfl
      ·exact FitP.of q2 q3
    ·have b3:decide ((c.now.length:Int) < from2)=false:=by simpa using g2
     obtain ⟨y0,y1,y2,y3,y4⟩:=cell5 HB.out.e
     obtain ⟨z0,z1,z2,z3,z4⟩:=cell5 HB.out.z
     have fz:∀ i,wb.frozen? ⟨w.heap.size+2,i,none⟩=false:=fun i=>Lib.frozen_of_heap HB.out.z _
     go_wp2
     obtain ⟨q1,q2,q3⟩:=HB.out.done xo.length rfl
     generalize hwz:((((wb.setCell ⟨w.heap.size+2,0,none⟩ _).setCell ⟨w.heap.size+2,1,none⟩ _).setCell ⟨w.heap.size+2,2,none⟩ _).setCell ⟨w.heap.size+2,3,none⟩ _).setCell ⟨w.heap.size+2,4,none⟩ _=wz at *
     obtain ⟨t0,t1,t2,t3,t4⟩:=cell5 q1
     refine bodyPost_ret (v:=.agg #[.int .i64 1,.int .i64 (k:Int),.int .i64 xn,.slice oa xo.length oc,.slice ba xb.length bc]) ?_ rfl ?_
     ·simp [results,Tryz.results83,go_sem,t0,t1,t2,t3,t4] <;> rfl
     ·exact FitP.of q2 q3
 ·have hor:kd≠1∨(kd=1∧cn < 0)∨(kd=1∧0≤cn∧(W.cl.length:Int)≤cn):=by omega
  clear hk1
  rcases hor with h1 | ⟨rfl,h1⟩ | ⟨rfl,h1,h2⟩
  ·have e1:(kd != 1)=true:=by simpa using h1
   obtain ⟨y0,y1,y2,y3,y4⟩:=cell5 H1.out.e
   obtain ⟨z0,z1,z2,z3,z4⟩:=cell5 H1.out.z
   have fz:∀ i,w1.frozen? ⟨w.heap.size+2,i,none⟩=false:=fun i=>Lib.frozen_of_heap H1.out.z _
   go_wp2
   obtain ⟨q1,q2,q3⟩:=H1.out.done xo.length rfl
   generalize hwz:((((w1.setCell ⟨w.heap.size+2,0,none⟩ _).setCell ⟨w.heap.size+2,1,none⟩ _).setCell ⟨w.heap.size+2,2,none⟩ _).setCell ⟨w.heap.size+2,3,none⟩ _).setCell ⟨w.heap.size+2,4,none⟩ _=wz at *
   obtain ⟨t0,t1,t2,t3,t4⟩:=cell5 q1
   refine bodyPost_ret (v:=.agg #[.int .i64 kd,.int .i64 (cn:Int),.int .i64 xn,.slice oa xo.length oc,.slice ba xb.length bc]) ?_ rfl ?_
   ·simp [results,Tryz.results83,go_sem,t0,t1,t2,t3,t4] <;> rfl
   ·exact FitP.of q2 q3
  ·have e1:decide (cn < 0)=true:=by simpa using h1
   obtain ⟨y0,y1,y2,y3,y4⟩:=cell5 H1.out.e
   obtain ⟨z0,z1,z2,z3,z4⟩:=cell5 H1.out.z
   have fz:∀ i,w1.frozen? ⟨w.heap.size+2,i,none⟩=false:=fun i=>Lib.frozen_of_heap H1.out.z _
   go_wp2
   obtain ⟨q1,q2,q3⟩:=H1.out.done xo.length rfl
   generalize hwz:((((w1.setCell ⟨w.heap.size+2,0,none⟩ _).setCell ⟨w.heap.size+2,1,none⟩ _).setCell ⟨w.heap.size+2,2,none⟩ _).setCell ⟨w.heap.size+2,3,none⟩ _).setCell ⟨w.heap.size+2,4,none⟩ _=wz at *
   obtain ⟨t0,t1,t2,t3,t4⟩:=cell5 q1
   refine bodyPost_ret (v:=.agg #[.int .i64 1,.int .i64 (cn:Int),.int .i64 xn,.slice oa xo.length oc,.slice ba xb.length bc]) ?_ rfl ?_
   ·simp [results,Tryz.results83,go_sem,t0,t1,t2,t3,t4] <;> rfl
   ·exact FitP.of q2 q3
  ·have e1:decide (cn < 0)=false:=by simpa using h1
   have e2:decide ((W.cl.length:Int)≤cn)=true:=by simpa using h2
   obtain ⟨y0,y1,y2,y3,y4⟩:=cell5 H1.out.e
   obtain ⟨z0,z1,z2,z3,z4⟩:=cell5 H1.out.z
   have fz:∀ i,w1.frozen? ⟨w.heap.size+2,i,none⟩=false:=fun i=>Lib.frozen_of_heap H1.out.z _
   go_wp2
   obtain ⟨q1,q2,q3⟩:=H1.out.done xo.length rfl
   generalize hwz:((((w1.setCell ⟨w.heap.size+2,0,none⟩ _).setCell ⟨w.heap.size+2,1,none⟩ _).setCell ⟨w.heap.size+2,2,none⟩ _).setCell ⟨w.heap.size+2,3,none⟩ _).setCell ⟨w.heap.size+2,4,none⟩ _=wz at *
   obtain ⟨t0,t1,t2,t3,t4⟩:=cell5 q1
   refine bodyPost_ret (v:=.agg #[.int .i64 1,.int .i64 (cn:Int),.int .i64 xn,.slice oa xo.length oc,.slice ba xb.length bc]) ?_ rfl ?_
   ·simp [results,Tryz.results83,go_sem,t0,t1,t2,t3,t4] <;> rfl
   ·exact FitP.of q2 q3
end Go.Proofs.YteikncnldbdfmaaGreatDoor
