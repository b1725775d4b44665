import Derived.Test.YteikncnldbdfmaaGreatDoorMWdL
namespace Go.Proofs.YteikncnldbdfmaaGreatDoor
open Go.RowKit Go.Mh
theorem NoIt.zero6 {w:World} {g e:Nat} {fr:Nat × Nat} (h:w.heap[g]?=some (.cells #[.slice none 0 0,.slice none 0 0,.slice none 0 0,.slice none 0 0,.slice none 0 0,.slice none 0 0] e fr)):NoIt w g:=by
 have hc:∀ o v,w.cell? ⟨g,o,none⟩=some v→v=.slice none 0 0:=fun o v hv=>by
  unfold World.cell? at hv
  rw [h] at hv
  match o,hv with
  | 0,hv=>simpa using hv.symm
  | 1,hv=>simpa using hv.symm
  | 2,hv=>simpa using hv.symm
  | 3,hv=>simpa using hv.symm
  | 4,hv=>simpa using hv.symm
  | 5,hv=>simpa using hv.symm
  | n+6,hv=>simp at hv
 exact ⟨fun o m h1=>(by have:=hc o _ h1;cases this),fun o m m' h1 _=>(by have:=hc o _ h1;cases this)⟩
theorem RMsg.ne {F:Nat→Prop} {w:World} {cs:List Value} {m:Msg} {g:Nat} (h:RMsg F w cs m) (hg:NoIt w g):RMsg (fun k=>F k∧k≠g) w cs m:=by
 obtain ⟨ov,e,ho⟩:=h
 exact ⟨ov,e,ROp.ne ho hg⟩
theorem RQs.ofValsZ {F:Nat→Prop} {B z:Nat} {w:World} {v:Value} {us:List Value} {L:List (List Msg)} (h:OwnS B TS 1 RVal w v us) (hl:us.length=L.length) (hq:∀ (i:Nat) q x,us[i]?=some q→L[i]?=some x→OwnS B TM 4 (RMsg F) w q x)
  (hz:v.ownBlock≠some z) (hzq:∀ q,q ∈ us→q.ownBlock≠some z) (hn:NoIt w z):RdS 1 (RSl 4 (RMsg fun k=>k≠z) fun k=>k≠z) (fun k=>k≠z) w v L:=by
 obtain ⟨a,cap,rfl,h1,h2,h3,hel⟩:=h.rdN
 refine ⟨a,cap,by rw [hl],by omega,h2,h3,fun i x hx=>?_⟩
 obtain ⟨q,hq'⟩:∃ q,us[i]?=some q:=⟨_,List.getElem?_eq_getElem (by rw [hl];exact (List.getElem?_eq_some_iff.1 hx).1)⟩
 obtain ⟨b,o,cs,e1,hb,hcl,hat,rfl⟩:=hel i q hq'
 exact ⟨b,o,[q],e1,fun e=>hz (by rw [← e];exact hb),hcl,hat,q,rfl,RdS.to (hq i q x hq' hx).rdN (by decide) (fun k hk _=>⟨fun e=>hzq q (List.mem_of_getElem? hq') (by rw [← e];exact hk),rfl⟩) (fun _ _ _ r=>RMsg.to (RMsg.ne r hn) fun _ hk _=>⟨hk.2,rfl⟩)⟩
theorem RItems.neZ {F Z:Nat→Prop} {w:World} {v:Value} {L:List It} (h:RItems F w v L) (hz:∀ z,Z z→NoIt w z):RItems (fun k=>F k∧¬ Z k) w v L:=by
 obtain ⟨a,cap,e,h1,h2,h3,h4⟩:=h
 refine ⟨a,cap,e,h1,h2,h3,fun i x hx=>?_⟩
 obtain ⟨b,o,cs,e1,hF,hl,hat,hR⟩:=h4 i x hx
 refine ⟨b,o,cs,e1,⟨hF,fun hb=>?_⟩,hl,hat,hR⟩
 have hR':cs=[.int .u8 x.c.toNat,.int .i64 x.m,str x.l]:=hR
 subst hR'
 exact (hz b hb).i _ _ (hat 0 _ rfl)
theorem ROp.neZ {F Z:Nat→Prop} {w:World} {v:Value} {L:List Pt} (h:ROp F w v L) (hz:∀ z,Z z→NoIt w z):ROp (fun k=>F k∧¬ Z k) w v L:=by
 obtain ⟨a,cap,e,h1,h2,h3,h4⟩:=h
 refine ⟨a,cap,e,h1,h2,h3,fun i x hx=>?_⟩
 obtain ⟨b,o,cs,e1,hF,hl,hat,sv,hR,hI⟩:=h4 i x hx
 refine ⟨b,o,cs,e1,⟨hF,fun hb=>?_⟩,hl,hat,sv,hR,RItems.neZ hI hz⟩
 subst hR
 exact (hz b hb).p _ _ _ (hat 0 _ rfl) (hat 1 _ rfl)
theorem RLog.neZ {F Z:Nat→Prop} {w:World} {v:Value} {L:List En} (h:RLog F w v L) (hz:∀ z,Z z→NoIt w z):RLog (fun k=>F k∧¬ Z k) w v L:=by
 obtain ⟨a,cap,e,h1,h2,h3,h4⟩:=h
 refine ⟨a,cap,e,h1,h2,h3,fun i x hx=>?_⟩
 obtain ⟨b,o,cs,e1,hF,hl,hat,sv,hR,hI⟩:=h4 i x hx
 refine ⟨b,o,cs,e1,⟨hF,fun hb=>?_⟩,hl,hat,sv,hR,ROp.neZ hI hz⟩
 subst hR
 exact (hz b hb).p _ _ _ (hat 0 _ rfl) (hat 1 _ rfl)
theorem RSrv.neZ {F Z:Nat→Prop} {w:World} {v:Value} {s:Srv} (h:RSrv F w v s) (hz:∀ z,Z z→NoIt w z):RSrv (fun k=>F k∧¬ Z k) w v s:=by
 obtain ⟨a,l,n,e,h1,h2,h3⟩:=h
 exact ⟨a,l,n,e,RItems.neZ h1 hz,RLog.neZ h2 hz,RItems.neZ h3 hz⟩
theorem RClc.neZ {F Z:Nat→Prop} {w:World} {cs:List Value} {c:Cl} (h:RClc F w cs c) (hz:∀ z,Z z→NoIt w z):RClc (fun k=>F k∧¬ Z k) w cs c:=by
 obtain ⟨b,n,s,k,e,h1,h2,h3,h4⟩:=h
 exact ⟨b,n,s,k,e,RItems.neZ h1 hz,RItems.neZ h2 hz,ROp.neZ h3 hz,ROp.neZ h4 hz⟩
theorem RMsg.neZ {F Z:Nat→Prop} {w:World} {cs:List Value} {m:Msg} (h:RMsg F w cs m) (hz:∀ z,Z z→NoIt w z):RMsg (fun k=>F k∧¬ Z k) w cs m:=by
 obtain ⟨ov,e,ho⟩:=h
 exact ⟨ov,e,ROp.neZ ho hz⟩
theorem RQs.ofValsS {F Z:Nat→Prop} {B:Nat} {w:World} {v:Value} {us:List Value} {L:List (List Msg)} (h:OwnS B TS 1 RVal w v us) (hl:us.length=L.length) (hq:∀ (i:Nat) q x,us[i]?=some q→L[i]?=some x→OwnS B TM 4 (RMsg F) w q x)
  (hz:∀ k,v.ownBlock=some k→¬ Z k) (hzq:∀ q,q ∈ us→∀ k,q.ownBlock=some k→¬ Z k) (hn:∀ z,Z z→NoIt w z):RdS 1 (RSl 4 (RMsg fun k=>¬ Z k) fun k=>¬ Z k) (fun k=>¬ Z k) w v L:=by
 obtain ⟨a,cap,rfl,h1,h2,h3,hel⟩:=h.rdN
 refine ⟨a,cap,by rw [hl],by omega,h2,h3,fun i x hx=>?_⟩
 obtain ⟨q,hq'⟩:∃ q,us[i]?=some q:=⟨_,List.getElem?_eq_getElem (by rw [hl];exact (List.getElem?_eq_some_iff.1 hx).1)⟩
 obtain ⟨b,o,cs,e1,hb,hcl,hat,rfl⟩:=hel i q hq'
 exact ⟨b,o,[q],e1,hz b hb,hcl,hat,q,rfl,RdS.to (hq i q x hq' hx).rdN (by decide) (fun k hk _=>⟨hzq q (List.mem_of_getElem? hq') k hk,rfl⟩) (fun _ _ _ r=>RMsg.to (RMsg.neZ r hn) fun _ hk _=>⟨hk.2,rfl⟩)⟩
theorem WAt.valS2 {B g:Nat} {Z:Nat→Prop} {l:Lay} {w:World} {W:Wd} (h:WAt B g l w W) (hz:∀ z,Z z→l.N g z) (hn:∀ z,Z z→NoIt w z):∃ a lg n,w.heap[g]?=some (.cells #[a,lg,n,l.vc,l.vu,l.vd] TW (0,0))∧RWd (fun k=>¬ Z k) w (.agg #[a,lg,n,l.vc,l.vu,l.vd]) W:=by
 obtain ⟨a,lg,n,hg,hs⟩:=h.box
 have hr:∀ q ∈ l.rows,∀ k,q.ownBlock=some k→¬ Z k:=fun q hq k e hk=>hz k hk (Or.inr ⟨q,hq,e⟩)
 exact ⟨a,lg,n,hg,a,lg,n,l.vc,l.vu,l.vd,rfl,RSrv.to (RSrv.neZ hs hn) fun _ hk _=>⟨hk.2,rfl⟩,RdS.to h.cl.rdN (by decide) (fun k hk _=>⟨hr l.vc (by simp) k hk,rfl⟩) (fun _ _ _ r=>RClc.to (RClc.neZ r hn) fun _ hk _=>⟨hk.2,rfl⟩),
  RQs.ofValsS h.uR h.ul h.qu (hr _ (by simp)) (fun q hq=>hr q (by simp [hq])) hn,RQs.ofValsS h.dR h.dl h.qd (hr _ (by simp)) (fun q hq=>hr q (by simp [hq])) hn⟩
theorem NoIt.below {w w':World} {z:Nat} (h:NoIt w z) (hl:z < w.heap.size) (hb:Below w.heap.size w w'):NoIt w' z:=by
 have e:∀ o,w'.cell? ⟨z,o,none⟩=w.cell? ⟨z,o,none⟩:=fun o=>hb.cell hl
 exact ⟨fun o m h1=>h.i o m (by rw [← e];exact h1),fun o m m' h1 h2=>h.p o m m' (by rw [← e];exact h1) (by rw [← e];exact h2)⟩
theorem RHap.to {F F':Nat→Prop} {w w':World} {v:Value} {x:Hap} (h:RHap F w v x) (k:Kp F F' w w'):RHap F' w' v x:=by
 obtain ⟨oa,oc,ba,bc,e,h1,h2⟩:=h
 exact ⟨oa,oc,ba,bc,e,ROp.to h1 k,RBytes.to h2 k⟩
theorem WVal.boxed {w w2 w3:World} {g B:Nat} {N:Nat→Prop} {l:Lay} {a lg n:Value} {W:Wd} (V:WVal B N l w2 a lg n W) (hg:w3.heap[g]?=some (.cells #[a,lg,n,l.vc,l.vu,l.vd] TW (0,0))) (hk:∀ k,k≠g→w3.heap[k]?=w2.heap[k]?) (hN:∀ k,N k→k≠g) (hgB:g < B) (h0:w.heap.size≤g):WAt w.heap.size g l w3 W:=
 WAt.ofVal (V.to (B':=B) (N':=N) (fun k h _=>hk k (by rcases h with h | h;exact hN k h;omega)) (Nat.le_refl _) (fun _ h=>h)) hg h0 (by omega) hN
theorem max_keep {w w':World} {g:Nat} (h:∃ m,w.cell? ⟨g,0,none⟩=some (.int .i64 m)) (hb:Below w.heap.size w w'):∃ m,w'.cell? ⟨g,0,none⟩=some (.int .i64 m):=by
 obtain ⟨m,h⟩:=h
 exact ⟨m,(hb.cell (lt_of_cell h)).trans h⟩
set_option maxRecDepth 100000 in
set_option maxHeartbeats 4000000 in
theorem wdDo_anyZ (F Z:Nat→Prop) (v u:Value) (W:Wd) (x:Hap) (w:World) (hZ:∀ z,Z z→z < w.heap.size∧NoIt w z) (h:RWd F w v W) (hx:RHap F w u x) (hm:∃ m,w.cell? ⟨2,0,none⟩=some (.int .i64 m)) :
  Calls Tryz.prog 15 #[v,u] w fun e w'=>∃ v',e=.returned (.tuple #[v',.int .i64 (doW sanP W x).2])∧RWd (fun k=>¬ Z k) w' v' (doW sanP W x).1∧Below w.heap.size w w':=by
 have h:=RWd.to h (Kp.lt w)
 have hx:=RHap.to hx (Kp.lt w)
 obtain ⟨aa,ac,la,lc,na,nc,ca,cc,ua,uc,da,dc,rfl⟩:=RWd.shape h
 obtain ⟨oa,oc,ba,bc,rfl,ho,hbs⟩:=hx
 obtain ⟨w1,hw1⟩:∃ w1,w1=((w.alloc (.cells #[.slice aa W.s.first.length ac,.slice la W.s.log.length lc,.slice na W.s.now.length nc,.slice ca W.cl.length cc,.slice ua W.up.length uc,.slice da W.down.length dc] 30)).alloc (.cells #[.int .i64 x.kind,.int .i64 x.client,.int .i64 x.n,.slice oa x.o.length oc,.slice ba x.b.length bc] 43)).alloc wdZero:=⟨_,rfl⟩
 have hb1:Below w.heap.size w w1:=by rw [hw1];exact bal (bal (bal (brf w) _) _) _
 have E1:w1.heap[w.heap.size]?=some (.cells #[.slice aa W.s.first.length ac,.slice la W.s.log.length lc,.slice na W.s.now.length nc,.slice ca W.cl.length cc,.slice ua W.up.length uc,.slice da W.down.length dc] 30 (0,0)):=by
  rw [hw1]
  exact ((bal (brf _) _).block _ (by simp;omega)).trans (heap_at2 rfl)
 have E2:w1.heap[w.heap.size+1]?=some (.cells #[.int .i64 x.kind,.int .i64 x.client,.int .i64 x.n,.slice oa x.o.length oc,.slice ba x.b.length bc] 43 (0,0)):=by
  rw [hw1]
  exact ((bal (brf _) _).block _ (by simp)).trans (heap_at (by simp))
 have E3:w1.heap[w.heap.size+2]?=some wdZero:=by
  rw [hw1]
  exact heap_at (by simp)
 have hz3:=lt_of_heap E3
 have C1:=Lib.hid (wdCheck_any _ _ W w1 (RWd.to h (Kp.below hb1)))
 have H1:=Lib.hid (RWd.to h (Kp.below hb1))
 have ho:=Lib.hid ho
 have hbs:=Lib.hid hbs
 have hm:=Lib.hid hm
 obtain ⟨⟨V,E⟩,hV⟩:∃ r,Hid (doW sanP W x=r):=⟨_,Lib.hid rfl⟩
 rw [hV.out]
 obtain ⟨x0,x1,x2,x3,x4,x5⟩:=P6.of E1
 have E1:=Lib.hid E1
 have E2:=Lib.hid E2
 have E3:=Lib.hid E3
 have hb1:=Lib.hid hb1
 clear h
 go_enter Tryz.func15,Tryz.ntmps15
 go_upto_region 1 with fail
 rw [← hw1]
 clear hw1
 go_wp2_with fail
 refine C1.out.mono ?_
 rintro e w2 ⟨rfl,hb2'⟩
 have hb2:=hb1.out.trans (hb2'.mono hb1.out.size)
 have H2:=Lib.hid (RWd.to H1.out (Kp.below hb2'))
 have E1:=Lib.hid ((hb2'.block _ (lt_of_heap E1.out)).trans E1.out)
 have E2:=Lib.hid ((hb2'.block _ (lt_of_heap E2.out)).trans E2.out)
 have E3:=Lib.hid ((hb2'.block _ (lt_of_heap E3.out)).trans E3.out)
 have hz:w.heap.size+2 < w2.heap.size:=lt_of_heap E3.out
 clear x0 x1 x2 x3 x4 x5 C1 hb1 hb2' H1
 obtain ⟨x0,x1,x2,x3,x4,x5⟩:=P6.of E1.out
 by_cases hk:chkWd W=0
 ·have hW:=Lib.hid (WOk.of hk)
  have hV1:=hV.out
  rw [doW,if_neg (by simpa using hk)] at hV1
  have hV1:=Lib.hid hV1
  rw [hk]
  clear hV hk
  have C2:=Lib.hid (wdCopy_any (fun k=>k < w.heap.size∨w2.heap.size≤k) _ W w2 (RWd.to H2.out (Kp.weak w2 fun k hk=>Or.inl hk.2)) (fun k hk=>Or.inr hk) hW.out)
  go_wp2_with fail
  refine C2.out.mono ?_
  rintro e w3 ⟨a,lg,n,l,rfl,V3,hb3⟩
  have hB3:=hb2.trans (hb3.mono hb2.size)
  have E1:=Lib.hid ((hb3.block _ (lt_of_heap E1.out)).trans E1.out)
  have E2:=Lib.hid ((hb3.block _ (lt_of_heap E2.out)).trans E2.out)
  have E3:=Lib.hid ((hb3.block _ (lt_of_heap E3.out)).trans E3.out)
  have fz3:∀ i,w3.frozen? ⟨w.heap.size,i,none⟩=false:=fun i=>Lib.frozen_of_heap E1.out _
  clear x0 x1 x2 x3 x4 x5 C2 H2
  obtain ⟨x0,x1,x2,x3,x4,x5⟩:=P6.of E1.out
  obtain ⟨vc,vu,vd,us,ds⟩:=l
  obtain ⟨a1,a2,l1,l2,n1,n2,rfl,rfl,rfl⟩:=rsrv_shape V3.s
  obtain ⟨c1,c2,rfl⟩:∃ p c,vc=.slice p W.cl.length c:=by obtain ⟨p,c,e,_⟩:=RdS.len V3.cl.rd;exact ⟨p,c,e⟩
  obtain ⟨u1,u2,rfl⟩:∃ p c,vu=.slice p us.length c:=by obtain ⟨p,c,e,_⟩:=RdS.len V3.uR.rd;exact ⟨p,c,e⟩
  obtain ⟨d1,d2,rfl⟩:∃ p c,vd=.slice p ds.length c:=by obtain ⟨p,c,e,_⟩:=RdS.len V3.dR.rd;exact ⟨p,c,e⟩
  have V3:=Lib.hid V3
  go_upto_region 5 with fail
  obtain ⟨q1,q2,q3⟩:=set6 E1.out rfl (.slice a1 W.s.first.length a2) (.slice l1 W.s.log.length l2) (.slice n1 W.s.now.length n2) (.slice c1 W.cl.length c2) (.slice u1 us.length u2) (.slice d1 ds.length d2)
  generalize hwz:((((((w3.setCell ⟨w.heap.size,0,none⟩ _).setCell ⟨w.heap.size,1,none⟩ _).setCell ⟨w.heap.size,2,none⟩ _).setCell ⟨w.heap.size,3,none⟩ _).setCell ⟨w.heap.size,4,none⟩ _).setCell ⟨w.heap.size,5,none⟩ _)=w4 at *
  have W4:=V3.out.boxed (w:=w) q1 q2 (fun k hk=>by omega) (by omega) (Nat.le_refl _)
  have B4:=hB3.trans (q3 _ (Nat.le_refl _))
  have hlo:∀ k,k < w.heap.size→(⟨.slice c1 W.cl.length c2,.slice u1 us.length u2,.slice d1 ds.length d2,us,ds⟩:Lay).N w.heap.size k:=fun k hk hm=>by have:=(W4.man hm).1;omega
  have hgap:∀ k,k=w.heap.size+1∨k=w.heap.size+2→(⟨.slice c1 W.cl.length c2,.slice u1 us.length u2,.slice d1 ds.length d2,us,ds⟩:Lay).N w.heap.size k:=fun k hk hm=>by
   rcases hm with hm | ⟨q,hq,hm⟩
   ·omega
   ·have h2:w2.heap.size≤k:=by
     simp only [List.mem_cons,List.mem_append] at hq
     rcases hq with rfl | rfl | rfl | hq | hq
     ·exact (V3.out.cl.own_lt hm).1
     ·exact (V3.out.uR.own_lt hm).1
     ·exact (V3.out.dR.own_lt hm).1
     ·obtain ⟨i,hi⟩:=List.mem_iff_getElem?.1 hq
      exact ((V3.out.qu i q _ hi (List.getElem?_eq_getElem (by have:=V3.out.ul;dsimp only at this;rw [← this];exact (List.getElem?_eq_some_iff.1 hi).1))).own_lt hm).1
     ·obtain ⟨i,hi⟩:=List.mem_iff_getElem?.1 hq
      exact ((V3.out.qd i q _ hi (List.getElem?_eq_getElem (by have:=V3.out.dl;dsimp only at this;rw [← this];exact (List.getElem?_eq_some_iff.1 hi).1))).own_lt hm).1
    omega
  have E2:=(q2 (w.heap.size+1) (by omega)).trans E2.out
  have E3:=Lib.hid ((q2 (w.heap.size+2) (by omega)).trans E3.out)
  obtain ⟨p0,p1,p2,p3,p4⟩:=cell5 E2
  have HX:RHap ((⟨.slice c1 W.cl.length c2,.slice u1 us.length u2,.slice d1 ds.length d2,us,ds⟩:Lay).N w.heap.size) w4 (.agg #[.int .i64 x.kind,.int .i64 x.client,.int .i64 x.n,.slice oa x.o.length oc,.slice ba x.b.length bc]) x:=RHap.to ⟨oa,oc,ba,bc,rfl,ho.out,hbs.out⟩ fun k hk _=>⟨hlo k hk.2,B4.block k hk.2⟩
  have C3:=wdStep_any w.heap.size w.heap.size _ w4 W _ x W4 hW.out HX (max_keep hm.out B4)
  obtain ⟨⟨V1,E'⟩,hst⟩:∃ r,stepW sanP W x=r:=⟨_,rfl⟩
  rw [hst] at C3
  have hV2:=hV1.out
  rw [hst] at hV2
  have C3:=Lib.hid C3
  have hV2:=Lib.hid hV2
  clear x0 x1 x2 x3 x4 x5 fz3 hV1 hst q1 q2 q3 hwz HX V3 E1
  have W4:=Lib.hid W4
  have hgap:=Lib.hid hgap
  go_wp2_with fail
  refine C3.out.mono ?_
  rintro e w5 ⟨rfl,⟨l5,W5,hk5⟩,hb5⟩
  have E5:=((hk5 _ (hgap.out _ (Or.inr rfl)) (lt_of_heap E3.out)).2).trans E3.out
  have hk5z:=(hk5 _ (hgap.out _ (Or.inr rfl)) (lt_of_heap E3.out)).1
  have B5:=B4.trans hb5
  have fz5:∀ i,w5.frozen? ⟨w.heap.size+2,i,none⟩=false:=fun i=>Lib.frozen_of_heap E5 _
  obtain ⟨y0,y1,y2,y3,y4,y5⟩:=P6.of E5
  clear C3 p0 p1 p2 p3 p4 E2 hk5 hb5
  by_cases he:E'=0
  ·subst he
   have hV3:=hV2.out
   rw [if_neg (by simp)] at hV3
   cases hV3
   have hz5:=(hk5z:l5.N w.heap.size (w.heap.size+2))
   obtain ⟨a,lg,n,hg,hv⟩:=W5.valS2 (Z:=fun k=>Z k∨k=w.heap.size+2) (fun z hz=>by
    rcases hz with hz | rfl
    ·exact fun hm=>by have:=(W5.man hm).1;have:=(hZ z hz).1;omega
    ·exact hz5) (fun z hz=>by
    rcases hz with hz | rfl
    ·exact NoIt.below (hZ z hz).2 (hZ z hz).1 B5
    ·exact NoIt.zero6 E5)
   obtain ⟨vc,vu,vd,us,ds⟩:=l5
   dsimp only at hg hv
   obtain ⟨aa',ac',la',lc',na',nc',ca',cc',ua',uc',da',dc',e⟩:=RWd.shape hv
   simp only [Value.agg.injEq,Array.mk.injEq,List.cons.injEq,and_true] at e
   obtain ⟨rfl,rfl,rfl,rfl,rfl,rfl⟩:=e
   obtain ⟨x0,x1,x2,x3,x4,x5⟩:=P6.of hg
   have hv:=Lib.hid hv
   have hE5:=Lib.hid E5
   clear W5 hV2 hg E5
   go_wp2
   obtain ⟨q1,q2,q3⟩:=set6 hE5.out rfl (.slice aa' V.s.first.length ac') (.slice la' V.s.log.length lc') (.slice na' V.s.now.length nc') (.slice ca' V.cl.length cc') (.slice ua' V.up.length uc') (.slice da' V.down.length dc')
   generalize hwz:((((((w5.setCell ⟨w.heap.size+2,0,none⟩ _).setCell ⟨w.heap.size+2,1,none⟩ _).setCell ⟨w.heap.size+2,2,none⟩ _).setCell ⟨w.heap.size+2,3,none⟩ _).setCell ⟨w.heap.size+2,4,none⟩ _).setCell ⟨w.heap.size+2,5,none⟩ _)=wz at *
   obtain ⟨z0,z1,z2,z3,z4,z5⟩:=P6.of q1
   exact bodyPost_ret (v:=.tuple #[.agg #[.slice aa' V.s.first.length ac',.slice la' V.s.log.length lc',.slice na' V.s.now.length nc',.slice ca' V.cl.length cc',.slice ua' V.up.length uc',.slice da' V.down.length dc'],.int .i64 0]) (by simp [results,Tryz.results15,go_sem,z0,z1,z2,z3,z4,z5]) rfl ⟨_,rfl,RWd.to hv.out (fun k hk _=>⟨fun hh=>hk (Or.inl hh),q2 k fun hh=>hk (Or.inr hh)⟩),B5.trans (q3 _ (by omega))⟩
  ·have hV3:=hV2.out
   rw [if_pos he] at hV3
   cases hV3
   have he':(E != 0)=true:=by simpa using he
   clear he hV2
   go_wp2
   obtain ⟨q1,q2,q3⟩:=set6 E5 rfl (.slice none 0 0) (.slice none 0 0) (.slice none 0 0) (.slice none 0 0) (.slice none 0 0) (.slice none 0 0)
   generalize hwz:((((((w5.setCell ⟨w.heap.size+2,0,none⟩ _).setCell ⟨w.heap.size+2,1,none⟩ _).setCell ⟨w.heap.size+2,2,none⟩ _).setCell ⟨w.heap.size+2,3,none⟩ _).setCell ⟨w.heap.size+2,4,none⟩ _).setCell ⟨w.heap.size+2,5,none⟩ _)=wz at *
   obtain ⟨z0,z1,z2,z3,z4,z5⟩:=P6.of q1
   exact bodyPost_ret (v:=.tuple #[.agg #[.slice none 0 0,.slice none 0 0,.slice none 0 0,.slice none 0 0,.slice none 0 0,.slice none 0 0],.int .i64 E]) (by simp [results,Tryz.results15,go_sem,z0,z1,z2,z3,z4,z5]) rfl ⟨_,rfl,RWd.zero,B5.trans (q3 _ (by omega))⟩
 ·have hV1:=hV.out
  rw [doW,if_pos hk] at hV1
  cases hV1
  have he':(chkWd W != 0)=true:=by simpa using hk
  have fz2:∀ i,w2.frozen? ⟨w.heap.size+2,i,none⟩=false:=fun i=>Lib.frozen_of_heap E3.out _
  obtain ⟨y0,y1,y2,y3,y4,y5⟩:=P6.of E3.out
  clear hV hk
  go_wp2_with fail
  obtain ⟨q1,q2,q3⟩:=set6 E3.out rfl (.slice none 0 0) (.slice none 0 0) (.slice none 0 0) (.slice none 0 0) (.slice none 0 0) (.slice none 0 0)
  generalize hwz:((((((w2.setCell ⟨w.heap.size+2,0,none⟩ _).setCell ⟨w.heap.size+2,1,none⟩ _).setCell ⟨w.heap.size+2,2,none⟩ _).setCell ⟨w.heap.size+2,3,none⟩ _).setCell ⟨w.heap.size+2,4,none⟩ _).setCell ⟨w.heap.size+2,5,none⟩ _)=wz at *
  obtain ⟨z0,z1,z2,z3,z4,z5⟩:=P6.of q1
  exact bodyPost_ret (v:=.tuple #[.agg #[.slice none 0 0,.slice none 0 0,.slice none 0 0,.slice none 0 0,.slice none 0 0,.slice none 0 0],.int .i64 (chkWd W)]) (by simp [results,Tryz.results15,go_sem,z0,z1,z2,z3,z4,z5]) rfl ⟨_,rfl,RWd.zero,hb2.trans (q3 _ (by omega))⟩
end Go.Proofs.YteikncnldbdfmaaGreatDoor
