import Derived.Test.YteikncnldbdfmaaGreatDoorMInts
namespace Go.Mh
open Go Go.RowKit
def RHc (F:Nat→Prop) (w:World) (cs:List Value) (x:Hap):Prop:=∃ oa oc ba bc,cs=[.int .i64 x.kind,.int .i64 x.client,.int .i64 x.n,.slice oa x.o.length oc,.slice ba x.b.length bc]∧ROp F w (.slice oa x.o.length oc) x.o∧RBytes F w (.slice ba x.b.length bc) x.b
theorem RHc.to {F F':Nat→Prop} {w w':World} {cs:List Value} {x:Hap} (h:RHc F w cs x) (k:Kp F F' w w'):RHc F' w' cs x:=by
 obtain ⟨oa,oc,ba,bc,e,h1,h2⟩:=h
 exact ⟨oa,oc,ba,bc,e,ROp.to h1 k,RBytes.to h2 k⟩
abbrev RHaps (F:Nat→Prop) (w:World) (v:Value) (l:List Hap):Prop:=RdS 5 (RHc F) F w v l
theorem RHaps.to {F F':Nat→Prop} {w w':World} {v:Value} {l:List Hap} (h:RHaps F w v l) (k:Kp F F' w w'):RHaps F' w' v l:=RdS.to h (by decide) k fun _ _ _ r=>RHc.to r k
theorem RHaps.at {F:Nat→Prop} {w wr:World} {a:Option Addr} {n cap:Nat} {L:List Hap} (h:RHaps F w (.slice a n cap) L) (hb:Below w.heap.size w wr) {k:Nat} {x:Hap} (hx:L[k]?=some x) :
  ∃ b o oa oc ba bc,a=some ⟨b,o,none⟩∧ROp F w (.slice oa x.o.length oc) x.o∧RBytes F w (.slice ba x.b.length bc) x.b∧wr.cell? ⟨b,o+k * 5,none⟩=some (.int .i64 x.kind)∧wr.cell? ⟨b,o+k * 5+1,none⟩=some (.int .i64 x.client)∧wr.cell? ⟨b,o+k * 5+2,none⟩=some (.int .i64 x.n) ∧
   wr.cell? ⟨b,o+k * 5+3,none⟩=some (.slice oa x.o.length oc)∧wr.cell? ⟨b,o+k * 5+4,none⟩=some (.slice ba x.b.length bc):=by
 obtain ⟨a',cap',e,_,_,_,hel⟩:=h
 cases e
 obtain ⟨b,o,cs,e1,_,hl,hat,oa,oc,ba,bc,rfl,h1,h2⟩:=hel k x hx
 have h':=hat.to (hb.block b (hat.lt (by simp)))
 exact ⟨b,o,oa,oc,ba,bc,e1,h1,h2,by simpa using h' 0 _ rfl,h' 1 _ rfl,h' 2 _ rfl,h' 3 _ rfl,h' 4 _ rfl⟩
end Go.Mh
namespace Go.Proofs.YteikncnldbdfmaaGreatDoor
open Go Go.RowKit Go.Mh
theorem WVal.lt {B:Nat} {N:Nat→Prop} {l:Lay} {w:World} {a lg n:Value} {W:Wd} (h:WVal B N l w a lg n W):WVal B (fun k=>N k∧k < w.heap.size) l w a lg n W:=by
 have kp:Kp (fun k=>N k∧¬ ManR l.rows k) (fun k=>(N k∧k < w.heap.size)∧¬ ManR l.rows k) w w:=fun k hk hl=>⟨⟨⟨hk.1,hl⟩,hk.2⟩,rfl⟩
 exact ⟨RSrv.to h.s kp,h.cl.to (fun _ _ _=>rfl) (fun _ _ _ r=>RClc.to r kp),h.uR,h.dR,h.ul,h.dl,fun i q L h1 h2=>(h.qu i q L h1 h2).to (fun _ _ _=>rfl) (fun _ _ _ r=>RMsg.to r kp),fun i q L h1 h2=>(h.qd i q L h1 h2).to (fun _ _ _=>rfl) (fun _ _ _ r=>RMsg.to r kp),h.ap⟩
set_option maxRecDepth 100000 in
set_option maxHeartbeats 8000000 in
theorem wdRun_any (F G:Nat→Prop) (v u:Value) (W:Wd) (l:List Hap) (w:World) (h:RWd F w v W) (hl:RHaps G w u l) (hm:∃ m,w.cell? ⟨2,0,none⟩=some (.int .i64 m)) :
  Calls Tryz.prog 9 #[v,u] w fun e w'=>∃ v' su,e=.returned (.tuple #[v',su,.int .i64 (runP sanP W l).2.2])∧RWd (fun _=>True) w' v' (runP sanP W l).1∧RInts (fun _=>True) w' su (runP sanP W l).2.1∧Below w.heap.size w w':=by
 have h:=RWd.to h (Kp.lt w)
 have HL:=Lib.hid (RHaps.to hl (Kp.lt w))
 obtain ⟨aa,ac,la,lc,na,nc,ca,cc,ua,uc,da,dc,rfl⟩:=RWd.shape h
 obtain ⟨ha,hcp,rfl,_⟩:=RdS.len hl
 obtain ⟨w1,hw1⟩:∃ w1,w1=(w.alloc (.cells #[.slice aa W.s.first.length ac,.slice la W.s.log.length lc,.slice na W.s.now.length nc,.slice ca W.cl.length cc,.slice ua W.up.length uc,.slice da W.down.length dc] 30)).alloc wdZero:=⟨_,rfl⟩
 have hb1:Below w.heap.size w w1:=by rw [hw1];exact bal (bal (brf w) _) _
 have E1:w1.heap[w.heap.size]?=some (.cells #[.slice aa W.s.first.length ac,.slice la W.s.log.length lc,.slice na W.s.now.length nc,.slice ca W.cl.length cc,.slice ua W.up.length uc,.slice da W.down.length dc] 30 (0,0)):=by rw [hw1];exact heap_at2 rfl
 have E2:w1.heap[w.heap.size+1]?=some wdZero:=by rw [hw1];exact heap_at (by simp)
 have C1:=Lib.hid (wdCheck_any _ _ W w1 (RWd.to h (Kp.below hb1)))
 have H1:=Lib.hid (RWd.to h (Kp.below hb1))
 replace hm:=Lib.hid hm
 obtain ⟨⟨Wf,Sf,Ef⟩,hV⟩:∃ r,Hid (runP sanP W l=r):=⟨_,Lib.hid rfl⟩
 rw [hV.out]
 obtain ⟨x0,x1,x2,x3,x4,x5⟩:=P6.of E1
 replace E1:=Lib.hid E1
 replace E2:=Lib.hid E2
 replace hb1:=Lib.hid hb1
 clear h hl
 go_enter Tryz.func9,Tryz.ntmps9
 go_upto_region 1 with fail
 rw [← hw1]
 clear hw1
 go_wp2_with fail
 refine C1.out.mono ?_
 rintro e w2 ⟨rfl,hb2'⟩
 have hb2:=hb1.out.trans (hb2'.mono hb1.out.size)
 have H2:=Lib.hid (RWd.to H1.out (Kp.below hb2'))
 have E1:=Lib.hid ((hb2'.block _ (lt_of_heap E1.out)).trans E1.out)
 have E2:=Lib.hid ((hb2'.block _ (lt_of_heap E2.out)).trans E2.out)
 have hz:w.heap.size+1 < w2.heap.size:=lt_of_heap E2.out
 clear x0 x1 x2 x3 x4 x5 C1 hb1 hb2' H1
 obtain ⟨x0,x1,x2,x3,x4,x5⟩:=P6.of E1.out
 have fzz:∀ i,w2.frozen? ⟨w.heap.size+1,i,none⟩=false:=fun i=>Lib.frozen_of_heap E2.out _
 obtain ⟨y0,y1,y2,y3,y4,y5⟩:=P6.of E2.out
 by_cases hk:chkWd W=0
 ·by_cases h200:200 < l.length
  ·have hV1:=hV.out
   rw [runP,if_neg (by simpa using hk),if_pos h200] at hV1
   cases hV1
   have t200:decide ((200:Int) < (l.length:Int))=true:=by simp;omega
   rw [hk]
   clear hV hk h200
   go_wp2_with fail
   obtain ⟨q1,q2,q3⟩:=set6 E2.out rfl (.slice none 0 0) (.slice none 0 0) (.slice none 0 0) (.slice none 0 0) (.slice none 0 0) (.slice none 0 0)
   generalize hwz:((((((w2.setCell ⟨w.heap.size+1,0,none⟩ _).setCell ⟨w.heap.size+1,1,none⟩ _).setCell ⟨w.heap.size+1,2,none⟩ _).setCell ⟨w.heap.size+1,3,none⟩ _).setCell ⟨w.heap.size+1,4,none⟩ _).setCell ⟨w.heap.size+1,5,none⟩ _)=wz at *
   obtain ⟨z0,z1,z2,z3,z4,z5⟩:=P6.of q1
   exact bodyPost_ret (v:=.tuple #[.agg #[.slice none 0 0,.slice none 0 0,.slice none 0 0,.slice none 0 0,.slice none 0 0,.slice none 0 0],.slice none 0 0,.int .i64 2]) (by simp [results,Tryz.results9,go_sem,z0,z1,z2,z3,z4,z5]) rfl ⟨_,_,rfl,RWd.zero,RdS.nil,hb2.trans (q3 _ (by omega))⟩
  ·have hW:=Lib.hid (WOk.of hk)
   have hV1:=hV.out
   rw [runP,if_neg (by simpa using hk),if_neg h200] at hV1
   simp only [Prod.mk.injEq] at hV1
   obtain ⟨e1,e2,rfl⟩:=hV1
   have hR:=Lib.hid (show runW sanP W l=(Wf,Sf) by rw [← e1,← e2])
   have t200:decide ((200:Int) < (l.length:Int))=false:=by simp;omega
   have hl200:l.length≤200:=by omega
   rw [hk]
   clear hV hk h200 e1 e2 y0 y1 y2 y3 y4 y5 fzz
   have C2:=Lib.hid (wdCopy_any (fun k=>k < w.heap.size∨w2.heap.size≤k) _ W w2 (RWd.to H2.out (Kp.weak w2 fun k hk=>Or.inl hk.2)) (fun k hk=>Or.inr hk) hW.out)
   go_wp2_with fail
   refine C2.out.mono ?_
   rintro e w3 ⟨a,lg,n,l3,rfl,V3,hb3⟩
   have hB3:=hb2.trans (hb3.mono hb2.size)
   have E1:=Lib.hid ((hb3.block _ (lt_of_heap E1.out)).trans E1.out)
   have E2:=Lib.hid ((hb3.block _ (lt_of_heap E2.out)).trans E2.out)
   have fz3:∀ i,w3.frozen? ⟨w.heap.size,i,none⟩=false:=fun i=>Lib.frozen_of_heap E1.out _
   clear x0 x1 x2 x3 x4 x5 C2 H2
   obtain ⟨x0,x1,x2,x3,x4,x5⟩:=P6.of E1.out
   have hv3:RWd (fun m=>m≠w.heap.size∧m≠w.heap.size+1) w3 _ W:=V3.val (fun k hk=>by omega) (fun k hk _=>by omega)
   obtain ⟨vc,vu,vd,us,ds⟩:=l3
   dsimp only at hv3
   obtain ⟨a1,a2,l1,l2,n1,n2,c1,c2,u1,u2,d1,d2,e⟩:=RWd.shape hv3
   simp only [Value.agg.injEq,Array.mk.injEq,List.cons.injEq,and_true] at e
   obtain ⟨rfl,rfl,rfl,rfl,rfl,rfl⟩:=e
   replace hv3:=Lib.hid hv3
   clear V3
   go_upto_region 7 with fail
   obtain ⟨q1,q2,q3⟩:=set6 E1.out rfl (.slice a1 W.s.first.length a2) (.slice l1 W.s.log.length l2) (.slice n1 W.s.now.length n2) (.slice c1 W.cl.length c2) (.slice u1 W.up.length u2) (.slice d1 W.down.length d2)
   generalize hwz:((((((w3.setCell ⟨w.heap.size,0,none⟩ _).setCell ⟨w.heap.size,1,none⟩ _).setCell ⟨w.heap.size,2,none⟩ _).setCell ⟨w.heap.size,3,none⟩ _).setCell ⟨w.heap.size,4,none⟩ _).setCell ⟨w.heap.size,5,none⟩ _)=w4 at *
   have B4:=Lib.hid (hB3.trans (q3 _ (Nat.le_refl _)))
   have Hg:=Lib.hid q1
   have Hz:=Lib.hid ((q2 (w.heap.size+1) (by omega)).trans E2.out)
   have Hv:=Lib.hid (RWd.to hv3.out (fun m hm _=>⟨fun hh=>by rcases hh with hh | hh | hh;exact hm.1 hh;exact hm.2 hh;simp [Value.ownBlock] at hh,q2 m hm.1⟩):RWd (fun m=>¬ (m=w.heap.size∨m=w.heap.size+1∨(Value.slice none 0 0).ownBlock=some m)) w4 _ W)
   have hs4:w.heap.size+1 < w4.heap.size:=lt_of_heap Hz.out
   clear x0 x1 x2 x3 x4 x5 fz3 q1 q2 q3 hwz hv3 E1 E2
   go_wp2_with fail
   go_loopw [8,27] (fun sv i wr=>∃ (k:Nat) (V:Wd) (S R:List Int) (bv:Value) (sa:Option Addr) (sc:Nat),k≤l.length∧i=.int .i64 k∧sv=.slice sa k sc∧S.length=k∧Hid (runW sanP V (l.drop k)=(Wf,R)∧S ++ R=Sf)∧Hid (WOk V)∧Hid (∃ xs,bv=.agg xs∧xs.size=6∧wr.heap[w.heap.size]?=some (.cells xs TW (0,0)))∧Hid (wr.heap[w.heap.size+1]?=some wdZero)∧Hid (RWd (fun m=>¬ (m=w.heap.size∨m=w.heap.size+1∨(Value.slice sa k sc).ownBlock=some m)) wr bv V) ∧
    Hid (OwnS w4.heap.size 33 1 RI wr (.slice sa k sc) S)∧Hid (Nums wr (.slice sa k sc))∧Hid (Below w.heap.size w wr)∧w4.heap.size≤wr.heap.size) (fun _ i _=>l.length - (intOf i).toNat)
   case atStart=>exact ⟨0,W,[],Sf,_,none,0,Nat.zero_le _,rfl,rfl,rfl,Lib.hid ⟨by simpa using hR.out,rfl⟩,hW,Lib.hid ⟨_,rfl,rfl,Hg.out⟩,Hz,Hv,Lib.hid OwnS.nil,Lib.hid Nums.nil,B4,Nat.le_refl _⟩
   case round =>
    clear Hg Hz Hv hR hW B4
    obtain ⟨k,V,S,R,bv,sa,sc,hk,rfl,rfl,hSk,hrun,hW,Hg,Hz,Hv,HS,HN,HB,hsr⟩:=hrel
    obtain ⟨wo,hwo⟩:∃ wo,wo=wr:=⟨_,rfl⟩
    subst hwo
    obtain ⟨a1,a2,l1,l2,n1,n2,c1,c2,u1,u2,d1,d2,rfl⟩:=RWd.shape Hv.out
    have Hg:Hid (wo.heap[w.heap.size]?=some (.cells #[.slice a1 V.s.first.length a2,.slice l1 V.s.log.length l2,.slice n1 V.s.now.length n2,.slice c1 V.cl.length c2,.slice u1 V.up.length u2,.slice d1 V.down.length d2] TW (0,0))):=Lib.hid (by
     obtain ⟨xs,e1,_,e2⟩:=Hg.out
     cases e1
     exact e2)
    have hSk':=Lib.hid hSk
    clear hSk
    by_cases hlt:k < l.length
    ·obtain ⟨x,hx⟩:∃ x,l[k]?=some x:=⟨_,List.getElem?_eq_getElem hlt⟩
     obtain ⟨b,o,oa,oc,ba,bc,e1,ho,hbb,p0,p1,p2,p3,p4⟩:=RHaps.at HL.out HB.out hx
     subst e1
     have hbs:b < wo.heap.size:=lt_of_cell p0
     obtain ⟨w5,hw5⟩:∃ w5,w5=wo.alloc (.cells #[.int .i64 x.kind,.int .i64 x.client,.int .i64 x.n,.slice oa x.o.length oc,.slice ba x.b.length bc] 43):=⟨_,rfl⟩
     have hb5:Below wo.heap.size wo w5:=by rw [hw5];exact bal (brf wo) _
     have E5:=heap_new wo (.cells #[.int .i64 x.kind,.int .i64 x.client,.int .i64 x.n,.slice oa x.o.length oc,.slice ba x.b.length bc] 43)
     rw [← hw5] at E5
     have hz5:=hb5.size
     have hlt5:=lt_of_heap E5
     obtain ⟨y0,y1,y2,y3,y4,y5⟩:=P6.of ((hb5.block _ (lt_of_heap Hg.out)).trans Hg.out)
     have hsvl:∀ m,(Value.slice sa k sc).ownBlock=some m→w4.heap.size≤m∧m < wo.heap.size:=fun m e=>HS.out.own_lt e
     replace hsvl:=Lib.hid hsvl
     have C5:=Lib.hid (wdCopy_any (fun m=>¬ (m=w.heap.size∨m=w.heap.size+1∨(Value.slice sa k sc).ownBlock=some m)) _ V w5 (RWd.to Hv.out (Kp.below hb5)) (fun m hm hh=>by
      rcases hh with hh | hh | hh
      ·omega
      ·omega
      ·have:=(hsvl.out m hh).2;omega) hW.out)
     have hrun2:=hrun.out
     rw [runW_drop hx] at hrun2
     simp only [Prod.mk.injEq] at hrun2
     obtain ⟨⟨er1,er2⟩,er3⟩:=hrun2
     obtain ⟨⟨V2,E⟩,hst⟩:∃ r,stepW sanP V x=r:=⟨_,rfl⟩
     rw [hst] at er2
     have hnx:next sanP V x=if E=0 then V2 else V:=by unfold next;rw [hst]
     have hnW:=Lib.hid (hW.out.next (pg:=sanP) x)
     rw [hnx] at er1 er2 hnW
     replace er1:=Lib.hid er1
     replace er2:=Lib.hid er2
     replace er3:=Lib.hid er3
     replace hst:=Lib.hid hst
     replace E5:=Lib.hid E5
     replace hb5:=Lib.hid hb5
     replace ho:=Lib.hid ho
     replace hbb:=Lib.hid hbb
     clear hx hrun hnx
     go_upto_region 11 with fail
     rw [← hw5]
     clear hw5 p0 p1 p2 p3 p4
     go_wp2_with fail
     refine C5.out.mono ?_
     rintro e w6 ⟨a,lg,n,l6,rfl,V6,hb6⟩
     have hz6:=hb6.size
     obtain ⟨vc,vu,vd,us,ds⟩:=l6
     obtain ⟨a3,a4,l3,l4,n3,n4,rfl,rfl,rfl⟩:=rsrv_shape V6.s
     obtain ⟨c3,c4,rfl⟩:∃ p c,vc=.slice p V.cl.length c:=by obtain ⟨p,c,e,_⟩:=RdS.len V6.cl.rd;exact ⟨p,c,e⟩
     obtain ⟨u3,u4,rfl⟩:∃ p c,vu=.slice p us.length c:=by obtain ⟨p,c,e,_⟩:=RdS.len V6.uR.rd;exact ⟨p,c,e⟩
     obtain ⟨d3,d4,rfl⟩:∃ p c,vd=.slice p ds.length c:=by obtain ⟨p,c,e,_⟩:=RdS.len V6.dR.rd;exact ⟨p,c,e⟩
     obtain ⟨w7,hw7⟩:∃ w7,w7=w6.alloc (.cells #[.slice a3 V.s.first.length a4,.slice l3 V.s.log.length l4,.slice n3 V.s.now.length n4,.slice c3 V.cl.length c4,.slice u3 us.length u4,.slice d3 ds.length d4] 30):=⟨_,rfl⟩
     have hb7:Below w6.heap.size w6 w7:=by rw [hw7];exact bal (brf w6) _
     have E7:=heap_new w6 (.cells #[.slice a3 V.s.first.length a4,.slice l3 V.s.log.length l4,.slice n3 V.s.now.length n4,.slice c3 V.cl.length c4,.slice u3 us.length u4,.slice d3 ds.length d4] 30)
     rw [← hw7] at E7
     have hz7:=hb7.size
     have W7:WAt w5.heap.size w6.heap.size (⟨.slice c3 V.cl.length c4,.slice u3 us.length u4,.slice d3 ds.length d4,us,ds⟩:Lay) w7 V:=WAt.ofVal (V6.lt.to (w':=w7) (fun m _ hl=>hb7.block m hl) (Nat.le_refl _) (fun _ h=>h)) E7 hz6 (Nat.le_refl _) (fun m hm=>Nat.ne_of_lt hm.2)
     have hb57:Below w5.heap.size w5 w7:=hb6.trans (hb7.mono hz6)
     have HB7:=HB.out.trans ((hb5.out.mono HB.out.size).trans (hb57.mono (Nat.le_trans HB.out.size hz5)))
     have HX:RHap ((⟨.slice c3 V.cl.length c4,.slice u3 us.length u4,.slice d3 ds.length d4,us,ds⟩:Lay).N w6.heap.size) w7 (.agg #[.int .i64 x.kind,.int .i64 x.client,.int .i64 x.n,.slice oa x.o.length oc,.slice ba x.b.length bc]) x:=⟨oa,oc,ba,bc,rfl,ROp.to ho.out fun m hm _=>⟨fun hh=>by have:=(W7.man hh).1;have:=hm.2;have:=HB.out.size;omega,HB7.block m hm.2⟩,RBytes.to hbb.out fun m hm _=>⟨fun hh=>by have:=(W7.man hh).1;have:=hm.2;have:=HB.out.size;omega,HB7.block m hm.2⟩⟩
     have C8:=wdStep_any w5.heap.size w6.heap.size _ w7 V _ x W7 hW.out HX (max_keep hm.out HB7)
     rw [hst.out] at C8
     replace C8:=Lib.hid C8
     obtain ⟨p0,p1,p2,p3,p4⟩:=cell5 ((hb57.block _ (lt_of_heap E5.out)).trans E5.out)
     have Hg7:=Lib.hid ((hb57.block _ (Nat.lt_of_lt_of_le (lt_of_heap Hg.out) hz5)).trans ((hb5.out.block _ (lt_of_heap Hg.out)).trans Hg.out))
     have Hz7:=Lib.hid ((hb57.block _ (Nat.lt_of_lt_of_le (lt_of_heap Hz.out) hz5)).trans ((hb5.out.block _ (lt_of_heap Hz.out)).trans Hz.out))
     replace hb57:=Lib.hid hb57
     replace HB7:=Lib.hid HB7
     clear C5 V6 y0 y1 y2 y3 y4 y5 W7 HX E7 hb6 hb7
     go_upto_region 12 with fail
     rw [← hw7]
     clear hw7
     go_wp2_with fail
     refine C8.out.mono ?_
     rintro e w8 ⟨rfl,⟨l8,W8,hk8⟩,hb8⟩
     have hb58:=hb57.out.trans hb8
     have hlg:=lt_of_heap Hg.out
     have hlz:=lt_of_heap Hz.out
     have Hg8:=Lib.hid ((hb8.block _ (by omega)).trans Hg7.out)
     have Hz8:=Lib.hid ((hb8.block _ (by omega)).trans Hz7.out)
     have hk58:∀ m,m < wo.heap.size→w8.heap[m]?=wo.heap[m]?:=fun m hm=>(hb58.block m (by omega)).trans (hb5.out.block m hm)
     have HS8:=Lib.hid (HS.out.to (w':=w8) (R':=RI) (fun m _ hl=>hk58 m hl) (fun _ _ _ r=>r))
     have HN8:=Lib.hid (HN.out.to (w':=w8) (fun m e=>hk58 m (hsvl.out m e).2))
     have HB8:=Lib.hid (HB7.out.trans (hb8.mono (Nat.le_trans HB.out.size hz5)))
     have hNX:∀ m,(m=w.heap.size∨m=w.heap.size+1∨(Value.slice sa k sc).ownBlock=some m)→NoX w8 m:=fun m hm=>by
      rcases hm with rfl | rfl | hm
      ·exact NoX.six Hg8.out
      ·exact NoX.six Hz8.out
      ·exact NoX.nums HN8.out hm
     have hZN:∀ m,(m=w.heap.size∨m=w.heap.size+1∨(Value.slice sa k sc).ownBlock=some m)→l8.N w6.heap.size m:=fun m hm hman=>by
      have h1:=(W8.man hman).1
      rcases hm with rfl | rfl | hm
      ·omega
      ·omega
      ·have:=(hsvl.out m hm).2
       omega
     have hs8:=hb58.size
     replace hk58:=Lib.hid hk58
     clear C8 hk8 hb8 p0 p1 p2 p3 p4 Hg7 Hz7 hb57 HB7
     by_cases he:E=0
     ·subst he
      rw [if_pos rfl] at er1 er2 hnW
      obtain ⟨a,lg,n,hg8,hv8⟩:=W8.valS hZN hNX
      obtain ⟨vc,vu,vd,us',ds'⟩:=l8
      dsimp only at hg8 hv8
      obtain ⟨a5,a6,l5,l6,n5,n6,c5,c6,u5,u6,d5,d6,e⟩:=RWd.shape hv8
      simp only [Value.agg.injEq,Array.mk.injEq,List.cons.injEq,and_true] at e
      obtain ⟨rfl,rfl,rfl,rfl,rfl,rfl⟩:=e
      obtain ⟨x0,x1,x2,x3,x4,x5⟩:=P6.of hg8
      obtain ⟨y0,y1,y2,y3,y4,y5⟩:=P6.of Hg8.out
      have fz8:∀ i,w8.frozen? ⟨w.heap.size,i,none⟩=false:=fun i=>Lib.frozen_of_heap Hg8.out _
      replace hv8:=Lib.hid hv8
      clear W8 hNX hZN hg8
      go_upto_region 15 with fail
      obtain ⟨q1,q2,q3⟩:=set6 Hg8.out rfl (.slice a5 V2.s.first.length a6) (.slice l5 V2.s.log.length l6) (.slice n5 V2.s.now.length n6) (.slice c5 V2.cl.length c6) (.slice u5 V2.up.length u6) (.slice d5 V2.down.length d6)
      generalize hwz:((((((w8.setCell ⟨w.heap.size,0,none⟩ _).setCell ⟨w.heap.size,1,none⟩ _).setCell ⟨w.heap.size,2,none⟩ _).setCell ⟨w.heap.size,3,none⟩ _).setCell ⟨w.heap.size,4,none⟩ _).setCell ⟨w.heap.size,5,none⟩ _)=w9 at *
      have hs9:w8.heap.size≤w9.heap.size:=(q3 _ (Nat.le_refl _)).size
      have Hg9:=Lib.hid q1
      have Hz9:=Lib.hid ((q2 _ (by omega)).trans Hz8.out)
      have HS9:=Lib.hid (HS8.out.to (w':=w9) (R':=RI) (fun m e _=>q2 m (by have:=(hsvl.out m e).1;omega)) (fun _ _ _ r=>r))
      have HN9:=Lib.hid (HN8.out.to (w':=w9) (fun m e=>q2 m (by have:=(hsvl.out m e).1;omega)))
      have Hv9:=Lib.hid (RWd.to hv8.out (fun m hm _=>⟨hm,q2 m (fun e=>hm (Or.inl e))⟩):RWd (fun m=>¬ (m=w.heap.size∨m=w.heap.size+1∨(Value.slice sa k sc).ownBlock=some m)) w9 _ V2)
      have HB9:=Lib.hid (HB8.out.trans (q3 _ (Nat.le_refl _)))
      clear x0 x1 x2 x3 x4 x5 y0 y1 y2 y3 y4 y5 fz8 q1 q2 q3 hwz hv8 Hg8 Hz8 HS8 HN8 HB8
      have hb10:Below w9.heap.size w9 (w9.alloc (.cells #[.int .i64 0] 33)):=bal (brf w9) _
      have HS10:=Lib.hid (HS9.out.below hb10 (fun _ _ _ r=>r))
      have HN10:=Lib.hid (HN9.out.to (w':=w9.alloc (.cells #[.int .i64 0] 33)) (fun m e=>hb10.block m (HS9.out.own_lt e).2))
      have hc10:(w9.alloc (.cells #[.int .i64 0] 33)).cell? ⟨w9.heap.size,0,none⟩=some (.int .i64 0):=cellOf (i:=0) (heap_new w9 _) rfl
      have hS200:S.length+1≤1000000:=by have:=hSk'.out;omega
      have hz10:w4.heap.size≤(w9.alloc (.cells #[.int .i64 0] 33)).heap.size:=by simp;omega
      have hk10:∀ w',(w9.alloc (.cells #[.int .i64 0] 33)).grownBy w' (Value.slice sa k sc).ownBlock→∀ m,m < w9.heap.size→(Value.slice sa k sc).ownBlock≠some m→w'.heap[m]?=w9.heap[m]?:=fun w' hg m hm hne=>(hg.block m (by simp;omega) (fun e=>hne e.symm)).trans (hb10.block m hm)
      replace hk10:=Lib.hid hk10
      replace hc10:=Lib.hid hc10
      replace hS200:=Lib.hid hS200
      go_wp2_with (at_builtin;refine wpList_appNum rfl (.tmp 38) (.tmp 40) 32 rfl w4.heap.size 33 elErr (.slice sa k sc) S rfl HS10.out HN10.out 0 w9.heap.size rfl hc10.out hS200.out hz10 ?_;intro v11 w11 ho11 hn11 hg11 hB11 hloc)
      obtain ⟨p,c,rfl⟩:∃ p c,v11=.slice p (k+1) c:=by obtain ⟨p,c,e,_⟩:=RdS.len ho11.rd;exact ⟨p,c,by simpa [hSk'.out] using e⟩
      have hgl9:=lt_of_heap Hg9.out
      have hzl9:=lt_of_heap Hz9.out
      have hs11:w4.heap.size≤w11.heap.size:=Nat.le_trans hz10 hB11.size
      have Hg11:=Lib.hid ((hk10.out w11 hg11 _ hgl9 (fun e=>by have:=(hsvl.out _ e).1;omega)).trans Hg9.out)
      have Hz11:=Lib.hid ((hk10.out w11 hg11 _ hzl9 (fun e=>by have:=(hsvl.out _ e).1;omega)).trans Hz9.out)
      have Hv11:=Lib.hid (RWd.to Hv9.out (fun m hm hl=>⟨fun hh=>by
       rcases hh with hh | hh | hh
       ·exact hm (Or.inl hh)
       ·exact hm (Or.inr (Or.inl hh))
       ·rcases hloc with hloc | hloc
        ·rw [hloc] at hh
         exact hm (Or.inr (Or.inr hh))
        ·rw [hloc] at hh
         simp at hh
         omega,hk10.out w11 hg11 m hl (fun e=>hm (Or.inr (Or.inr e)))⟩):RWd (fun m=>¬ (m=w.heap.size∨m=w.heap.size+1∨(Value.slice p (k+1) c).ownBlock=some m)) w11 _ V2)
      have HB11:=Lib.hid (HB9.out.trans ((hb10.mono (HB9.out.size)).trans (hB11.mono (by omega))))
      have HS11:=Lib.hid ho11
      have HN11:=Lib.hid hn11
      have hrun11:=Lib.hid (show runW sanP V2 (l.drop (k+1))=(Wf,(runW sanP V2 (l.drop (k+1))).2)∧S ++ [0] ++ (runW sanP V2 (l.drop (k+1))).2=Sf from by
       have t1:=er1.out
       have t2:=er2.out
       have t3:=er3.out
       exact ⟨Prod.ext t1 rfl,by rw [← t3,← t2,List.append_assoc];rfl⟩)
      have hnW11:=hnW.out
      replace hnW11:=Lib.hid hnW11
      clear ho11 hn11 hg11 hB11 hloc HS9 HN9 Hg9 Hz9 Hv9 HB9 hb10 HS10 HN10
      go_wp2
      refine ⟨⟨k+1,V2,S ++ [0],_,_,p,c,by omega,by go_num,rfl,by simp [hSk'.out],hrun11,hnW11,Lib.hid ⟨_,rfl,rfl,Hg11.out⟩,Hz11,Hv11,HS11,HN11,HB11,hs11⟩,by simp [intOf];omega⟩
     ·have he':(E == 0)=false:=by simpa using he
      obtain ⟨w9,hw9⟩:∃ w9,w9=w8:=⟨_,rfl⟩
      have Hv9:=Lib.hid (RWd.to Hv.out (fun m hm hl=>⟨hm,by rw [hw9];exact hk58.out m hl⟩):RWd (fun m=>¬ (m=w.heap.size∨m=w.heap.size+1∨(Value.slice sa k sc).ownBlock=some m)) w9 _ V)
      rw [← hw9] at Hg8 Hz8 HS8 HN8 HB8 hs8
      subst hw9
      have Hg9:=Hg8
      have Hz9:=Hz8
      have HS9:=HS8
      have HN9:=HN8
      have HB9:=HB8
      have hs9:w9.heap.size≤w9.heap.size:=Nat.le_refl _
      clear W8 hNX hZN Hg8 Hz8 HS8 HN8 HB8
      have hb10:Below w9.heap.size w9 (w9.alloc (.cells #[.int .i64 E] 33)):=bal (brf w9) _
      have HS10:=Lib.hid (HS9.out.below hb10 (fun _ _ _ r=>r))
      have HN10:=Lib.hid (HN9.out.to (w':=w9.alloc (.cells #[.int .i64 E] 33)) (fun m e=>hb10.block m (HS9.out.own_lt e).2))
      have hc10:(w9.alloc (.cells #[.int .i64 E] 33)).cell? ⟨w9.heap.size,0,none⟩=some (.int .i64 E):=cellOf (i:=0) (heap_new w9 _) rfl
      have hS200:S.length+1≤1000000:=by have:=hSk'.out;omega
      have hz10:w4.heap.size≤(w9.alloc (.cells #[.int .i64 E] 33)).heap.size:=by simp;omega
      have hk10:∀ w',(w9.alloc (.cells #[.int .i64 E] 33)).grownBy w' (Value.slice sa k sc).ownBlock→∀ m,m < w9.heap.size→(Value.slice sa k sc).ownBlock≠some m→w'.heap[m]?=w9.heap[m]?:=fun w' hg m hm hne=>(hg.block m (by simp;omega) (fun e=>hne e.symm)).trans (hb10.block m hm)
      replace hk10:=Lib.hid hk10
      replace hc10:=Lib.hid hc10
      replace hS200:=Lib.hid hS200
      go_wp2_with (at_builtin;refine wpList_appNum rfl (.tmp 38) (.tmp 40) 32 rfl w4.heap.size 33 elErr (.slice sa k sc) S rfl HS10.out HN10.out E w9.heap.size rfl hc10.out hS200.out hz10 ?_;intro v11 w11 ho11 hn11 hg11 hB11 hloc)
      obtain ⟨p,c,rfl⟩:∃ p c,v11=.slice p (k+1) c:=by obtain ⟨p,c,e,_⟩:=RdS.len ho11.rd;exact ⟨p,c,by simpa [hSk'.out] using e⟩
      have hgl9:=lt_of_heap Hg9.out
      have hzl9:=lt_of_heap Hz9.out
      have hs11:w4.heap.size≤w11.heap.size:=Nat.le_trans hz10 hB11.size
      have Hg11:=Lib.hid ((hk10.out w11 hg11 _ hgl9 (fun e=>by have:=(hsvl.out _ e).1;omega)).trans Hg9.out)
      have Hz11:=Lib.hid ((hk10.out w11 hg11 _ hzl9 (fun e=>by have:=(hsvl.out _ e).1;omega)).trans Hz9.out)
      have Hv11:=Lib.hid (RWd.to Hv9.out (fun m hm hl=>⟨fun hh=>by
       rcases hh with hh | hh | hh
       ·exact hm (Or.inl hh)
       ·exact hm (Or.inr (Or.inl hh))
       ·rcases hloc with hloc | hloc
        ·rw [hloc] at hh
         exact hm (Or.inr (Or.inr hh))
        ·rw [hloc] at hh
         simp at hh
         omega,hk10.out w11 hg11 m hl (fun e=>hm (Or.inr (Or.inr e)))⟩):RWd (fun m=>¬ (m=w.heap.size∨m=w.heap.size+1∨(Value.slice p (k+1) c).ownBlock=some m)) w11 _ V)
      have HB11:=Lib.hid (HB9.out.trans ((hb10.mono (HB9.out.size)).trans (hB11.mono (by omega))))
      have HS11:=Lib.hid ho11
      have HN11:=Lib.hid hn11
      have hrun11:=Lib.hid (show runW sanP V (l.drop (k+1))=(Wf,(runW sanP V (l.drop (k+1))).2)∧S ++ [E] ++ (runW sanP V (l.drop (k+1))).2=Sf from by
       have t1:=er1.out
       have t2:=er2.out
       have t3:=er3.out
       rw [if_neg he] at t1 t2
       exact ⟨Prod.ext t1 rfl,by rw [← t3,← t2,List.append_assoc];rfl⟩)
      have hnW11:=hnW.out
      rw [if_neg he] at hnW11
      replace hnW11:=Lib.hid hnW11
      clear ho11 hn11 hg11 hB11 hloc HS9 HN9 Hg9 Hz9 Hv9 HB9 hb10 HS10 HN10
      go_wp2
      refine ⟨⟨k+1,V,S ++ [E],_,_,p,c,by omega,by go_num,rfl,by simp [hSk'.out],hrun11,hnW11,Lib.hid ⟨_,rfl,rfl,Hg11.out⟩,Hz11,Hv11,HS11,HN11,HB11,hs11⟩,by simp [intOf];omega⟩
    ·obtain rfl:k=l.length:=by omega
     have hr1:=hrun.out.1
     rw [List.drop_length] at hr1
     simp only [runW,Prod.mk.injEq] at hr1
     obtain ⟨rfl,hr2⟩:=hr1
     have hr3:=hrun.out.2
     rw [← hr2,List.append_nil] at hr3
     subst hr3
     obtain ⟨x0,x1,x2,x3,x4,x5⟩:=P6.of Hg.out
     obtain ⟨y0,y1,y2,y3,y4,y5⟩:=P6.of Hz.out
     have fz:∀ i,wo.frozen? ⟨w.heap.size+1,i,none⟩=false:=fun i=>Lib.frozen_of_heap Hz.out _
     clear hr2 hrun
     go_wp2
     obtain ⟨q1,q2,q3⟩:=set6 Hz.out rfl (.slice a1 V.s.first.length a2) (.slice l1 V.s.log.length l2) (.slice n1 V.s.now.length n2) (.slice c1 V.cl.length c2) (.slice u1 V.up.length u2) (.slice d1 V.down.length d2)
     generalize hwz:((((((wo.setCell ⟨w.heap.size+1,0,none⟩ _).setCell ⟨w.heap.size+1,1,none⟩ _).setCell ⟨w.heap.size+1,2,none⟩ _).setCell ⟨w.heap.size+1,3,none⟩ _).setCell ⟨w.heap.size+1,4,none⟩ _).setCell ⟨w.heap.size+1,5,none⟩ _)=wz at *
     obtain ⟨z0,z1,z2,z3,z4,z5⟩:=P6.of q1
     have hri:RInts (fun _=>True) wz (.slice sa l.length sc) S:=by
      have h1:=RdS.to HS.out.rd (by decide) (F':=fun _=>True) (w':=wz) (R':=RI) (fun m hm _=>⟨trivial,q2 m (by have hm':w4.heap.size≤m:=hm;omega)⟩) (fun _ _ _ r=>r)
      exact h1
     exact bodyPost_ret (v:=.tuple #[.agg #[.slice a1 V.s.first.length a2,.slice l1 V.s.log.length l2,.slice n1 V.s.now.length n2,.slice c1 V.cl.length c2,.slice u1 V.up.length u2,.slice d1 V.down.length d2],.slice sa l.length sc,.int .i64 0]) (by simp [results,Tryz.results9,go_sem,z0,z1,z2,z3,z4,z5]) rfl ⟨_,_,rfl,RWd.to Hv.out (fun m hm _=>⟨trivial,q2 m (fun e=>hm (Or.inr (Or.inl e)))⟩),hri,HB.out.trans (q3 _ (by omega))⟩
 ·have hV1:=hV.out
  rw [runP,if_pos hk] at hV1
  cases hV1
  have he':(chkWd W != 0)=true:=by simpa using hk
  clear hV hk
  go_wp2_with fail
  obtain ⟨q1,q2,q3⟩:=set6 E2.out rfl (.slice none 0 0) (.slice none 0 0) (.slice none 0 0) (.slice none 0 0) (.slice none 0 0) (.slice none 0 0)
  generalize hwz:((((((w2.setCell ⟨w.heap.size+1,0,none⟩ _).setCell ⟨w.heap.size+1,1,none⟩ _).setCell ⟨w.heap.size+1,2,none⟩ _).setCell ⟨w.heap.size+1,3,none⟩ _).setCell ⟨w.heap.size+1,4,none⟩ _).setCell ⟨w.heap.size+1,5,none⟩ _)=wz at *
  obtain ⟨z0,z1,z2,z3,z4,z5⟩:=P6.of q1
  exact bodyPost_ret (v:=.tuple #[.agg #[.slice none 0 0,.slice none 0 0,.slice none 0 0,.slice none 0 0,.slice none 0 0,.slice none 0 0],.slice none 0 0,.int .i64 (chkWd W)]) (by simp [results,Tryz.results9,go_sem,z0,z1,z2,z3,z4,z5]) rfl ⟨_,_,rfl,RWd.zero,RdS.nil,hb2.trans (q3 _ (by omega))⟩
end Go.Proofs.YteikncnldbdfmaaGreatDoor
