import Derived.Test.YteikncnldbdfmaaGreatDoorMWdK
import Derived.Test.YteikncnldbdfmaaGreatDoorMSvN
namespace Go.Proofs.YteikncnldbdfmaaGreatDoor
open Go.RowKit Go.Mh
structure QBoth (B:Nat) (N:Nat→Prop) (w:World) (vu:Value) (us:List Value) (Lu:List (List Msg)) (vd:Value) (ds:List Value) (Ld:List (List Msg)):Prop where
 uR:OwnS B TS 1 RVal w vu us
 dR:OwnS B TS 1 RVal w vd ds
 ul:us.length=Lu.length
 dl:ds.length=Ld.length
 qu:∀ (i:Nat) q x,us[i]?=some q→Lu[i]?=some x→OwnS B TM 4 (RMsg fun k=>N k∧¬ ManR (vu :: vd :: (us ++ ds)) k) w q x
 qd:∀ (i:Nat) q x,ds[i]?=some q→Ld[i]?=some x→OwnS B TM 4 (RMsg fun k=>N k∧¬ ManR (vu :: vd :: (us ++ ds)) k) w q x
 ap:(vu :: vd :: (us ++ ds)).Pairwise Apart
theorem qs_both {B:Nat} {N:Nat→Prop} {w6 w7:World} {va vb:Value} {au bu:List Value} {La Lb:List (List Msg)} (ha:QsAt B N w6 va au [] La) (hla:au.length=La.length) (hb:QsAt w6.heap.size (fun k=>N k∧¬ ManR (va :: au) k) w7 vb bu [] Lb) (hlb:bu.length=Lb.length) (hB:B≤w6.heap.size)
  (h:Below w6.heap.size w6 w7):QBoth B N w7 va au La vb bu Lb:=by
 have hman:∀ k,ManR (va :: vb :: (au ++ bu)) k→ManR (va :: au) k∨ManR (vb :: bu) k:=fun k hk=>by
  obtain ⟨q,hq,hk⟩:=hk
  simp only [List.mem_cons,List.mem_append] at hq
  rcases hq with rfl | rfl | hq | hq
  ·exact Or.inl ⟨_,by simp,hk⟩
  ·exact Or.inr ⟨_,by simp,hk⟩
  ·exact Or.inl ⟨q,by simp [hq],hk⟩
  ·exact Or.inr ⟨q,by simp [hq],hk⟩
 have ha7:=ha.below h
 refine ⟨?_, ?_,hla,hlb,fun i q x h1 h2=>?_,fun i q x h1 h2=>?_, ?_⟩
 ·have:=ha7.row
  rw [List.append_nil] at this
  exact this.to (fun _ _ _=>rfl) (fun _ _ _ r=>r.1)
 ·have:=hb.row
  rw [List.append_nil] at this
  exact (low this hB).to (fun _ _ _=>rfl) (fun _ _ _ r=>r.1)
 ·refine (ha.el i q x h1 h2).to (fun k _ hl=>h.block k hl) (fun _ _ _ r=>RMsg.to r fun k hN hl=>⟨⟨hN.1,fun hm=>?_⟩,h.block k hl⟩)
  rcases hman k hm with hm | hm
  ·exact hN.2 hm
  ·have:=(hb.lt hm).1
   omega
 ·refine (low (hb.el i q x h1 h2) hB).to (fun _ _ _=>rfl) (fun _ _ _ r=>RMsg.to r fun k hN _=>⟨⟨hN.1.1,fun hm=>?_⟩,rfl⟩)
  rcases hman k hm with hm | hm
  ·exact hN.1.2 hm
  ·exact hN.2 hm
 ·have hp:(va :: au ++ vb :: bu).Pairwise Apart:=by
   rw [List.pairwise_append]
   refine ⟨ha.ap,hb.ap,fun a h1 b h2 k k1 k2=>?_⟩
   have a1:=(ha.lt (k:=k) ⟨a,h1,k1⟩).2
   have a2:=(hb.lt (k:=k) ⟨b,h2,k2⟩).1
   omega
  exact (List.Perm.pairwise_iff (fun h=>Apart.symm h) (show (va :: au ++ vb :: bu).Perm (va :: vb :: (au ++ bu)) from (List.perm_middle (a:=vb) (l₁:=au) (l₂:=bu)).cons va)).1 hp
structure WVal (B:Nat) (N:Nat→Prop) (l:Lay) (w:World) (a lg n:Value) (W:Wd):Prop where
 s:RSrv (fun k=>N k∧¬ ManR l.rows k) w (.agg #[a,lg,n]) W.s
 cl:OwnS B TC 7 (RClc fun k=>N k∧¬ ManR l.rows k) w l.vc W.cl
 uR:OwnS B TS 1 RVal w l.vu l.us
 dR:OwnS B TS 1 RVal w l.vd l.ds
 ul:l.us.length=W.up.length
 dl:l.ds.length=W.down.length
 qu:∀ (i:Nat) q L,l.us[i]?=some q→W.up[i]?=some L→OwnS B TM 4 (RMsg fun k=>N k∧¬ ManR l.rows k) w q L
 qd:∀ (i:Nat) q L,l.ds[i]?=some q→W.down[i]?=some L→OwnS B TM 4 (RMsg fun k=>N k∧¬ ManR l.rows k) w q L
 ap:l.rows.Pairwise Apart
theorem WVal.to {B B':Nat} {N N':Nat→Prop} {l:Lay} {w w':World} {a lg n:Value} {W:Wd} (h:WVal B N l w a lg n W) (hk:∀ k,N k∨B≤k→k < w.heap.size→w'.heap[k]?=w.heap[k]?) (hB:B'≤B) (hN:∀ k,N k→N' k):WVal B' N' l w' a lg n W:=by
 have kp:Kp (fun k=>N k∧¬ ManR l.rows k) (fun k=>N' k∧¬ ManR l.rows k) w w':=fun k h1 h2=>⟨⟨hN k h1.1,h1.2⟩,hk k (Or.inl h1.1) h2⟩
 exact ⟨RSrv.to h.s kp,(low h.cl hB).to (fun k e hl=>hk k (Or.inr (h.cl.own_lt e).1) hl) (fun _ _ _ r=>RClc.to r kp),(low h.uR hB).to (fun k e hl=>hk k (Or.inr (h.uR.own_lt e).1) hl) (fun _ _ _ r=>r),(low h.dR hB).to (fun k e hl=>hk k (Or.inr (h.dR.own_lt e).1) hl) (fun _ _ _ r=>r),h.ul,h.dl,
  fun i q L h1 h2=>(low (h.qu i q L h1 h2) hB).to (fun k e hl=>hk k (Or.inr ((h.qu i q L h1 h2).own_lt e).1) hl) (fun _ _ _ r=>RMsg.to r kp),fun i q L h1 h2=>(low (h.qd i q L h1 h2) hB).to (fun k e hl=>hk k (Or.inr ((h.qd i q L h1 h2).own_lt e).1) hl) (fun _ _ _ r=>RMsg.to r kp),h.ap⟩
theorem WVal.of {B B5:Nat} {N:Nat→Prop} {w5 w7:World} {a lg n vc vu vd:Value} {us ds:List Value} {W:Wd} (hs:RSrv (fun k=>N k∧vc.ownBlock≠some k) w5 (.agg #[a,lg,n]) W.s) (hc:OwnS B TC 7 (RClc fun k=>N k∧vc.ownBlock≠some k) w5 vc W.cl)
  (hq:QBoth B5 (fun k=>N k∧vc.ownBlock≠some k) w7 vu us W.up vd ds W.down) (h5:w5.heap.size≤B5) (hB:B≤B5) (h:Below w5.heap.size w5 w7):WVal B N ⟨vc,vu,vd,us,ds⟩ w7 a lg n W:=by
 have hlo:∀ k,ManR (vu :: vd :: (us ++ ds)) k→B5≤k:=fun k hk=>by
  obtain ⟨q,hq',hk⟩:=hk
  simp only [List.mem_cons,List.mem_append] at hq'
  rcases hq' with rfl | rfl | hq' | hq'
  ·exact (hq.uR.own_lt hk).1
  ·exact (hq.dR.own_lt hk).1
  ·obtain ⟨i,hi⟩:=List.mem_iff_getElem?.1 hq'
   exact ((hq.qu i q _ hi (List.getElem?_eq_getElem (by rw [← hq.ul];exact (List.getElem?_eq_some_iff.1 hi).1))).own_lt hk).1
  ·obtain ⟨i,hi⟩:=List.mem_iff_getElem?.1 hq'
   exact ((hq.qd i q _ hi (List.getElem?_eq_getElem (by rw [← hq.dl];exact (List.getElem?_eq_some_iff.1 hi).1))).own_lt hk).1
 have hman:∀ k,ManR (vc :: vu :: vd :: (us ++ ds)) k→vc.ownBlock=some k∨ManR (vu :: vd :: (us ++ ds)) k:=fun k hk=>by
  obtain ⟨q,hq,hk⟩:=hk
  rcases List.mem_cons.1 hq with rfl | hq
  ·exact Or.inl hk
  ·exact Or.inr ⟨q,hq,hk⟩
 have kp:Kp (fun k=>N k∧vc.ownBlock≠some k) (fun k=>N k∧¬ ManR (vc :: vu :: vd :: (us ++ ds)) k) w5 w7:=fun k hN hl=>⟨⟨hN.1,fun hm=>by
  rcases hman k hm with hm | hm
  ·exact hN.2 hm
  ·have:=hlo k hm
   omega⟩,h.block k hl⟩
 have kq:Kp (fun k=>(N k∧vc.ownBlock≠some k)∧¬ ManR (vu :: vd :: (us ++ ds)) k) (fun k=>N k∧¬ ManR (vc :: vu :: vd :: (us ++ ds)) k) w7 w7:=fun k hN _=>⟨⟨hN.1.1,fun hm=>by
  rcases hman k hm with hm | hm
  ·exact hN.1.2 hm
  ·exact hN.2 hm⟩,rfl⟩
 refine ⟨RSrv.to hs kp,hc.to (fun k _ hl=>h.block k hl) (fun _ _ _ r=>RClc.to r kp),low hq.uR hB,low hq.dR hB,hq.ul,hq.dl,fun i q L h1 h2=>(low (hq.qu i q L h1 h2) hB).to (fun _ _ _=>rfl) (fun _ _ _ r=>RMsg.to r kq),fun i q L h1 h2=>(low (hq.qd i q L h1 h2) hB).to (fun _ _ _=>rfl) (fun _ _ _ r=>RMsg.to r kq), ?_⟩
 rw [List.pairwise_cons]
 refine ⟨fun q hq' k h1 h2=>?_,hq.ap⟩
 have a1:=(hc.own_lt h1).2
 have a2:=hlo k ⟨q,hq',h2⟩
 omega
theorem WAt.ofVal {B B0 g:Nat} {N:Nat→Prop} {l:Lay} {w:World} {a lg n:Value} {W:Wd} (h:WVal B N l w a lg n W) (hg:w.heap[g]?=some (.cells #[a,lg,n,l.vc,l.vu,l.vd] TW (0,0))) (h0:B0≤g) (hB:B0≤B) (hN:∀ k,N k→k≠g):WAt B0 g l w W:=by
 have kp:Kp (fun k=>N k∧¬ ManR l.rows k) (l.N g) w w:=fun k hk _=>⟨fun hm=>by
  rcases hm with hm | hm
  ·exact hN k hk.1 hm
  ·exact hk.2 hm,rfl⟩
 exact ⟨h0,⟨a,lg,n,hg,RSrv.to h.s kp⟩,(low h.cl hB).to (fun _ _ _=>rfl) (fun _ _ _ r=>RClc.to r kp),low h.uR hB,low h.dR hB,h.ul,h.dl,fun i q L h1 h2=>(low (h.qu i q L h1 h2) hB).to (fun _ _ _=>rfl) (fun _ _ _ r=>RMsg.to r kp),fun i q L h1 h2=>(low (h.qd i q L h1 h2) hB).to (fun _ _ _=>rfl) (fun _ _ _ r=>RMsg.to r kp),h.ap⟩
theorem RWd.shape {F:Nat→Prop} {w:World} {v:Value} {W:Wd} (h:RWd F w v W):∃ aa ac la lc na nc ca cc ua uc da dc,v=.agg #[.slice aa W.s.first.length ac,.slice la W.s.log.length lc,.slice na W.s.now.length nc,.slice ca W.cl.length cc,.slice ua W.up.length uc,.slice da W.down.length dc]:=by
 obtain ⟨a,l,n,vc,vu,vd,rfl,hs,hc,hu,hd⟩:=h
 obtain ⟨aa,ac,la,lc,na,nc,rfl,rfl,rfl⟩:=rsrv_shape hs
 obtain ⟨ca,cc,rfl,_⟩:=RdS.len hc
 obtain ⟨ua,uc,rfl,_⟩:=RdS.len hu
 obtain ⟨da,dc,rfl,_⟩:=RdS.len hd
 exact ⟨aa,ac,la,lc,na,nc,ca,cc,ua,uc,da,dc,rfl⟩
theorem set6 {w:World} {g T:Nat} {xs:Array Value} (h:w.heap[g]?=some (.cells xs T (0,0))) (hx:xs.size=6) (a0 a1 a2 a3 a4 a5:Value) :
  let w':=(((((w.setCell ⟨g,0,none⟩ a0).setCell ⟨g,1,none⟩ a1).setCell ⟨g,2,none⟩ a2).setCell ⟨g,3,none⟩ a3).setCell ⟨g,4,none⟩ a4).setCell ⟨g,5,none⟩ a5
  w'.heap[g]?=some (.cells #[a0,a1,a2,a3,a4,a5] T (0,0))∧(∀ k,k≠g→w'.heap[k]?=w.heap[k]?)∧∀ B,B≤g→Below B w w':=by
 intro w'
 obtain ⟨l,rfl,hl⟩:∃ l:List Value,xs=l.toArray∧l.length=6:=⟨xs.toList,by simp,by simpa using hx⟩
 match l,hl with
 | [b0,b1,b2,b3,b4,b5],_ =>
  have e1:=heap_setCell_same w g 0 _ _ a0 h
  have e2:=heap_setCell_same _ g 1 _ _ a1 e1
  have e3:=heap_setCell_same _ g 2 _ _ a2 e2
  have e4:=heap_setCell_same _ g 3 _ _ a3 e3
  have e5:=heap_setCell_same _ g 4 _ _ a4 e4
  have e6:=heap_setCell_same _ g 5 _ _ a5 e5
  refine ⟨e6,fun k hk=>?_,fun B hB=>?_⟩
  ·exact (heap_setCell_other _ _ _ _ hk).trans ((heap_setCell_other _ _ _ _ hk).trans ((heap_setCell_other _ _ _ _ hk).trans ((heap_setCell_other _ _ _ _ hk).trans ((heap_setCell_other _ _ _ _ hk).trans (heap_setCell_other _ _ _ _ hk)))))
  ·exact ((((((Below.refl B w).setCell (p:=⟨g,0,none⟩) hB _).setCell (p:=⟨g,1,none⟩) hB _).setCell (p:=⟨g,2,none⟩) hB _).setCell (p:=⟨g,3,none⟩) hB _).setCell (p:=⟨g,4,none⟩) hB _).setCell (p:=⟨g,5,none⟩) hB _
abbrev wdZero:Obj:=.cells #[.slice none 0 0,.slice none 0 0,.slice none 0 0,.slice none 0 0,.slice none 0 0,.slice none 0 0] TW
set_option maxRecDepth 100000 in
set_option maxHeartbeats 4000000 in
theorem wdCopy_any (N:Nat→Prop) (v:Value) (W:Wd) (w:World) (h:RWd N w v W) (hN:∀ k,w.heap.size≤k→N k) (hW:WOk W) :
  Calls Tryz.prog 35 #[v] w fun e w'=>∃ a lg n l,e=.returned (.agg #[a,lg,n,l.vc,l.vu,l.vd])∧WVal w.heap.size N l w' a lg n W∧Below w.heap.size w w':=by
 have h:=RWd.to h (Kp.lt w)
 have HN:=Lib.hid hN
 have hW:=Lib.hid hW
 obtain ⟨aa,ac,la,lc,na,nc,ca,cc,ua,uc,da,dc,rfl⟩:=RWd.shape h
 obtain ⟨_,_,_,_,_,_,e,hs,hc,hu,hd⟩:=h
 simp only [Value.agg.injEq,Array.mk.injEq,List.cons.injEq,and_true] at e
 obtain ⟨rfl,rfl,rfl,rfl,rfl,rfl⟩:=e
 obtain ⟨w1,hw1⟩:∃ w1,w1=(w.alloc (.cells #[.slice aa W.s.first.length ac,.slice la W.s.log.length lc,.slice na W.s.now.length nc,.slice ca W.cl.length cc,.slice ua W.up.length uc,.slice da W.down.length dc] 30)).alloc wdZero:=⟨_,rfl⟩
 have hb1:Below w.heap.size w w1:=by rw [hw1];exact bal (bal (brf w) _) _
 have E1:w1.heap[w.heap.size]?=some (.cells #[.slice aa W.s.first.length ac,.slice la W.s.log.length lc,.slice na W.s.now.length nc,.slice ca W.cl.length cc,.slice ua W.up.length uc,.slice da W.down.length dc] 30 (0,0)):=by rw [hw1];exact heap_at2 rfl
 have E2:w1.heap[w.heap.size+1]?=some wdZero:=by rw [hw1];exact heap_at (by simp)
 have hz1:w.heap.size+2≤w1.heap.size:=lt_of_heap E2
 -- what is read lies in neither box
 have n1:∀ k,N k∧k < w.heap.size→N k∧k≠w.heap.size∧k≠w.heap.size+1:=fun k hk=>⟨hk.1,by omega,by omega⟩
 have hs:=Lib.hid (RSrv.to hs fun k hk hl=>⟨n1 k hk,hb1.block k hl⟩:RSrv (fun k=>N k∧k≠w.heap.size∧k≠w.heap.size+1) w1 _ W.s)
 have hc:=Lib.hid (RdS.to hc (by decide) (fun k hk hl=>⟨hk,hb1.block k hl⟩) (fun _ _ _ r=>RClc.to r (Kp.below hb1)):RdS 7 (RClc fun k=>N k∧k < w.heap.size) (fun k=>N k∧k < w.heap.size) w1 (.slice ca W.cl.length cc) W.cl)
 have hu:=Lib.hid (RQs.to hu (Kp.below hb1))
 have hd:=Lib.hid (RQs.to hd (Kp.below hb1))
 have hcl4:W.cl.length≤4:=hW.out.c4
 have hHN:∀ k,w1.heap.size≤k→N k∧k≠w.heap.size∧k≠w.heap.size+1:=fun k hk=>⟨HN.out k (by omega),by omega,by omega⟩
 have hHN:=Lib.hid hHN
 have hdoc1:W.s.first.length≤100000:=by have:=(chkDoc_ok hW.out.s.doc).2;omega
 have hdoc2:W.s.now.length≤100000:=by
  have h1:=foldG_doc (l:=W.s.log) (d:=W.s.first) (d':=W.s.now) hW.out.s.fold hW.out.s.doc
  have:=(chkDoc_ok h1).2
  omega
 have C2:=Lib.hid (svCopy_N (fun k=>N k∧k≠w.heap.size∧k≠w.heap.size+1) _ W.s w1.drew (RSrv.to hs.out (Kp.below (brf w1).drew)) (fun k hk=>hHN.out k hk) hdoc1 hdoc2 (by have:=hW.out.s.len;omega) (fun x hx=>opSm_of (en_chk (hW.out.s.ens x hx))))
 have hB1:=Lib.hid hb1
 obtain ⟨x0,x1,x2,x3,x4,x5⟩:=P6.of E1
 have Q1:w1.drew.cell? ⟨w.heap.size,0,none⟩=some (.slice aa W.s.first.length ac)∧w1.drew.cell? ⟨w.heap.size,1,none⟩=some (.slice la W.s.log.length lc)∧w1.drew.cell? ⟨w.heap.size,2,none⟩=some (.slice na W.s.now.length nc)∧w1.drew.cell? ⟨w.heap.size,3,none⟩=some (.slice ca W.cl.length cc):=⟨x0,x1,x2,x3⟩
 have E1:=Lib.hid E1
 have E2:=Lib.hid E2
 clear x0 x1 x2 x3 x4 x5 hb1 hdoc1 hdoc2 hN
 go_enter Tryz.func35,Tryz.ntmps35
 go_upto_region 2 with fail
 rw [← hw1]
 clear hw1
 refine wp_region_G 7 (fun w'=>w'.cell? ⟨w.heap.size,0,none⟩=some (.slice aa W.s.first.length ac)∧w'.cell? ⟨w.heap.size,1,none⟩=some (.slice la W.s.log.length lc)∧w'.cell? ⟨w.heap.size,2,none⟩=some (.slice na W.s.now.length nc)∧w'.cell? ⟨w.heap.size,3,none⟩=some (.slice ca W.cl.length cc)) (fun w'=>True) (by kernel_rfl) ?_
 refine tG 10 0 6 (v:=?_) trivial Q1 ?_ ?_
 rotate_left
 ·(intro w' hw';(try dsimp only at hw');go_simp;try with_reducible rfl)
 simp only [List.set_cons_zero,List.set_cons_succ]
 refine tG 10 1 7 (v:=?_) trivial Q1 ?_ ?_
 rotate_left
 ·(intro w' hw';(try dsimp only at hw');go_simp;try with_reducible rfl)
 simp only [List.set_cons_zero,List.set_cons_succ]
 refine tG 10 3 9 (v:=?_) trivial Q1 ?_ ?_
 rotate_left
 ·(intro w' hw';(try dsimp only at hw');go_simp;try with_reducible rfl)
 simp only [List.set_cons_zero,List.set_cons_succ]
 refine tG 10 4 10 (v:=?_) trivial Q1 ?_ ?_
 rotate_left
 ·(intro w' hw';(try dsimp only at hw');go_simp;try with_reducible rfl)
 simp only [List.set_cons_zero,List.set_cons_succ]
 refine wpAnyG_step 2 rfl (by kernel_rfl) (fun K' hK'=>?_)
 rw [if_pos (by rfl)]
 go_simp
 refine C2.out.mono ?_
 rintro e w2 ⟨a',l',n',rfl,ra,rl,rn,hb2'⟩
 have hb2:Below w1.heap.size w1 w2:=(brf w1).drew.trans hb2'
 have Q2:w2.cell? ⟨w.heap.size,0,none⟩=some (.slice aa W.s.first.length ac)∧w2.cell? ⟨w.heap.size,1,none⟩=some (.slice la W.s.log.length lc)∧w2.cell? ⟨w.heap.size,2,none⟩=some (.slice na W.s.now.length nc)∧w2.cell? ⟨w.heap.size,3,none⟩=some (.slice ca W.cl.length cc):=⟨(hb2'.cell (lt_of_cell Q1.1)).trans Q1.1,(hb2'.cell (lt_of_cell Q1.2.1)).trans Q1.2.1,(hb2'.cell (lt_of_cell Q1.2.2.1)).trans Q1.2.2.1,(hb2'.cell (lt_of_cell Q1.2.2.2)).trans Q1.2.2.2⟩
 obtain ⟨a1,a2,rfl,_⟩:=RdS.len ra
 obtain ⟨n1',n2',rfl,_⟩:=RdS.len rn
 obtain ⟨l1,l2,rfl,_⟩:=RdS.len rl.rd
 have RS2:RSrv (fun k=>N k∧k≠w.heap.size∧k≠w.heap.size+1) w2 (.agg #[.slice a1 W.s.first.length a2,.slice l1 W.s.log.length l2,.slice n1' W.s.now.length n2']) W.s:=⟨_,_,_,rfl,RItems.to ra (fun k hk _=>⟨hk.2,rfl⟩),RdS.to rl.rdN (by decide) (fun k hk _=>⟨hHN.out k (rl.own_lt hk).1,rfl⟩) (fun _ _ _ r=>REn.to r fun k hk _=>⟨hk.2,rfl⟩),RItems.to rn (fun k hk _=>⟨hk.2,rfl⟩)⟩
 have RS2:=Lib.hid (RSrv.to RS2 (Kp.lt w2))
 have hb2:=Lib.hid hb2
 have C5:=Lib.hid (cloneCls_any _ _ _ W.cl w2 (RdS.to hc.out (by decide) (fun k hk hl=>⟨hk,hb2.out.block k hl⟩) (fun _ _ _ r=>RClc.to r (Kp.below hb2.out))) (by omega))
 clear ra rl rn C2
 refine hK'.out _ _ trivial (fun _=>Q2) ?_
 clear hK' K'
 refine tG 10 6 12 (v:=?_) trivial Q2 ?_ ?_
 rotate_left
 ·(intro w' hw';(try dsimp only at hw');go_simp;try with_reducible rfl)
 simp only [List.set_cons_zero,List.set_cons_succ]
 refine wpAnyG_step 5 rfl (by kernel_rfl) (fun K' hK'=>?_)
 rw [if_pos (by rfl)]
 go_simp
 refine C5.out.mono ?_
 rintro e w3 ⟨u3,rfl,hu3,hb3⟩
 have Q3:w3.cell? ⟨w.heap.size,0,none⟩=some (.slice aa W.s.first.length ac)∧w3.cell? ⟨w.heap.size,1,none⟩=some (.slice la W.s.log.length lc)∧w3.cell? ⟨w.heap.size,2,none⟩=some (.slice na W.s.now.length nc)∧w3.cell? ⟨w.heap.size,3,none⟩=some (.slice ca W.cl.length cc):=⟨(hb3.cell (lt_of_cell Q2.1)).trans Q2.1,(hb3.cell (lt_of_cell Q2.2.1)).trans Q2.2.1,(hb3.cell (lt_of_cell Q2.2.2.1)).trans Q2.2.2.1,(hb3.cell (lt_of_cell Q2.2.2.2)).trans Q2.2.2.2⟩
 obtain ⟨va,vc',rfl,_⟩:=RdS.len hu3.rd
 have hB3:=hb2.out.trans (hb3.mono hb2.out.size)
 have hgB:∀ k,(Value.slice va W.cl.length vc').ownBlock=some k→w2.heap.size≤k:=fun k hk=>(hu3.own_lt hk).1
 have E3:=(hB3.block _ (by omega)).trans E1.out
 have fz3:∀ i,w3.frozen? ⟨w.heap.size,i,none⟩=false:=fun i=>Lib.frozen_of_heap E3 _
 have E32:=Lib.hid ((hB3.block _ (by omega)).trans E2.out)
 have E3:=Lib.hid E3
 have z2:w1.heap.size≤w2.heap.size:=hb2.out.size
 have RS3:=Lib.hid (RSrv.to RS2.out (fun k hk hl=>⟨⟨hk.1,fun e=>by have:=hgB k e;omega⟩,hb3.block k hl⟩):RSrv (fun k=>(N k∧k≠w.heap.size∧k≠w.heap.size+1)∧(Value.slice va W.cl.length vc').ownBlock≠some k) w3 _ W.s)
 have RC3:=Lib.hid (hu3.to (R':=RClc fun k=>(N k∧k≠w.heap.size∧k≠w.heap.size+1)∧(Value.slice va W.cl.length vc').ownBlock≠some k) (fun _ _ _=>rfl) (fun _ _ _ r=>RClc.to r fun k hk _=>⟨⟨n1 k hk.1,fun e=>by have:=hgB k e;have:=hk.1.2;omega⟩,rfl⟩))
 have hB3:=Lib.hid hB3
 clear hu3 hb3 hgB C5 RS2 Q2 Q1
 refine hK'.out _ _ trivial (fun _=>Q3) ?_
 clear hK' K'
 refine wpAnyG_step 7 rfl (by kernel_rfl) (fun K' hK'=>?_)
 rw [if_pos (by rfl)]
 obtain ⟨p0,p1,p2,p3⟩:=Q3
 refine wp_store_mid 26 (.tmp 12) (.tmp 8) rfl w.heap.size 0 #[.slice a1 W.s.first.length a2,.slice l1 W.s.log.length l2,.slice n1' W.s.now.length n2'] rfl rfl (fun j hj=>⟨by
  match j,hj with
  | 0,_=>rw [p0];rfl
  | 1,_=>rw [p1];rfl
  | 2,_=>rw [p2];rfl,fz3 _⟩) (by kernel_rfl) (by simp [Value.oneCell']) ?_
 show K' _ _
 obtain ⟨w4,hw4⟩:∃ w4,w3.setCells w.heap.size 0 [.slice a1 W.s.first.length a2,.slice l1 W.s.log.length l2,.slice n1' W.s.now.length n2']=w4:=⟨_,rfl⟩
 have E4:w4.heap[w.heap.size]?=some (.cells #[.slice a1 W.s.first.length a2,.slice l1 W.s.log.length l2,.slice n1' W.s.now.length n2',.slice ca W.cl.length cc,.slice ua W.up.length uc,.slice da W.down.length dc] 30 (0,0)):=by
  rw [← hw4]
  exact heap_setCell_same _ _ 2 _ _ _ (heap_setCell_same _ _ 1 _ _ _ (heap_setCell_same _ _ 0 _ _ _ E3.out))
 have K4:∀ k,k≠w.heap.size→w4.heap[k]?=w3.heap[k]?:=fun k hk=>by rw [← hw4];exact heap_setCells_other _ _ _ _ _ hk
 have B4:Below w.heap.size w w4:=by rw [← hw4];exact below_setCells (Nat.le_refl _) _ _ _ (hB1.out.trans (hB3.out.mono hB1.out.size))
 have y3:=cellOf (i:=3) E4 rfl
 have f4:∀ i,w4.frozen? ⟨w.heap.size,i,none⟩=false:=fun i=>Lib.frozen_of_heap E4 _
 have E4:=Lib.hid E4
 have K4:=Lib.hid K4
 have B4:=Lib.hid B4
 clear p0 p1 p2 p3 fz3 E3
 refine hK'.out _ _ trivial (fun h=>absurd h (by decide)) ?_
 clear hK' K'
 refine wpAnyG_takeS 8 13 (v:=?_) rfl rfl (by kernel_rfl) (by kernel_rfl) (by kernel_rfl) (by decide) (fun _ _ _ h=>h) (Or.inl ⟨by rfl, ?_⟩) trivial (fun h=>absurd h (by decide)) ?_
 rotate_left
 ·(intro w' hw';(try dsimp only at hw');go_simp;try with_reducible rfl)
 simp only [List.set_cons_zero,List.set_cons_succ]
 refine wpAnyG_step 9 rfl (by kernel_rfl) (fun K' hK'=>?_)
 rw [if_pos (by rfl)]
 go_simp
 refine hK'.out _ _ trivial (fun h=>absurd h (by decide)) ?_
 clear hK' K'
 refine wpAnyG_done (by kernel_rfl) ?_ _
 go_upto_region 3 with fail
 obtain ⟨w5,hw5⟩:∃ w5,w4.setCell ⟨w.heap.size,3,none⟩ (.slice va W.cl.length vc')=w5:=⟨_,rfl⟩
 have E5:=heap_setCell_same _ _ 3 _ _ (.slice va W.cl.length vc') E4.out
 rw [hw5] at E5
 have E5:w5.heap[w.heap.size]?=some (.cells #[.slice a1 W.s.first.length a2,.slice l1 W.s.log.length l2,.slice n1' W.s.now.length n2',.slice va W.cl.length vc',.slice ua W.up.length uc,.slice da W.down.length dc] 30 (0,0)):=E5
 have K5:∀ k,k≠w.heap.size→w5.heap[k]?=w3.heap[k]?:=fun k hk=>by rw [← hw5];exact (heap_setCell_other _ _ _ _ hk).trans (K4.out k hk)
 have B5:Below w.heap.size w w5:=by rw [← hw5];exact B4.out.setCell (p:=⟨w.heap.size,3,none⟩) (Nat.le_refl _) _
 have kp5:Kp (fun k=>(N k∧k≠w.heap.size∧k≠w.heap.size+1)∧(Value.slice va W.cl.length vc').ownBlock≠some k) (fun k=>(N k∧k≠w.heap.size∧k≠w.heap.size+1)∧(Value.slice va W.cl.length vc').ownBlock≠some k) w3 w5:=fun k hk _=>⟨hk,K5 k hk.1.2.1⟩
 have RS5:=Lib.hid (RSrv.to RS3.out kp5)
 have hzz:w.heap.size+2≤w2.heap.size:=Nat.le_trans hz1 z2
 have RC5:=Lib.hid (RC3.out.to (w':=w5) (fun k hk _=>K5 k (by have:=(RC3.out.own_lt hk).1;omega)) (fun _ _ _ r=>RClc.to r kp5))
 have E52:=Lib.hid ((K5 _ (by omega)).trans E32.out)
 have E5:=Lib.hid E5
 have B5:=Lib.hid B5
 clear K5 kp5 RS3 RC3 E32 E4 K4 B4 hB3 y3 f4 hw4 E1 E2
 try rw [hw5]
 clear hw5
 obtain ⟨x0,x1,x2,x3,x4,x5⟩:=P6.of E5.out
 go_wp2
 go_loopw [17] (fun i wr=>∃ k:Nat,k≤W.cl.length∧i=.int .i64 k∧Hid (wr.heap[w.heap.size]?=some (.cells #[.slice a1 W.s.first.length a2,.slice l1 W.s.log.length l2,.slice n1' W.s.now.length n2',.slice va W.cl.length vc',.slice ua W.up.length uc,.slice da W.down.length dc] 30 (0,0)))∧Hid (wr.heap[w.heap.size+1]?=some wdZero)∧Hid (RSrv (fun k=>(N k∧k≠w.heap.size∧k≠w.heap.size+1)∧(Value.slice va W.cl.length vc').ownBlock≠some k) wr (.agg #[.slice a1 W.s.first.length a2,.slice l1 W.s.log.length l2,.slice n1' W.s.now.length n2']) W.s)∧Hid (OwnS w2.heap.size TC 7 (RClc fun k=>(N k∧k≠w.heap.size∧k≠w.heap.size+1)∧(Value.slice va W.cl.length vc').ownBlock≠some k) wr (.slice va W.cl.length vc') W.cl)∧Hid (Below w.heap.size w wr)) (fun i _=>W.cl.length - (intOf i).toNat)
 case atStart=>exact ⟨0,Nat.zero_le _,rfl,E5,E52,RS5,RC5,B5⟩
 case round =>
  clear x0 x1 x2 x3 x4 x5 E5 E52 RS5 RC5 B5
  obtain ⟨k,hk,rfl,E5,E52,RS5,RC5,B5⟩:=hrel
  obtain ⟨wo,rfl⟩:∃ wo,wo=wr:=⟨_,rfl⟩
  by_cases hlt:k < W.cl.length
  ·obtain ⟨x,hx⟩:∃ x,W.cl[k]?=some x:=⟨_,List.getElem?_eq_getElem hlt⟩
   obtain ⟨gc,cap,cur,e1,hgc,hh⟩:=RC5.out.shape (by intro e;rw [e] at hlt;simp at hlt)
   simp only [Value.slice.injEq,true_and] at e1
   obtain ⟨rfl,rfl⟩:=e1
   obtain ⟨cs,hcs,_,hat⟩:=RC5.out.at hx
   obtain ⟨b,n,s,g,rfl,r1,r2,r3,r4⟩:=id hcs
   obtain ⟨ba,bc,rfl,_⟩:=RdS.len r1
   obtain ⟨na,nc,rfl,_⟩:=RdS.len r2
   obtain ⟨sa,sc,rfl,_⟩:=RdS.len r3
   obtain ⟨ha,hc,rfl,_⟩:=RdS.len r4
   have c0:=hat 0 _ rfl
   rw [Nat.add_zero] at c0
   have c1:=hat 1 _ rfl
   have c2:=hat 2 _ rfl
   have c3:=hat 3 _ rfl
   have c4:=hat 4 _ rfl
   have c5:=hat 5 _ rfl
   have c6:=hat 6 _ rfl
   have hbs:gc < wo.heap.size:=lt_of_heap hh
   obtain ⟨w6,hw6⟩:∃ w6,w6=wo.alloc (.cells #[.int .i64 x.rev,.slice ba x.base.length bc,.slice na x.now.length nc,.int .i64 x.seq,.slice sa x.sent.length sc,.slice ha x.held.length hc,.bool x.joined] 52):=⟨_,rfl⟩
   have hb6:Below wo.heap.size wo w6:=by rw [hw6];exact bal (brf wo) _
   have hN6:=heap_new wo (.cells #[.int .i64 x.rev,.slice ba x.base.length bc,.slice na x.now.length nc,.int .i64 x.seq,.slice sa x.sent.length sc,.slice ha x.held.length hc,.bool x.joined] 52)
   rw [← hw6] at hN6
   obtain ⟨w7,hw7⟩:∃ w7,w6.drew=w7:=⟨_,rfl⟩
   have hb7':Below w6.heap.size w6 w7:=by rw [← hw7];exact Go.below_drewN (Below.refl _ _) 1
   have hb7:Below wo.heap.size wo w7:=hb6.trans (hb7'.mono hb6.size)
   have E7:=(hb7.block _ (lt_of_heap E5.out)).trans E5.out
   obtain ⟨_,_,_,x3,_,_⟩:=P6.of E7
   obtain ⟨q0,q1,q2,q3,q4,q5,q6⟩:=cell7 ((hb7'.block _ (lt_of_heap hN6)).trans hN6)
   have Q7:w7.cell? ⟨w.heap.size,3,none⟩=some (.slice (some ⟨gc,0,none⟩) W.cl.length vc')∧w7.cell? ⟨wo.heap.size,0,none⟩=some (.int .i64 x.rev)∧w7.cell? ⟨wo.heap.size,1,none⟩=some (.slice ba x.base.length bc)∧w7.cell? ⟨wo.heap.size,2,none⟩=some (.slice na x.now.length nc)∧w7.cell? ⟨wo.heap.size,3,none⟩=some (.int .i64 x.seq)∧w7.cell? ⟨wo.heap.size,4,none⟩=some (.slice sa x.sent.length sc)∧w7.cell? ⟨wo.heap.size,5,none⟩=some (.slice ha x.held.length hc)∧w7.cell? ⟨wo.heap.size,6,none⟩=some (.bool x.joined):=⟨x3,q0,q1,q2,q3,q4,q5,q6⟩
   have E52':=Lib.hid ((hb7.block _ (lt_of_heap E52.out)).trans E52.out)
   have RS7:=Lib.hid (RSrv.to RS5.out (Kp.below hb7))
   have RC7:=Lib.hid (RC5.out.below hb7 (fun _ _ _ r=>RClc.to r (Kp.below hb7)))
   have B7:=Lib.hid (B5.out.trans (hb7.mono B5.out.size))
   have E7:=Lib.hid E7
   have h7c:=(hb7.block _ hbs).trans hh
   have ht7:Hid (w7.there gc (k * 7) 7):=Lib.hid (fun j hj=>⟨by
    have hc7:∀ j v,wo.cell? ⟨gc,k * 7+j,none⟩=some v→(w7.cell? ⟨gc,k * 7+j,none⟩).isSome=true:=fun j v e=>by rw [(hb7.cell (p:=⟨gc,k * 7+j,none⟩) hbs).trans e];rfl
    match j,hj with
    | 0,_=>exact hc7 0 _ c0
    | 1,_=>exact hc7 1 _ c1
    | 2,_=>exact hc7 2 _ c2
    | 3,_=>exact hc7 3 _ c3
    | 4,_=>exact hc7 4 _ c4
    | 5,_=>exact hc7 5 _ c5
    | 6,_=>exact hc7 6 _ c6,Lib.frozen_of_heap h7c _⟩)
   have hcx:=RClc.to hcs (Kp.below hb7)
   obtain ⟨b',n',s',g',ecs,r1',r2',r3',r4'⟩:=hcx
   have CC:=Lib.hid (clCopy_any _ (.agg #[.int .i64 x.rev,.slice ba x.base.length bc,.slice na x.now.length nc,.int .i64 x.seq,.slice sa x.sent.length sc,.slice ha x.held.length hc,.bool x.joined]) x w7 ⟨b',n',s',g',by simpa using ecs,r1',r2',r3',r4'⟩ (hW.out.cl x (List.mem_of_getElem? hx)).sm)
   have hx':=Lib.hid hx
   have hsz7:=hb7.size
   have hsz5:=B5.out.size
   clear r1' r2' r3' r4' ecs hcs r1 r2 r3 r4 q0 q1 q2 q3 q4 q5 q6 hat x3 hN6 hb7' hb6 hh h7c hx E5 E52 RS5 RC5 B5
   go_upto_region 6 with fail
   rw [← hw6]
   clear hw6
   refine wp_region_G 6 (fun w'=>w'.cell? ⟨w.heap.size,3,none⟩=some (.slice (some ⟨gc,0,none⟩) W.cl.length vc')∧w'.cell? ⟨wo.heap.size,0,none⟩=some (.int .i64 x.rev)∧w'.cell? ⟨wo.heap.size,1,none⟩=some (.slice ba x.base.length bc)∧w'.cell? ⟨wo.heap.size,2,none⟩=some (.slice na x.now.length nc)∧w'.cell? ⟨wo.heap.size,3,none⟩=some (.int .i64 x.seq)∧w'.cell? ⟨wo.heap.size,4,none⟩=some (.slice sa x.sent.length sc)∧w'.cell? ⟨wo.heap.size,5,none⟩=some (.slice ha x.held.length hc)∧w'.cell? ⟨wo.heap.size,6,none⟩=some (.bool x.joined)) (fun w'=>True) (by kernel_rfl) ?_
   show wpAnyG _ _ _ _ _ _ _ _ _ _ (World.drew _)
   rw [hw7]
   clear hw7
   refine tG 7 0 22 (v:=?_) trivial Q7 ?_ ?_
   rotate_left
   ·(intro w' hw';(try dsimp only at hw');go_simp;try with_reducible rfl)
   simp only [List.set_cons_zero,List.set_cons_succ]
   refine tG 7 1 23 (v:=?_) trivial Q7 ?_ ?_
   rotate_left
   ·(intro w' hw';(try dsimp only at hw');go_simp;try with_reducible rfl)
   simp only [List.set_cons_zero,List.set_cons_succ]
   refine tG 7 2 24 (v:=?_) trivial Q7 ?_ ?_
   rotate_left
   ·(intro w' hw';(try dsimp only at hw');go_simp;try with_reducible rfl)
   simp only [List.set_cons_zero,List.set_cons_succ]
   refine tG 7 3 25 (v:=?_) trivial Q7 ?_ ?_
   rotate_left
   ·(intro w' hw';obtain ⟨_,p0,p1,p2,p3,p4,p5,p6,p7⟩:=hw';go_simp;try with_reducible rfl)
   simp only [List.set_cons_zero,List.set_cons_succ]
   refine wpAnyG_step 4 rfl (by kernel_rfl) (fun K' hK'=>?_)
   rw [if_pos (by rfl)]
   go_simp
   refine CC.out.mono ?_
   rintro e w8 ⟨v',rfl,⟨b',n',s',h',rfl,r1,r2,r3,r4⟩,hb8⟩
   obtain ⟨ba',bc',rfl,_⟩:=RdS.len r1
   obtain ⟨na',nc',rfl,_⟩:=RdS.len r2
   obtain ⟨sa',sc',rfl,_⟩:=RdS.len r3
   obtain ⟨ha',hc',rfl,_⟩:=RdS.len r4
   have Q8:w8.cell? ⟨w.heap.size,3,none⟩=some (.slice (some ⟨gc,0,none⟩) W.cl.length vc')∧w8.cell? ⟨wo.heap.size,0,none⟩=some (.int .i64 x.rev)∧w8.cell? ⟨wo.heap.size,1,none⟩=some (.slice ba x.base.length bc)∧w8.cell? ⟨wo.heap.size,2,none⟩=some (.slice na x.now.length nc)∧w8.cell? ⟨wo.heap.size,3,none⟩=some (.int .i64 x.seq)∧w8.cell? ⟨wo.heap.size,4,none⟩=some (.slice sa x.sent.length sc)∧w8.cell? ⟨wo.heap.size,5,none⟩=some (.slice ha x.held.length hc)∧w8.cell? ⟨wo.heap.size,6,none⟩=some (.bool x.joined):=by
    obtain ⟨a0,a1,a2,a3,a4,a5,a6,a7⟩:=Q7
    exact ⟨(hb8.cell (lt_of_cell a0)).trans a0,(hb8.cell (lt_of_cell a1)).trans a1,(hb8.cell (lt_of_cell a2)).trans a2,(hb8.cell (lt_of_cell a3)).trans a3,(hb8.cell (lt_of_cell a4)).trans a4,(hb8.cell (lt_of_cell a5)).trans a5,(hb8.cell (lt_of_cell a6)).trans a6,(hb8.cell (lt_of_cell a7)).trans a7⟩
   have hF8:∀ j,w7.heap.size≤j∨(fun k=>(N k∧k≠w.heap.size∧k≠w.heap.size+1)∧(Value.slice (some ⟨gc,0,none⟩) W.cl.length vc').ownBlock≠some k) j→(fun k=>(N k∧k≠w.heap.size∧k≠w.heap.size+1)∧(Value.slice (some ⟨gc,0,none⟩) W.cl.length vc').ownBlock≠some k) j:=fun j hj=>by
    rcases hj with hj | hj
    ·exact ⟨⟨HN.out j (by omega),by omega,by omega⟩,fun e=>by simp [Value.ownBlock] at e;omega⟩
    ·exact hj
   have RV8:=Lib.hid (show RClc (fun k=>(N k∧k≠w.heap.size∧k≠w.heap.size+1)∧(Value.slice (some ⟨gc,0,none⟩) W.cl.length vc').ownBlock≠some k) w8 [.int .i64 x.rev,.slice ba' x.base.length bc',.slice na' x.now.length nc',.int .i64 x.seq,.slice sa' x.sent.length sc',.slice ha' x.held.length hc',.bool x.joined] x from ⟨_,_,_,_,rfl,RItems.to r1 (Kp.weak w8 hF8),RItems.to r2 (Kp.weak w8 hF8),ROp.to r3 (Kp.weak w8 hF8),ROp.to r4 (Kp.weak w8 hF8)⟩)
   have E8:=Lib.hid ((hb8.block _ (lt_of_heap E7.out)).trans E7.out)
   have E82:=Lib.hid ((hb8.block _ (lt_of_heap E52'.out)).trans E52'.out)
   have RS8:=Lib.hid (RSrv.to RS7.out (Kp.below hb8))
   have RC8:=Lib.hid (RC7.out.below hb8 (fun _ _ _ r=>RClc.to r (Kp.below hb8)))
   have B8:=Lib.hid (B7.out.trans (hb8.mono B7.out.size))
   have ht8:=Lib.hid (show w8.there gc (k * 7) 7 from fun j hj=>by
    obtain ⟨t1,t2⟩:=ht7.out j hj
    obtain ⟨z,hz⟩:=Option.isSome_iff_exists.1 t1
    obtain ⟨xs,e⟩:=(RC8.out.cells (k:=gc) rfl).2
    exact ⟨by rw [(hb8.cell (lt_of_cell hz)).trans hz];rfl,Lib.frozen_of_heap e _⟩)
   clear r1 r2 r3 r4 hF8 hb8 CC
   refine hK'.out _ _ trivial (fun _=>Q8) ?_
   clear hK' K'
   refine tG 7 5 27 (v:=?_) trivial Q8 ?_ ?_
   rotate_left
   ·(intro w' hw';(try dsimp only at hw');go_simp;try with_reducible rfl)
   simp only [List.set_cons_zero,List.set_cons_succ]
   refine wpAnyG_step 6 rfl (by kernel_rfl) (fun K' hK'=>?_)
   rw [if_pos (by rfl)]
   refine wp_store_mid 52 (.tmp 27) (.tmp 26) rfl gc (k * 7) #[.int .i64 x.rev,.slice ba' x.base.length bc',.slice na' x.now.length nc',.int .i64 x.seq,.slice sa' x.sent.length sc',.slice ha' x.held.length hc',.bool x.joined] rfl rfl ht8.out (by kernel_rfl) (by simp [Value.oneCell']) ?_
   show K' _ _
   refine hK'.out _ _ trivial (fun h=>absurd h (by decide)) ?_
   clear hK' K'
   refine wpAnyG_done (by kernel_rfl) ?_ _
   have hgW:w.heap.size≤gc:=by omega
   have hgn:w.heap.size≠gc∧w.heap.size+1≠gc:=by omega
   have kp9:Kp (fun k=>(N k∧k≠w.heap.size∧k≠w.heap.size+1)∧(Value.slice (some ⟨gc,0,none⟩) W.cl.length vc').ownBlock≠some k) (fun k=>(N k∧k≠w.heap.size∧k≠w.heap.size+1)∧(Value.slice (some ⟨gc,0,none⟩) W.cl.length vc').ownBlock≠some k) w8 (w8.setCells gc (k * 7) [.int .i64 x.rev,.slice ba' x.base.length bc',.slice na' x.now.length nc',.int .i64 x.seq,.slice sa' x.sent.length sc',.slice ha' x.held.length hc',.bool x.joined]):=fun j hj _=>⟨hj,heap_setCells_other _ _ _ _ j (fun e=>hj.2 (by rw [e];rfl))⟩
   have RC9:=RC8.out.put (R':=RClc fun k=>(N k∧k≠w.heap.size∧k≠w.heap.size+1)∧(Value.slice (some ⟨gc,0,none⟩) W.cl.length vc').ownBlock≠some k) hx'.out [.int .i64 x.rev,.slice ba' x.base.length bc',.slice na' x.now.length nc',.int .i64 x.seq,.slice sa' x.sent.length sc',.slice ha' x.held.length hc',.bool x.joined] rfl (RClc_one _ RV8.out) (fun _ _ _ r=>RClc.to r kp9) (RClc.to RV8.out kp9)
   rw [set_self hx'.out] at RC9
   have RC9:=Lib.hid RC9
   have RS9:=Lib.hid (RSrv.to RS8.out kp9)
   have E9:=Lib.hid ((heap_setCells_other gc [.int .i64 x.rev,.slice ba' x.base.length bc',.slice na' x.now.length nc',.int .i64 x.seq,.slice sa' x.sent.length sc',.slice ha' x.held.length hc',.bool x.joined] (k * 7) w8 _ hgn.1).trans E8.out)
   have E92:=Lib.hid ((heap_setCells_other gc [.int .i64 x.rev,.slice ba' x.base.length bc',.slice na' x.now.length nc',.int .i64 x.seq,.slice sa' x.sent.length sc',.slice ha' x.held.length hc',.bool x.joined] (k * 7) w8 _ hgn.2).trans E82.out)
   have B9:=Lib.hid (below_setCells hgW [.int .i64 x.rev,.slice ba' x.base.length bc',.slice na' x.now.length nc',.int .i64 x.seq,.slice sa' x.sent.length sc',.slice ha' x.held.length hc',.bool x.joined] (k * 7) w8 B8.out)
   generalize hw9:w8.setCells gc (k * 7) [.int .i64 x.rev,.slice ba' x.base.length bc',.slice na' x.now.length nc',.int .i64 x.seq,.slice sa' x.sent.length sc',.slice ha' x.held.length hc',.bool x.joined]=w9 at *
   go_wp2
   go_roundw
   case rel=>exact ⟨k+1,by omega,by go_num,E9,E92,RS9,RC9,B9⟩
   case measure=>simp [intOf];omega
  ·obtain rfl:k=W.cl.length:=by omega
   obtain ⟨w10,hw10⟩:∃ w10,wo.drew=w10:=⟨_,rfl⟩
   have hb10:Below wo.heap.size wo w10:=by rw [← hw10];exact Go.below_drewN (Below.refl _ _) 1
   have E10:=(hb10.block _ (lt_of_heap E5.out)).trans E5.out
   have E102:=Lib.hid ((hb10.block _ (lt_of_heap E52.out)).trans E52.out)
   have RS10:=Lib.hid (RSrv.to RS5.out (Kp.below hb10))
   have RC10:=Lib.hid (RC5.out.below hb10 (fun _ _ _ r=>RClc.to r (Kp.below hb10)))
   have B10:=B5.out.trans (hb10.mono B5.out.size)
   obtain ⟨_,_,_,_,x4,x5⟩:=P6.of E10
   have Q10:w10.cell? ⟨w.heap.size,4,none⟩=some (.slice ua W.up.length uc)∧w10.cell? ⟨w.heap.size,5,none⟩=some (.slice da W.down.length dc):=⟨x4,x5⟩
   have hvcB:∀ k,(Value.slice va W.cl.length vc').ownBlock=some k→w2.heap.size≤k∧k < w10.heap.size:=fun k e=>RC10.out.own_lt e
   have h210:w.heap.size+2≤w10.heap.size:=lt_of_heap E102.out
   have hF10:∀ k,w10.heap.size≤k→(fun k=>(N k∧k≠w.heap.size∧k≠w.heap.size+1)∧(Value.slice va W.cl.length vc').ownBlock≠some k) k:=fun k hk=>⟨⟨HN.out k (by omega),by omega,by omega⟩,fun e=>by have:=(hvcB k e).2;omega⟩
   have hO10:∀ k,(N k∧k < w.heap.size)→(fun k=>(N k∧k≠w.heap.size∧k≠w.heap.size+1)∧(Value.slice va W.cl.length vc').ownBlock≠some k) k:=fun k hk=>⟨n1 k hk,fun e=>by have:=(hvcB k e).1;have:=hk.2;omega⟩
   have RU10:RdS 1 (RSl 4 (RMsg (fun k=>(N k∧k≠w.heap.size∧k≠w.heap.size+1)∧(Value.slice va W.cl.length vc').ownBlock≠some k)) (fun k=>(N k∧k≠w.heap.size∧k≠w.heap.size+1)∧(Value.slice va W.cl.length vc').ownBlock≠some k)) (fun k=>(N k∧k≠w.heap.size∧k≠w.heap.size+1)∧(Value.slice va W.cl.length vc').ownBlock≠some k) w10 (.slice ua W.up.length uc) W.up:=RQs.to hu.out fun k hk hl=>⟨hO10 k hk,(B10.block k hk.2).trans (hB1.out.block k hk.2).symm⟩
   have CU:=Lib.hid (wdQueues_any (fun k=>(N k∧k≠w.heap.size∧k≠w.heap.size+1)∧(Value.slice va W.cl.length vc').ownBlock≠some k) _ W.up w10 RU10 hF10 (by rw [hW.out.ul];omega) hW.out.qu)
   have B10:=Lib.hid B10
   have hF10:=Lib.hid hF10
   have hO10:=Lib.hid hO10
   have E10:=Lib.hid E10
   clear RU10 x4 x5 E5 E52 RS5 RC5 B5 hvcB
   go_upto_region 8 with fail
   refine wp_region_G 9 (fun w'=>w'.cell? ⟨w.heap.size,4,none⟩=some (.slice ua W.up.length uc)∧w'.cell? ⟨w.heap.size,5,none⟩=some (.slice da W.down.length dc)) (fun w'=>True) (by kernel_rfl) ?_
   show wpAnyG _ _ _ _ _ _ _ _ _ _ (World.drew _)
   rw [hw10]
   clear hw10
   refine tG 12 0 29 (v:=?_) trivial Q10 ?_ ?_
   rotate_left
   ·(intro w' hw';(try dsimp only at hw');go_simp;try with_reducible rfl)
   simp only [List.set_cons_zero,List.set_cons_succ]
   refine tG 12 1 30 (v:=?_) trivial Q10 ?_ ?_
   rotate_left
   ·(intro w' hw';(try dsimp only at hw');go_simp;try with_reducible rfl)
   simp only [List.set_cons_zero,List.set_cons_succ]
   refine tG 12 2 31 (v:=?_) trivial Q10 ?_ ?_
   rotate_left
   ·(intro w' hw';(try dsimp only at hw');go_simp;try with_reducible rfl)
   simp only [List.set_cons_zero,List.set_cons_succ]
   refine tG 12 4 33 (v:=?_) trivial Q10 ?_ ?_
   rotate_left
   ·(intro w' hw';(try dsimp only at hw');go_simp;try with_reducible rfl)
   simp only [List.set_cons_zero,List.set_cons_succ]
   refine tG 12 5 34 (v:=?_) trivial Q10 ?_ ?_
   rotate_left
   ·(intro w' hw';(try dsimp only at hw');go_simp;try with_reducible rfl)
   simp only [List.set_cons_zero,List.set_cons_succ]
   refine tG 12 6 35 (v:=?_) trivial Q10 ?_ ?_
   rotate_left
   ·(intro w' hw';(try dsimp only at hw');go_simp;try with_reducible rfl)
   simp only [List.set_cons_zero,List.set_cons_succ]
   refine wpAnyG_step 3 rfl (by kernel_rfl) (fun K' hK'=>?_)
   rw [if_pos (by rfl)]
   go_simp
   refine CU.out.mono ?_
   rintro e w11 ⟨vu,us,rfl,hus,QU,hb11⟩
   have Q11:w11.cell? ⟨w.heap.size,4,none⟩=some (.slice ua W.up.length uc)∧w11.cell? ⟨w.heap.size,5,none⟩=some (.slice da W.down.length dc):=⟨(hb11.cell (lt_of_cell Q10.1)).trans Q10.1,(hb11.cell (lt_of_cell Q10.2)).trans Q10.2⟩
   have B11:=B10.out.trans (hb11.mono B10.out.size)
   have RD11:RdS 1 (RSl 4 (RMsg fun k=>(fun k=>(N k∧k≠w.heap.size∧k≠w.heap.size+1)∧(Value.slice va W.cl.length vc').ownBlock≠some k) k∧¬ ManR (vu :: us) k) fun k=>(fun k=>(N k∧k≠w.heap.size∧k≠w.heap.size+1)∧(Value.slice va W.cl.length vc').ownBlock≠some k) k∧¬ ManR (vu :: us) k) (fun k=>(fun k=>(N k∧k≠w.heap.size∧k≠w.heap.size+1)∧(Value.slice va W.cl.length vc').ownBlock≠some k) k∧¬ ManR (vu :: us) k) w11 (.slice da W.down.length dc) W.down:=RQs.to hd.out fun k hk hl=>⟨⟨hO10.out k hk,fun hm=>by have:=(QU.lt hm).1;have:=hk.2;omega⟩,(B11.block k hk.2).trans (hB1.out.block k hk.2).symm⟩
   have CD:=Lib.hid (wdQueues_any (fun k=>(fun k=>(N k∧k≠w.heap.size∧k≠w.heap.size+1)∧(Value.slice va W.cl.length vc').ownBlock≠some k) k∧¬ ManR (vu :: us) k) _ W.down w11 RD11 (fun k hk=>⟨hF10.out k (Nat.le_trans hb11.size hk),fun hm=>by have:=(QU.lt hm).2;omega⟩) (by rw [hW.out.dl];omega) hW.out.qd)
   obtain ⟨vua,vuc,rfl,_⟩:=RdS.len QU.row.rd
   have QU:=Lib.hid QU
   have hb11:=Lib.hid hb11
   have B11:=Lib.hid B11
   clear RD11 CU Q10
   refine hK'.out _ _ trivial (fun _=>Q11) ?_
   clear hK' K'
   refine tG 12 8 37 (v:=?_) trivial Q11 ?_ ?_
   rotate_left
   ·(intro w' hw';(try dsimp only at hw');go_simp;try with_reducible rfl)
   simp only [List.set_cons_zero,List.set_cons_succ]
   refine wpAnyG_step 7 rfl (by kernel_rfl) (fun K' hK'=>?_)
   rw [if_pos (by rfl)]
   go_simp
   refine CD.out.mono ?_
   rintro e w12 ⟨vd,ds,rfl,hds,QD,hb12⟩
   have QB:=Lib.hid (qs_both QU.out hus QD hds hb11.out.size hb12)
   obtain ⟨vda,vdc,rfl,_⟩:=RdS.len QD.row.rd
   have hb1012:=hb11.out.trans (hb12.mono hb11.out.size)
   have Q12:w12.cell? ⟨w.heap.size,4,none⟩=some (.slice ua W.up.length uc)∧w12.cell? ⟨w.heap.size,5,none⟩=some (.slice da W.down.length dc):=⟨(hb12.cell (lt_of_cell Q11.1)).trans Q11.1,(hb12.cell (lt_of_cell Q11.2)).trans Q11.2⟩
   have E12:=(hb1012.block _ (by omega)).trans E10.out
   have fz12:∀ i,w12.frozen? ⟨w.heap.size,i,none⟩=false:=fun i=>Lib.frozen_of_heap E12 _
   have E122:=Lib.hid ((hb1012.block _ (by omega)).trans E102.out)
   have B12:=Lib.hid (B11.out.trans (hb12.mono B11.out.size))
   have V12:=Lib.hid (WVal.of (B:=w.heap.size+2) RS10.out (low RC10.out hzz) QB.out (Nat.le_refl _) h210 hb1012)
   obtain ⟨y0,y1,y2,y3,y4,y5⟩:=P6.of E12
   have E12:=Lib.hid E12
   have hb1012:=Lib.hid hb1012
   clear QD hb12 QU CD Q11
   refine hK'.out _ _ trivial (fun _=>Q12) ?_
   clear hK' K'
   refine wpAnyG_step 9 rfl (by kernel_rfl) (fun K' hK'=>?_)
   rw [if_pos (by rfl)]
   go_simp
   refine hK'.out _ _ trivial (fun h=>absurd h (by decide)) ?_
   clear hK' K'
   refine wpAnyG_takeS 10 38 (v:=?_) rfl rfl (by kernel_rfl) (by kernel_rfl) (by kernel_rfl) (by decide) (fun _ _ _ h=>h) (Or.inl ⟨by rfl, ?_⟩) trivial (fun h=>absurd h (by decide)) ?_
   rotate_left
   ·(intro w' hw';(try dsimp only at hw');go_simp;try with_reducible rfl)
   simp only [List.set_cons_zero,List.set_cons_succ]
   refine wpAnyG_step 11 rfl (by kernel_rfl) (fun K' hK'=>?_)
   rw [if_pos (by rfl)]
   go_simp
   refine hK'.out _ _ trivial (fun h=>absurd h (by decide)) ?_
   clear hK' K'
   refine wpAnyG_done (by kernel_rfl) ?_ _
   clear y0 y1 y2 y3 y4 y5
   go_upto_region 9 with fail
   refine name_world ?_
   intro w13 hw13
   have hus':(us ++ []).length=W.up.length:=by simpa using hus
   have hds':(ds ++ []).length=W.down.length:=by simpa using hds
   have V13:=V12.out
   rw [hus',hds'] at V13
   have E13:=heap_setCell_same _ _ 5 _ _ (.slice vda W.down.length vdc) (heap_setCell_same _ _ 4 _ _ (.slice vua W.up.length vuc) E12.out)
   rw [hw13] at E13
   have E13:w13.heap[w.heap.size]?=some (.cells #[.slice a1 W.s.first.length a2,.slice l1 W.s.log.length l2,.slice n1' W.s.now.length n2',.slice va W.cl.length vc',.slice vua W.up.length vuc,.slice vda W.down.length vdc] 30 (0,0)):=E13
   have K13:∀ k,k≠w.heap.size→w13.heap[k]?=w12.heap[k]?:=fun k hk=>by rw [← hw13];exact (heap_setCell_other _ _ _ _ hk).trans (heap_setCell_other _ _ _ _ hk)
   have B13:Below w.heap.size w w13:=by rw [← hw13];exact (B12.out.setCell (p:=⟨w.heap.size,4,none⟩) (Nat.le_refl _) _).setCell (p:=⟨w.heap.size,5,none⟩) (Nat.le_refl _) _
   have E132:=(K13 _ (by omega)).trans E122.out
   have fz:∀ i,w13.frozen? ⟨w.heap.size+1,i,none⟩=false:=fun i=>Lib.frozen_of_heap E132 _
   obtain ⟨x0,x1,x2,x3,x4,x5⟩:=P6.of E13
   obtain ⟨y0,y1,y2,y3,y4,y5⟩:=P6.of E132
   have V13:=Lib.hid V13
   have K13:=Lib.hid K13
   clear hw13 hus hds hus' hds' V12 QB
   go_wp2
   obtain ⟨q1,q2,q3⟩:=set6 E132 rfl (.slice a1 W.s.first.length a2) (.slice l1 W.s.log.length l2) (.slice n1' W.s.now.length n2') (.slice va W.cl.length vc') (.slice vua W.up.length vuc) (.slice vda W.down.length vdc)
   generalize hwz:((((((w13.setCell ⟨w.heap.size+1,0,none⟩ _).setCell ⟨w.heap.size+1,1,none⟩ _).setCell ⟨w.heap.size+1,2,none⟩ _).setCell ⟨w.heap.size+1,3,none⟩ _).setCell ⟨w.heap.size+1,4,none⟩ _).setCell ⟨w.heap.size+1,5,none⟩ _)=wz at *
   obtain ⟨z0,z1,z2',z3,z4,z5⟩:=P6.of q1
   exact bodyPost_ret (v:=.agg #[.slice a1 W.s.first.length a2,.slice l1 W.s.log.length l2,.slice n1' W.s.now.length n2',.slice va W.cl.length vc',.slice vua W.up.length vuc,.slice vda W.down.length vdc]) (by simp [results,Tryz.results35,go_sem,z0,z1,z2',z3,z4,z5]) rfl ⟨_,_,_,⟨.slice va W.cl.length vc',.slice vua W.up.length vuc,.slice vda W.down.length vdc,us,ds⟩,rfl,V13.out.to (fun k hk _=>by
    have hn:k≠w.heap.size∧k≠w.heap.size+1:=by rcases hk with hk | hk;exact hk.2;omega
    exact (q2 k hn.2).trans (K13.out k hn.1)) (by omega) (fun _ h=>h.1),B13.trans (q3 _ (by omega))⟩
end Go.Proofs.YteikncnldbdfmaaGreatDoor
