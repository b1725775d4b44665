import Derived.Test.YteikncnldbdfmaaGreatDoorMSvD
import Derived.Test.YteikncnldbdfmaaGreatDoorMClN
namespace Go.Proofs.YteikncnldbdfmaaGreatDoor
open Go.RowKit Go.Mh
set_option maxRecDepth 100000 in
set_option maxHeartbeats 4000000 in
theorem svCopy_N (N:Nat→Prop) (v:Value) (s:Srv) (w:World) (h:RSrv N w v s) (hN:∀ k,w.heap.size≤k→N k) (ha:s.first.length≤100000) (hn:s.now.length≤100000) (hl:s.log.length≤100000) (hO:∀ x ∈ s.log,x.o.length≤100000∧∀ p ∈ x.o,p.its.length≤100000) :
  Calls Tryz.prog 92 #[v] w fun e w'=>∃ a l n,e=.returned (.agg #[a,l,n])∧RItems (fun k=>l.ownBlock≠some k∧N k) w' a s.first∧OwnS w.heap.size 77 3 (REn fun k=>l.ownBlock≠some k∧N k) w' l s.log∧RItems (fun k=>l.ownBlock≠some k∧N k) w' n s.now∧Below w.heap.size w w':=by
 have HN:=Lib.hid hN
 clear hN
 have h:=RSrv.to h (Kp.lt w)
 obtain ⟨a,l,n,rfl,h1,h2,h3⟩:=h
 obtain ⟨aa,ac,rfl,_⟩:=RdS.len h1
 obtain ⟨la,lc,rfl,_⟩:=RdS.len h2
 obtain ⟨na,nc,rfl,_⟩:=RdS.len h3
 obtain ⟨w1,hw1⟩:∃ w1,w1=(w.alloc (.cells #[.slice aa s.first.length ac,.slice la s.log.length lc,.slice na s.now.length nc] 26)).alloc (.cells #[.slice none 0 0,.slice none 0 0,.slice none 0 0] 26):=⟨_,rfl⟩
 have hb1:Below w.heap.size w w1:=by rw [hw1];exact bal (bal (brf w) _) _
 have hG1:=Lib.hid (by rw [hw1];exact heap_at2 rfl:w1.heap[w.heap.size]?=some (.cells #[.slice aa s.first.length ac,.slice la s.log.length lc,.slice na s.now.length nc] 26 (0,0)))
 have hG2:=Lib.hid (by rw [hw1];exact heap_at (by simp):w1.heap[w.heap.size+1]?=some (.cells #[.slice none 0 0,.slice none 0 0,.slice none 0 0] 26 (0,0)))
 have hlt1:=lt_of_heap hG1.out
 have C0:=Lib.hid (fun (w':World) (hb:Below w1.heap.size w1 w')=>cloneDoc_any _ _ s.first w' (RItems.to h1 (Kp.below (hb1.trans (hb.mono hb1.size)))) ha)
 have C2:=Lib.hid (fun (w':World) (hb:Below w1.heap.size w1 w')=>cloneDoc_any _ _ s.now w' (RItems.to h3 (Kp.below (hb1.trans (hb.mono hb1.size)))) hn)
 have C1:=Lib.hid (fun (w':World) (hb:Below w1.heap.size w1 w')=>cloneLog_any _ _ s.log w' (RLog.to h2 (Kp.below (hb1.trans (hb.mono hb1.size)))) hl)
 obtain ⟨x0,x1,x2⟩:=P3.of hG1.out
 have Q0:w1.drew.cell? ⟨w.heap.size,0,none⟩=some (.slice aa s.first.length ac)∧w1.drew.cell? ⟨w.heap.size,1,none⟩=some (.slice la s.log.length lc)∧w1.drew.cell? ⟨w.heap.size,2,none⟩=some (.slice na s.now.length nc)∧w1.heap.size≤w1.drew.heap.size∧Below w1.heap.size w1 w1.drew:=kpS ⟨x0,x1,x2,Nat.le_refl _,brf _⟩ (brf w1).drew
 have hB1:=Lib.hid hb1
 clear h1 h2 h3 x0 x1 x2 hb1
 go_enter Tryz.func92,Tryz.ntmps92
 go_upto_region 1 with fail
 rw [← hw1]
 clear hw1
 go_cut [7] (fun s7 wx=>s7=s7∧∃ B a' l' n',w1.heap.size≤B∧wx.heap[w.heap.size]?=some (.cells #[a',l',n'] 26 (0,0))∧wx.heap[w.heap.size+1]?=some (.cells #[.slice none 0 0,.slice none 0 0,.slice none 0 0] 26 (0,0))∧RItems (fun k=>w.heap.size+1 < k∧k < B) wx a' s.first∧RItems (fun k=>w.heap.size+1 < k∧k < B) wx n' s.now∧OwnS B 77 3 (REn fun k=>k < w.heap.size∧N k) wx l' s.log∧Below w.heap.size w wx)
 case first =>
  refine wp_region_B 10 (fun w'=>w'.cell? ⟨w.heap.size,0,none⟩=some (.slice aa s.first.length ac)∧w'.cell? ⟨w.heap.size,1,none⟩=some (.slice la s.log.length lc)∧w'.cell? ⟨w.heap.size,2,none⟩=some (.slice na s.now.length nc)∧w1.heap.size≤w'.heap.size∧Below w1.heap.size w1 w') (by kernel_rfl) ?_
  refine wpAnyB_take 0 (v:=.pointer (some ⟨w.heap.size,0,none⟩)) rfl (by kernel_rfl) (by kernel_rfl) (by kernel_rfl) (by kernel_rfl) (by kernel_rfl) (by decide) (fun _ _ _ h=>h) (Or.inl ⟨by rfl,fun w' hw'=>?_⟩) Q0 ?_
  ·(try dsimp only at hw');go_simp
  simp only [Act.put,List.setIfInBounds_toArray]
  refine wpAnyB_take 3 (v:=.pointer (some ⟨w.heap.size,2,none⟩)) rfl (by kernel_rfl) (by kernel_rfl) (by kernel_rfl) (by kernel_rfl) (by kernel_rfl) (by decide) (fun _ _ _ h=>h) (Or.inl ⟨by rfl,fun w' hw'=>?_⟩) Q0 ?_
  ·(try dsimp only at hw');go_simp
  simp only [Act.put]
  refine wpAnyB_take 6 (v:=.pointer (some ⟨w.heap.size,1,none⟩)) rfl (by kernel_rfl) (by kernel_rfl) (by kernel_rfl) (by kernel_rfl) (by kernel_rfl) (by decide) (fun _ _ _ h=>h) (Or.inl ⟨by rfl,fun w' hw'=>?_⟩) Q0 ?_
  ·(try dsimp only at hw');go_simp
  simp only [Act.put]
  refine wpAnyB_take 1 (v:=.slice aa s.first.length ac) rfl (by kernel_rfl) (by kernel_rfl) (by kernel_rfl) (by kernel_rfl) (by kernel_rfl) (by decide) (fun _ _ _ h=>h) (Or.inl ⟨by rfl,fun w' hw'=>?_⟩) Q0 ?_
  ·(try dsimp only at hw');go_simp
  simp only [Act.put]
  refine wpAnyB_take 4 (v:=.slice na s.now.length nc) rfl (by kernel_rfl) (by kernel_rfl) (by kernel_rfl) (by kernel_rfl) (by kernel_rfl) (by decide) (fun _ _ _ h=>h) (Or.inl ⟨by rfl,fun w' hw'=>?_⟩) Q0 ?_
  ·(try dsimp only at hw');go_simp
  simp only [Act.put]
  refine wpAnyB_take 7 (v:=.slice la s.log.length lc) rfl (by kernel_rfl) (by kernel_rfl) (by kernel_rfl) (by kernel_rfl) (by kernel_rfl) (by decide) (fun _ _ _ h=>h) (Or.inl ⟨by rfl,fun w' hw'=>?_⟩) Q0 ?_
  ·(try dsimp only at hw');go_simp
  simp only [Act.put]
  refine wpAnyB_step 2 rfl (by kernel_rfl) (fun K' hK'=>?_)
  rw [if_pos (by rfl)]
  go_simp
  go_at_call 84
  refine (C0.out _ (kpS_b Q0)).mono ?_
  rintro e wa ⟨ua,rfl,hra,hba⟩
  obtain ⟨aa',ca,rfl,_⟩:=RdS.len hra.rd
  have Qa:=kpS Q0 hba
  go_wp2_with fail
  refine hK'.out _ _ Qa ?_
  clear hK' K'
  refine wpAnyB_take 9 (v:=.pointer (some ⟨w.heap.size,0,none⟩)) rfl (by kernel_rfl) (by kernel_rfl) (by kernel_rfl) (by kernel_rfl) (by kernel_rfl) (by decide) (fun _ _ _ h=>h) (Or.inl ⟨by rfl,fun w' hw'=>?_⟩) Qa ?_
  ·(try dsimp only at hw');go_simp
  simp only [Act.put,List.setIfInBounds_toArray]
  refine wpAnyB_step 5 rfl (by kernel_rfl) (fun K' hK'=>?_)
  rw [if_pos (by rfl)]
  go_simp
  go_at_call 84
  refine (C2.out _ (kpS_b Qa)).mono ?_
  rintro e wb ⟨ub,rfl,hrb,hbb⟩
  obtain ⟨ab,cb,rfl,_⟩:=RdS.len hrb.rd
  have Qb:=kpS Qa hbb
  go_wp2_with fail
  refine hK'.out _ _ Qb ?_
  clear hK' K'
  refine wpAnyB_step 8 rfl (by kernel_rfl) (fun K' hK'=>?_)
  rw [if_pos (by rfl)]
  go_simp
  go_at_call 156
  refine (C1.out _ (kpS_b Qb)).mono ?_
  rintro e wc ⟨uc,rfl,hrc,hbc⟩
  obtain ⟨ac',cc,rfl,_⟩:=RdS.len hrc.rd
  have Qc:=kpS Qb hbc
  have hGc:=(((kpS_b Qb).trans (hbc.mono (kpS_z Qb))).block w.heap.size hlt1).trans hG1.out
  have hfc:∀ i,wc.frozen? ⟨w.heap.size,i,none⟩=false:=fun i=>Lib.frozen_of_heap hGc _
  have hwc:w.heap.size < wc.heap.size:=lt_of_heap hGc
  obtain ⟨y0,y1,y2⟩:=P3.of hGc
  go_wp2_with fail
  refine hK'.out _ _ Qc ?_
  clear hK' K'
  refine wpAnyB_last 10 rfl (by kernel_rfl) (by kernel_rfl) (fun K' hK'=>?_)
  rw [if_pos (by rfl)]
  go_simp
  refine hK'.out _ _ ?_
  clear hK' K'
  refine wpAnyB_last 11 rfl (by kernel_rfl) (by kernel_rfl) (fun K' hK'=>?_)
  rw [if_pos (by rfl)]
  go_simp
  refine hK'.out _ _ ?_
  clear hK' K'
  refine wpAnyB_last 12 rfl (by kernel_rfl) (by kernel_rfl) (fun K' hK'=>?_)
  rw [if_pos (by rfl)]
  go_simp
  refine hK'.out _ _ ?_
  clear hK' K'
  refine wpAnyB_last 13 rfl (by kernel_rfl) (by kernel_rfl) (fun K' hK'=>?_)
  rw [if_pos (by rfl)]
  go_simp
  refine hK'.out _ _ ?_
  clear hK' K'
  refine wpAnyB_last 14 rfl (by kernel_rfl) (by kernel_rfl) (fun K' hK'=>?_)
  rw [if_pos (by rfl)]
  go_simp
  refine hK'.out _ _ ?_
  clear hK' K'
  refine wpAnyB_done (by kernel_rfl) ?_ _
  go_wp2_with fail
  go_meet
  have hl2:=lt_of_heap hG2.out
  have z0:w1.heap.size≤wa.heap.size:=hba.size
  have z1:wa.heap.size≤wb.heap.size:=hbb.size
  have z2:wb.heap.size≤wc.heap.size:=hbc.size
  obtain ⟨s1,s2⟩:=set021 hGc (.slice aa' s.first.length ca) (.slice ab s.now.length cb) (.slice ac' s.log.length cc)
  have hcb:∀ k,k < wb.heap.size→k≠w.heap.size→_=wb.heap[k]?:=fun k hk hne=>(s2.same k (by omega) hne).trans (hbc.block k hk)
  have hab:∀ k,k < wa.heap.size→k≠w.heap.size→_=wa.heap[k]?:=fun k hk hne=>(hcb k (by omega) hne).trans (hbb.block k hk)
  refine ⟨trivial,wb.heap.size,_,_,_,Nat.le_trans z0 z1,s1, ?_, ?_, ?_, ?_, ?_⟩
  ·exact (hab _ (by omega) (by omega)).trans ((hba.block _ hl2).trans hG2.out)
  ·exact RItems.to hra.rd fun k h1 h2=>⟨by have h1':w1.heap.size≤k:=h1;exact ⟨by omega,by omega⟩,hab k h2 (by have h1':w1.heap.size≤k:=h1;omega)⟩
  ·exact RItems.to hrb.rd fun k h1 h2=>⟨by have h1':wa.heap.size≤k:=h1;exact ⟨by omega,by omega⟩,hcb k h2 (by have h1':wa.heap.size≤k:=h1;omega)⟩
  ·refine (OwnS.to hrc (fun k hk hl'=>s2.same k hl' ?_) fun cs x _ r=>REn.to r fun k h1 h2=>⟨⟨h1.1.2,h1.1.1⟩,s2.same k h2 (by have:=h1.1.2;omega)⟩)
   have:=(hrc.own_lt hk).1
   omega
  ·exact hB1.out.trans ((kpS_b Qc).mono hB1.out.size) |>.trans (s2.bel.mono (Nat.le_refl _))
 case rest =>
  obtain ⟨_,B,a',l',n',hwB,e0,e1,ra,rn,rl,hB⟩:=hcut
  have hlt2:w.heap.size+1 < w1.heap.size:=lt_of_heap hG2.out
  obtain ⟨a1,a2,rfl,_⟩:=RdS.len ra
  obtain ⟨n1,n2,rfl,_⟩:=RdS.len rn
  clear hG1 hG2 C0 C1 C2 Q0 hB1
  by_cases hne:s.log=[]
  ·obtain ⟨l1,l2,rfl,_⟩:=RdS.len rl.rd
   have ho1:=fun k (hk:(Value.slice l1 s.log.length l2).ownBlock=some k)=>(rl.own_lt hk).1
   have RA:=Lib.hid (RItems.to ra (Kp.weak wc fun k hk=>⟨by omega,fun he=>by have:=ho1 k he;omega,HN.out k (by omega)⟩):RItems (fun k=>k≠w.heap.size+1∧(Value.slice l1 s.log.length l2).ownBlock≠some k∧N k) wc _ s.first)
   have RN:=Lib.hid (RItems.to rn (Kp.weak wc fun k hk=>⟨by omega,fun he=>by have:=ho1 k he;omega,HN.out k (by omega)⟩):RItems (fun k=>k≠w.heap.size+1∧(Value.slice l1 s.log.length l2).ownBlock≠some k∧N k) wc _ s.now)
   have RL:=Lib.hid rl
   have hne':=Lib.hid hne
   have h0:s.log.length=0:=by simp [hne]
   rw [h0] at e0 RA RN RL
   have E0:=Lib.hid e0
   have E1:=Lib.hid e1
   clear rl ra rn e0 e1 hne h0
   obtain ⟨x0,x1,x2⟩:=P3.of E0.out
   obtain ⟨y0,y1,y2⟩:=P3.of E1.out
   have hfz:∀ i,wc.frozen? ⟨w.heap.size+1,i,none⟩=false:=fun i=>Lib.frozen_of_heap E1.out _
   have hz2:=lt_of_heap E1.out
   go_wp2
   refine wp_loop_rounds 1 ?_
   rw [rounds_succ]
   go_wp2
   obtain ⟨q1,q2⟩:=set012 E1.out (.slice a1 s.first.length a2) (.slice l1 0 l2) (.slice n1 s.now.length n2)
   generalize hwz:(((wc.setCell ⟨w.heap.size+1,0,none⟩ _).setCell ⟨w.heap.size+1,1,none⟩ _).setCell ⟨w.heap.size+1,2,none⟩ _)=wz at *
   obtain ⟨t0,t1,t2⟩:=P3.of q1
   exact bodyPost_ret (v:=.agg #[.slice a1 s.first.length a2,.slice l1 0 l2,.slice n1 s.now.length n2]) (by simp [results,Tryz.results92,go_sem,t0,t1,t2]) rfl ⟨_,_,_,rfl,RItems.to RA.out (fun i hi hl'=>⟨hi.2,q2.same i hl' hi.1⟩),OwnS.mono (OwnS.to RL.out (fun i hi hl'=>q2.same i hl' (by have:=(RL.out.own_lt hi).1;omega)) (fun cs y hy _=>by rw [hne'.out] at hy;simp at hy)) (by omega),RItems.to RN.out (fun i hi hl'=>⟨hi.2,q2.same i hl' hi.1⟩),hB.trans (q2.bel.mono (by omega))⟩
  ·obtain ⟨gb,cap,cur,rfl,hgb,hh⟩:=rl.shape hne
   have hoF:=Lib.hid (rl.to (fun _ _ _=>rfl) fun cs x _ r=>REn.to r (Kp.weak wc fun k hk=>⟨by omega,by omega,by omega,hk.2⟩):OwnS B 77 3 (REn fun k=>k≠gb∧k≠w.heap.size∧k≠w.heap.size+1∧N k) wc (.slice (some ⟨gb,0,none⟩) s.log.length cap) s.log)
   have RA:=Lib.hid (RItems.to ra (Kp.weak wc fun k hk=>⟨by omega,by omega,by omega,HN.out k (by omega)⟩):RItems (fun k=>k≠gb∧k≠w.heap.size∧k≠w.heap.size+1∧N k) wc _ s.first)
   have RN:=Lib.hid (RItems.to rn (Kp.weak wc fun k hk=>⟨by omega,by omega,by omega,HN.out k (by omega)⟩):RItems (fun k=>k≠gb∧k≠w.heap.size∧k≠w.heap.size+1∧N k) wc _ s.now)
   obtain ⟨x0,x1,x2⟩:=P3.of e0
   have E0:=Lib.hid e0
   have E1:=Lib.hid e1
   clear rl ra rn hh e0 e1 hne
   go_wp2
   go_loopw [20] (fun i wr=>∃ k:Nat,k≤s.log.length∧i=.int .i64 k∧OwnS B 77 3 (REn fun k=>k≠gb∧k≠w.heap.size∧k≠w.heap.size+1∧N k) wr (.slice (some ⟨gb,0,none⟩) s.log.length cap) s.log∧wr.heap[w.heap.size]?=some (.cells #[.slice a1 s.first.length a2,.slice (some ⟨gb,0,none⟩) s.log.length cap,.slice n1 s.now.length n2] 26 (0,0))∧wr.heap[w.heap.size+1]?=some (.cells #[.slice none 0 0,.slice none 0 0,.slice none 0 0] 26 (0,0))∧RItems (fun k=>k≠gb∧k≠w.heap.size∧k≠w.heap.size+1∧N k) wr (.slice a1 s.first.length a2) s.first∧RItems (fun k=>k≠gb∧k≠w.heap.size∧k≠w.heap.size+1∧N k) wr (.slice n1 s.now.length n2) s.now∧Below w.heap.size w wr) (fun i _=>s.log.length - (intOf i).toNat)
   case atStart=>exact ⟨0,Nat.zero_le _,rfl,hoF.out,E0.out,E1.out,RA.out,RN.out,hB⟩
   case round =>
    clear x0 x1 x2
    obtain ⟨k,hk,rfl,ho,e0,e1,ra,rn,hb⟩:=hrel
    have ho':=Lib.hid ho
    have E0:=Lib.hid e0
    have E1:=Lib.hid e1
    have RA:=Lib.hid ra
    have RN:=Lib.hid rn
    clear ho e0 e1 ra rn
    by_cases hlt:k < s.log.length
    ·obtain ⟨x,hx⟩:∃ x,s.log[k]?=some x:=⟨_,List.getElem?_eq_getElem hlt⟩
     obtain ⟨b,o,cs,e1',_,_,hat,ov,hcs,hr⟩:=ho'.out.rd.el k x hx
     cases e1'
     subst hcs
     obtain ⟨c0,c1,c2⟩:=hat.three
     obtain ⟨oa,oc,rfl,_⟩:=RdS.len hr
     simp only [Nat.zero_add] at c0 c1 c2
     have hbs:gb < wr.heap.size:=lt_of_cell c0
     have hgs:=lt_of_heap E0.out
     have hxm:=List.mem_of_getElem? hx
     clear hat
     go_upto_region 5 with fail
     refine name_world ?_
     intro ws hWs
     have hbw:Below wr.heap.size wr ws:=by rw [← hWs];exact bal (brf _) _
     have hBox:ws.heap[wr.heap.size]?=some (.cells #[.int .i64 x.client,.int .i64 x.seq,.slice oa x.o.length oc] 77 (0,0)):=by rw [← hWs];exact heap_at rfl
     obtain ⟨x0,x1,x2⟩:=P3.of ((hbw.block _ hgs).trans E0.out)
     obtain ⟨y0,y1,y2⟩:=P3.of hBox
     have Q0:ws.drew.cell? ⟨w.heap.size,1,none⟩=some (.slice (some ⟨gb,0,none⟩) s.log.length cap)∧ws.drew.cell? ⟨wr.heap.size,2,none⟩=some (.slice oa x.o.length oc):=⟨x1,y2⟩
     clear hWs
     refine wp_region_B 8 (fun w'=>w'.cell? ⟨w.heap.size,1,none⟩=some (.slice (some ⟨gb,0,none⟩) s.log.length cap)∧w'.cell? ⟨wr.heap.size,2,none⟩=some (.slice oa x.o.length oc)) (by kernel_rfl) ?_
     refine wpAnyB_take 0 (v:=.pointer (some ⟨w.heap.size,1,none⟩)) rfl (by kernel_rfl) (by kernel_rfl) (by kernel_rfl) (by kernel_rfl) (by kernel_rfl) (by decide) (fun _ _ _ h=>h) (Or.inl ⟨by rfl,fun w' hw'=>?_⟩) Q0 ?_
     ·(try dsimp only at hw');go_simp
     simp only [Act.put,List.setIfInBounds_toArray]
     refine wpAnyB_take 1 (v:=.slice (some ⟨gb,0,none⟩) s.log.length cap) rfl (by kernel_rfl) (by kernel_rfl) (by kernel_rfl) (by kernel_rfl) (by kernel_rfl) (by decide) (fun _ _ _ h=>h) (Or.inl ⟨by rfl,fun w' hw'=>?_⟩) Q0 ?_
     ·(try dsimp only at hw');go_simp
     simp only [Act.put]
     refine wpAnyB_take 2 (v:=.int .i64 k) rfl (by kernel_rfl) (by kernel_rfl) (by kernel_rfl) (by kernel_rfl) (by kernel_rfl) (by decide) (fun _ _ _ h=>h) (Or.inl ⟨by rfl,fun w' hw'=>?_⟩) Q0 ?_
     ·(try dsimp only at hw');go_simp
     simp only [Act.put]
     refine wpAnyB_take 3 (v:=.pointer (some ⟨wr.heap.size,2,none⟩)) rfl (by kernel_rfl) (by kernel_rfl) (by kernel_rfl) (by kernel_rfl) (by kernel_rfl) (by decide) (fun _ _ _ h=>h) (Or.inl ⟨by rfl,fun w' hw'=>?_⟩) Q0 ?_
     ·(try dsimp only at hw');go_simp
     simp only [Act.put]
     refine wpAnyB_take 4 (v:=.slice oa x.o.length oc) rfl (by kernel_rfl) (by kernel_rfl) (by kernel_rfl) (by kernel_rfl) (by kernel_rfl) (by decide) (fun _ _ _ h=>h) (Or.inl ⟨by rfl,fun w' hw'=>?_⟩) Q0 ?_
     ·(try dsimp only at hw');go_simp
     simp only [Act.put]
     refine wpAnyB_step 5 rfl (by kernel_rfl) (fun K' hK'=>?_)
     rw [if_pos (by rfl)]
     go_simp
     go_at_call 91
     refine (opCopy_any _ _ x.o _ (ROp.to hr (Kp.below hbw.drew)) (hO x hxm).1 (hO x hxm).2).mono ?_
     rintro e wd ⟨rd,rfl,hrd,hbd⟩
     obtain ⟨da,dc,rfl,_⟩:=RdS.len hrd
     have hbwd:Below wr.heap.size wr wd:=hbw.drew.trans (hbd.mono hbw.drew.size)
     obtain ⟨u0,u1,u2⟩:=P3.of ((hbwd.block _ hgs).trans E0.out)
     have hBd:=(hbd.block wr.heap.size (lt_of_heap hBox)).trans hBox
     obtain ⟨v0,v1,v2⟩:=P3.of hBd
     go_wp2_with fail
     refine hK'.out _ _ ⟨u1,v2⟩ ?_
     clear hK' K'
     refine wpAnyB_step 6 rfl (by kernel_rfl) (fun K' hK'=>?_)
     rw [if_pos (by rfl)]
     go_simp
     refine hK'.out _ _ ⟨u1,v2⟩ ?_
     clear hK' K'
     refine wpAnyB_step 7 rfl (by kernel_rfl) (fun K' hK'=>?_)
     rw [if_pos (by rfl)]
     go_simp
     refine hK'.out _ _ ⟨u1,v2⟩ ?_
     clear hK' K'
     have hg1s:=lt_of_heap E1.out
     have hBw:w1.heap.size≤gb:=Nat.le_trans hwB hgb
     have zws:wr.heap.size≤ws.heap.size:=hbw.size
     have hoW:=Lib.hid (ho'.out.below hbwd fun cs y _ r=>REn.to r (Kp.below hbwd))
     obtain ⟨_,_,cur2,e2,_,hh⟩:=hoW.out.shape (by intro e;rw [e] at hlt;simp at hlt)
     cases e2
     have f2:wd.frozen? ⟨gb,k * 3+2,none⟩=false:=Lib.frozen_of_heap hh _
     have c2':wd.cell? ⟨gb,k * 3+2,none⟩=some (.slice oa x.o.length oc):=(hbwd.cell (p:=⟨gb,k * 3+2,none⟩) hbs).trans c2
     have hgd:gb < wd.heap.size:=lt_of_heap hh
     have Rd:Hid (ROp (fun k=>k≠gb∧k≠w.heap.size∧k≠w.heap.size+1∧N k) (wd.setCell ⟨gb,k * 3+2,none⟩ (.slice da x.o.length dc)) (.slice da x.o.length dc) x.o):=Lib.hid (ROp.to hrd fun i h1 _=>by
      have h1':ws.heap.size≤i∨(i≠gb∧i≠w.heap.size∧i≠w.heap.size+1∧N i):=h1
      have hn:i≠gb∧i≠w.heap.size∧i≠w.heap.size+1∧N i:=by
       rcases h1' with h | h
       ·exact ⟨by omega,by omega,by omega,HN.out i (by omega)⟩
       ·exact h
      exact ⟨hn,heap_setCell_other wd _ i _ hn.1⟩)
     have hset:=Lib.hid (hoW.out.set hx (j:=2) (x':=x) (R':=REn (fun k=>k≠gb∧k≠w.heap.size∧k≠w.heap.size+1∧N k)) (by decide) (.slice da x.o.length dc) rfl (fun cs y _ r=>REn.to r fun i hi _=>⟨hi,heap_setCell_other _ _ i _ hi.1⟩) (fun cs hcs r=>by
      obtain ⟨ov',rfl,_⟩:=r
      exact ⟨_,rfl,Rd.out⟩))
     rw [set_self hx] at hset
     have hkeep:∀ i,i < wr.heap.size→i≠gb→(wd.setCell ⟨gb,k * 3+2,none⟩ (.slice da x.o.length dc)).heap[i]?=wr.heap[i]?:=fun i hi hne=>(heap_setCell_other wd _ i _ hne).trans (hbwd.block i hi)
     have E0':=Lib.hid ((hkeep _ hgs (by omega)).trans E0.out)
     have E1':=Lib.hid ((hkeep _ hg1s (by omega)).trans E1.out)
     have RA':=Lib.hid (RItems.to RA.out (fun i hi hl'=>⟨hi,hkeep i hl' hi.1⟩):RItems (fun k=>k≠gb∧k≠w.heap.size∧k≠w.heap.size+1∧N k) (wd.setCell ⟨gb,k * 3+2,none⟩ (.slice da x.o.length dc)) _ s.first)
     have RN':=Lib.hid (RItems.to RN.out (fun i hi hl'=>⟨hi,hkeep i hl' hi.1⟩):RItems (fun k=>k≠gb∧k≠w.heap.size∧k≠w.heap.size+1∧N k) (wd.setCell ⟨gb,k * 3+2,none⟩ (.slice da x.o.length dc)) _ s.now)
     have hbF:Below w.heap.size w (wd.setCell ⟨gb,k * 3+2,none⟩ (.slice da x.o.length dc)):=(hb.trans (hbwd.mono hb.size)).setCell (by show w.heap.size≤gb;omega) _
     clear hh hoW hrd hr hx Rd hkeep
     refine wpAnyB_last 8 rfl (by kernel_rfl) (by kernel_rfl) (fun K' hK'=>?_)
     rw [if_pos (by rfl)]
     go_simp
     refine hK'.out _ _ ?_
     clear hK' K'
     refine wpAnyB_done (by kernel_rfl) ?_ _
     go_wp2
     go_roundw
     case rel=>exact ⟨k+1,by omega,by go_num,hset.out,E0'.out,E1'.out,RA'.out,RN'.out,hbF⟩
     case measure=>simp [intOf];omega
    ·have hBw:w1.heap.size≤B:=hwB
     obtain rfl:k=s.log.length:=by omega
     obtain ⟨x0,x1,x2⟩:=P3.of E0.out
     obtain ⟨y0,y1,y2⟩:=P3.of E1.out
     have hfz:∀ i,wr.frozen? ⟨w.heap.size+1,i,none⟩=false:=fun i=>Lib.frozen_of_heap E1.out _
     have hz2:=lt_of_heap E1.out
     go_wp2
     obtain ⟨q1,q2⟩:=set012 E1.out (.slice a1 s.first.length a2) (.slice (some ⟨gb,0,none⟩) s.log.length cap) (.slice n1 s.now.length n2)
     generalize hwz:(((wr.setCell ⟨w.heap.size+1,0,none⟩ _).setCell ⟨w.heap.size+1,1,none⟩ _).setCell ⟨w.heap.size+1,2,none⟩ _)=wz at *
     obtain ⟨t0,t1,t2⟩:=P3.of q1
     exact bodyPost_ret (v:=.agg #[.slice a1 s.first.length a2,.slice (some ⟨gb,0,none⟩) s.log.length cap,.slice n1 s.now.length n2]) (by simp [results,Tryz.results92,go_sem,t0,t1,t2]) rfl ⟨_,_,_,rfl,RItems.to RA.out (fun i hi hl'=>⟨⟨by simp [Value.ownBlock];exact fun h=>hi.1 h.symm,hi.2.2.2⟩,q2.same i hl' hi.2.2.1⟩),OwnS.mono (OwnS.to ho'.out (fun i hi hl'=>q2.same i hl' (by have:=(ho'.out.own_lt hi).1;omega)) (fun cs y _ r=>REn.to r fun i hi hl'=>⟨⟨by simp [Value.ownBlock];exact fun h=>hi.1 h.symm,hi.2.2.2⟩,q2.same i hl' hi.2.2.1⟩)) (by omega),RItems.to RN.out (fun i hi hl'=>⟨⟨by simp [Value.ownBlock];exact fun h=>hi.1 h.symm,hi.2.2.2⟩,q2.same i hl' hi.2.2.1⟩),hb.trans (q2.bel.mono (by omega))⟩
set_option maxRecDepth 100000 in
set_option maxHeartbeats 4000000 in
theorem svTakeQ_N (N:Nat→Prop) (B:Nat) (a l n ov:Value) (s:Srv) (rev:Int) (x:En) (w:World) (hB:B≤w.heap.size) (h1:RItems (fun k=>l.ownBlock≠some k∧N k) w a s.first) (h2:OwnS B 77 3 (REn fun k=>l.ownBlock≠some k∧N k) w l s.log) (h3:RItems (fun k=>l.ownBlock≠some k∧N k) w n s.now) (g:ROp (fun k=>k < B∧N k) w ov x.o) (hN:∀ k,B≤k→N k) (hNT:∀ k,¬ N k→∃ xs fr T',w.heap[k]?=some (.cells xs T' fr)∧T'≠58) (h60:s.log.length≤60) :
  Calls Tryz.prog 196 #[.agg #[a,l,n],.int .i64 rev,.agg #[.int .i64 x.client,.int .i64 x.seq,ov]] w fun e w'=>∃ v',e=.returned (.tuple #[v',.int .i64 (takeQ s rev x).2])∧RSrv N w' v' (takeQ s rev x).1∧Below B w w':=by
 have HN:=Lib.hid hN
 have HNT:=Lib.hid hNT
 clear hN hNT
 obtain ⟨aa,ac,rfl,_⟩:=RdS.len h1
 obtain ⟨na,nc,rfl,_⟩:=RdS.len h3
 obtain ⟨la,lc,rfl,hlc⟩:=RdS.len h2.rd
 obtain ⟨oa,oc,rfl,_⟩:=RdS.len g
 obtain ⟨w1,hw1⟩:∃ w1,w1=((w.alloc (.cells #[.slice aa s.first.length ac,.slice la s.log.length lc,.slice na s.now.length nc] 26)).alloc (.cells #[.int .i64 x.client,.int .i64 x.seq,.slice oa x.o.length oc] 77)).alloc svZero:=⟨_,rfl⟩
 have hb1:Below w.heap.size w w1:=by rw [hw1];exact bal (bal (bal (brf w) _) _) _
 have hG:=Lib.hid (by rw [hw1];exact ((brf _).alloc (Nat.le_refl _) _ |>.block _ (by simp;omega)).trans (heap_at2 rfl):w1.heap[w.heap.size]?=some (.cells #[.slice aa s.first.length ac,.slice la s.log.length lc,.slice na s.now.length nc] 26 (0,0)))
 have hX:=Lib.hid (by rw [hw1];exact heap_at2 (by simp):w1.heap[w.heap.size+1]?=some (.cells #[.int .i64 x.client,.int .i64 x.seq,.slice oa x.o.length oc] 77 (0,0)))
 have hR:=Lib.hid (by rw [hw1];exact heap_at (by simp):w1.heap[w.heap.size+2]?=some svZero)
 have how:=fun k (hk:(Value.slice la s.log.length lc).ownBlock=some k)=>(h2.own_lt hk)
 have kpN:∀ {F:Nat→Prop},(∀ k,F k→(Value.slice la s.log.length lc).ownBlock≠some k∧N k)→Kp F (fun k=>(Value.slice la s.log.length lc).ownBlock≠some k∧k≠w.heap.size∧k≠w.heap.size+2∧N k) w w1:=fun {F} hF k hk hl=>⟨⟨(hF k hk).1,by omega,by omega,(hF k hk).2⟩,hb1.block k hl⟩
 have H1:=Lib.hid (RItems.to h1 (kpN fun k hk=>hk))
 have H3:=Lib.hid (RItems.to h3 (kpN fun k hk=>hk))
 have H2:=Lib.hid (OwnS.to h2 (fun k _ hl=>hb1.block k hl) (fun cs y _ r=>REn.to r (kpN fun k hk=>hk)))
 have HO:=Lib.hid (ROp.to g (kpN fun k hk=>⟨fun he=>by have:=(how k he).1;have:=hk.1;omega,hk.2⟩))
 have hz2:w.heap.size+2 < w1.heap.size:=lt_of_heap hR.out
 have hres:∃ r,Hid (takeQ s rev x=r):=⟨_,Lib.hid rfl⟩
 obtain ⟨⟨R1,R2⟩,hres⟩:=hres
 rw [hres.out]
 have hB1:=Lib.hid hb1
 have how':=Lib.hid how
 clear h1 h2 h3 g hb1 kpN how
 go_enter Tryz.func196,Tryz.ntmps196
 go_upto_region 1 with fail
 rw [← hw1]
 clear hw1
 obtain ⟨x0,x1,x2⟩:=P3.of hG.out
 obtain ⟨e0,e1,e2⟩:=P3.of hX.out
 obtain ⟨y0,y1,y2⟩:=P3.of hR.out
 have hfz:∀ i,w1.frozen? ⟨w.heap.size+2,i,none⟩=false:=fun i=>Lib.frozen_of_heap hR.out _
 by_cases c1:rev < 0∨(s.log.length:Int) < rev
 ·have hr:=hres.out
  rw [takeQ,if_pos c1] at hr
  cases hr
  have way:decide (rev < 0)=true∨(decide (rev < 0)=false∧decide ((s.log.length:Int) < rev)=true):=by
   simp only [decide_eq_true_eq,decide_eq_false_iff_not];omega
  clear hres c1
  rcases way with d1 | ⟨d1,d2⟩
  all_goals
   go_wp2
   obtain ⟨q1,q2⟩:=set012 hR.out (.slice none 0 0) (.slice none 0 0) (.slice none 0 0)
   generalize hwz:(((w1.setCell ⟨w.heap.size+2,0,none⟩ _).setCell ⟨w.heap.size+2,1,none⟩ _).setCell ⟨w.heap.size+2,2,none⟩ _)=wz at *
   obtain ⟨z0,z1,z2⟩:=P3.of q1
   exact bodyPost_ret (v:=.tuple #[.agg #[.slice none 0 0,.slice none 0 0,.slice none 0 0],.int .i64 6]) (by simp [results,Tryz.results196,go_sem,z0,z1,z2]) rfl ⟨_,rfl,RSrv.zero,(hB1.out.mono hB).trans (q2.bel.mono (by omega))⟩
 ·obtain ⟨r,rfl⟩:∃ r:Nat,rev=(r:Int):=⟨rev.toNat,by omega⟩
  have hrl:r≤s.log.length:=by omega
  have d1:decide ((r:Int) < 0)=false:=by simp only [decide_eq_false_iff_not];omega
  have d2:decide ((s.log.length:Int) < (r:Int))=false:=by simp only [decide_eq_false_iff_not];omega
  by_cases c2:s.log.length=60
  ·have hr:=hres.out
   rw [takeQ,if_neg c1,if_pos c2] at hr
   cases hr
   have d3:((s.log.length:Int) == 60)=true:=by simp [c2]
   clear hres c1 c2
   go_wp2
   obtain ⟨q1,q2⟩:=set012 hR.out (.slice none 0 0) (.slice none 0 0) (.slice none 0 0)
   generalize hwz:(((w1.setCell ⟨w.heap.size+2,0,none⟩ _).setCell ⟨w.heap.size+2,1,none⟩ _).setCell ⟨w.heap.size+2,2,none⟩ _)=wz at *
   obtain ⟨z0,z1,z2⟩:=P3.of q1
   exact bodyPost_ret (v:=.tuple #[.agg #[.slice none 0 0,.slice none 0 0,.slice none 0 0],.int .i64 2]) (by simp [results,Tryz.results196,go_sem,z0,z1,z2]) rfl ⟨_,rfl,RSrv.zero,(hB1.out.mono hB).trans (q2.bel.mono (by omega))⟩
  ·have hr:=hres.out
   rw [takeQ,if_neg c1,if_neg c2] at hr
   simp only [Int.toNat_natCast] at hr
   have hres2:=Lib.hid hr
   have d3:((s.log.length:Int) == 60)=false:=by simp;omega
   clear hres c1 c2 hr
   have HL:=Lib.hid (RLog.to (RdS.to H2.out.rd (by decide) (fun k _ _=>⟨trivial,rfl⟩) (fun cs y _ r=>REn.to r (Kp.weak w1 fun _ _=>trivial)):RLog (fun _=>True) w1 _ s.log) (Kp.weak w1 fun _ _=>trivial):RLog (fun _=>True) w1 (.slice la s.log.length lc) s.log)
   go_upto_region 6 with fail
   go_cut [34,35,36] (fun t34 t35 t36 wx=>wx=w1∧∃ da dc,t34=.slice da (s.log.length - r) dc∧t35=.int .i64 ((s.log.length - r:Nat):Int)∧t36=.int .i64 0∧Hid (RLog (fun _=>True) w1 (.slice da (s.log.length - r) dc) (s.log.drop r)))
   case first =>
    have hcap:s.log.length≤lc:=by obtain ⟨_,_,e,h1,_⟩:=H2.out.rd;cases e;exact h1
    by_cases hc:lc=r
    ·have hn:s.log.length=r:=by omega
     clear hcap
     have hd:Hid (RLog (fun _=>True) w1 (.slice la (s.log.length - r) 0) (s.log.drop r)):=Lib.hid (by rw [← hn,List.drop_length,Nat.sub_self];exact RdS.nilX)
     have hn':=Lib.hid hn
     clear hn
     go_wp2_with fail
     go_meet
     exact ⟨rfl,_,_,rfl,rfl,rfl,hd⟩
    ·obtain ⟨gb,rfl⟩:=H2.out.shape0 (by omega)
     have hd:=Lib.hid (RdS.dropC HL.out r hrl)
     rw [Nat.zero_add] at hd
     go_wp2_with fail
     go_meet
     exact ⟨rfl,_,_,rfl,rfl,rfl,hd⟩
   case rest =>
    obtain ⟨hwc,da,dc,rfl,rfl,rfl,HD⟩:=hcut
    subst hwc
    clear d1 d2 d3 HL x0 x1 x2 e0 e1 e2 y0 y1 y2 hfz
    have hg0:=lt_of_heap hG.out
    have hg1:=lt_of_heap hX.out
    go_wp2
    go_loopw [8,36] (fun ov i wr=>∃ k:Nat,k≤s.log.length - r∧i=.int .i64 k∧∃ O,ROp (fun k=>(Value.slice la s.log.length lc).ownBlock≠some k∧k≠w.heap.size∧k≠w.heap.size+2∧N k) wr ov O∧Hid (rebase x.o (s.log.drop r)=rebase O ((s.log.drop r).drop k))∧Below wc.heap.size wc wr) (fun _ i _=>s.log.length - r - (intOf i).toNat)
    case atStart=>exact ⟨0,Nat.zero_le _,rfl,x.o,HO.out,Lib.hid (by simp),brf _⟩
    case round =>
     obtain ⟨k,hk,rfl,O,hO,hf,hb⟩:=hrel
     obtain ⟨za,zc,rfl,_⟩:=RdS.len hO
     have hO':=Lib.hid hO
     clear hO
     by_cases hlt:k < s.log.length - r
     ·obtain ⟨y,hy⟩:∃ y,(s.log.drop r)[k]?=some y:=⟨_,List.getElem?_eq_getElem (by simp;omega)⟩
      obtain ⟨b,o,ev,e1,hr,c0,c1,c2⟩:=RLog.at HD.out hb hy
      subst e1
      obtain ⟨ya,yc,rfl,_⟩:=RdS.len hr
      have hst:=Lib.hid (rebase_step (o:=O) hy)
      have hbs:b < wr.heap.size:=lt_of_cell c0
      have hb0:Below wr.heap.size wr (wr.alloc (.cells #[.int .i64 y.client,.int .i64 y.seq,.slice ya y.o.length yc] 77)):=bal (brf wr) _
      have C:=Lib.hid (otTurn_any _ _ _ _ y.o O _ (ROp.to hr (Kp.below (btr hb hb0))) (ROp.to hO'.out (Kp.below hb0)))
      clear hr hy
      by_cases he:(turnP y.o O).2.2=0
      ·have hnx:Hid (rebase x.o (s.log.drop r)=rebase (turnP y.o O).2.1 ((s.log.drop r).drop (k+1))):=Lib.hid (by rw [hf.out,hst.out,if_neg (by simpa using he)])
       rw [he] at C
       clear he hst hf
       go_wp2_with fail
       refine C.out.mono ?_
       rintro e w3 ⟨r3,s3,rfl,_,hs3,hb3⟩
       have B3:=Lib.hid (btr (btr hb hb0) hb3)
       have hfr:=Lib.hid (ROp.to hs3 (show Kp _ (fun k=>(Value.slice la s.log.length lc).ownBlock≠some k∧k≠w.heap.size∧k≠w.heap.size+2∧N k) _ _ from fun k hk hl=>let z:=(frOwn (by decide) (OwnS.to H2.out (fun k _ hl=>B3.out.block k hl) (fun cs y _ r=>REn.to r (Kp.below B3.out))) ((B3.out.block _ hg0).trans hG.out) (by decide) ((B3.out.block _ hz2).trans hR.out) (by decide) (fun k hk=>by have:=(how'.out k hk).2;have:=hB1.out.size;have:=(btr hb hb0).size;omega) (by have:=(btr hb hb0).size;omega) (by have:=(btr hb hb0).size;omega)) k hk hl;⟨⟨z.1.1,z.1.2.1,z.1.2.2,frN HN.out HNT.out (fun j hj=>(B3.out.block j (Nat.lt_of_lt_of_le hj hB1.out.size)).trans (hB1.out.block j hj)) (Nat.le_trans hB (Nat.le_trans hB1.out.size (btr hb hb0).size)) hk⟩,z.2⟩))
       obtain ⟨ta,tc,rfl,_⟩:=RdS.len hs3
       clear hs3 hb3 C c0 c1 c2
       go_wp2
       go_roundw
       case rel=>exact ⟨k+1,by omega,by go_num,_,hfr.out,hnx,B3.out⟩
       case measure=>simp [intOf];omega
      ·have hnx:rebase x.o (s.log.drop r)=([],(turnP y.o O).2.2):=by rw [hf.out,hst.out,if_pos he]
       have hF:=hres2.out
       simp only [hnx] at hF
       rw [if_pos he] at hF
       cases hF
       have he':((turnP y.o O).2.2 != 0)=true:=by simpa using he
       clear he hst hf hnx hres2
       go_wp2_with fail
       refine C.out.mono ?_
       rintro e w3 ⟨r3,s3,rfl,_,hs3,hb3⟩
       have B3:=Lib.hid (btr (btr hb hb0) hb3)
       have Y:=Lib.hid ((B3.out.block _ hz2).trans hR.out)
       have hzr:=lt_of_heap Y.out
       have hfz:∀ i,w3.frozen? ⟨w.heap.size+2,i,none⟩=false:=fun i=>Lib.frozen_of_heap Y.out _
       obtain ⟨y0,y1,y2⟩:=P3.of Y.out
       clear hs3 hb3 C c0 c1 c2
       go_wp2
       obtain ⟨q1,q2⟩:=set012 Y.out (.slice none 0 0) (.slice none 0 0) (.slice none 0 0)
       generalize hwz:(((w3.setCell ⟨w.heap.size+2,0,none⟩ _).setCell ⟨w.heap.size+2,1,none⟩ _).setCell ⟨w.heap.size+2,2,none⟩ _)=wz at *
       obtain ⟨z0,z1,z2⟩:=P3.of q1
       exact bodyPost_ret (v:=.tuple #[.agg #[.slice none 0 0,.slice none 0 0,.slice none 0 0],.int .i64 (turnP y.o O).2.2]) (by simp [results,Tryz.results196,go_sem,z0,z1,z2]) rfl ⟨_,rfl,RSrv.zero,((hB1.out.mono hB).trans (B3.out.mono (Nat.le_trans hB hB1.out.size))).trans (q2.bel.mono (by omega))⟩
     ·obtain rfl:k=s.log.length - r:=by omega
      have hend:rebase x.o (s.log.drop r)=(O,0):=by rw [hf.out,List.drop_eq_nil_of_le (by simp),rebase]
      have hF:=hres2.out
      simp only [hend,ne_eq,not_true_eq_false,if_false] at hF
      have hR3:=Lib.hid hF
      clear hF hf hres2 hend
      have G':=Lib.hid ((hb.block _ hg0).trans hG.out)
      obtain ⟨x0,x1,x2⟩:=P3.of G'.out
      have C:=Lib.hid (opApply_any _ _ _ _ s.now O wr (RItems.to H3.out (Kp.below hb)) hO'.out)
      by_cases he:(applyP s.now O).2=0
      ·have hok:=Lib.hid (Applies.of he)
       have hF:=hR3.out
       rw [if_neg (by simpa using he)] at hF
       cases hF
       rw [he] at C
       clear he hR3
       go_wp2_with fail
       refine C.out.mono ?_
       rintro e w4 ⟨r4,rfl,hr4,hb4⟩
       have B4:=Lib.hid (btr hb hb4)
       have b4:=Lib.hid hb4
       have D4:=Lib.hid (RItems.to hr4 (fun k hk _=>⟨⟨fun he=>by have:=(how'.out k he).2;have:=hB1.out.size;have:=hb.size;have h':wr.heap.size≤k:=hk;omega,by have:=hb.size;have h':wr.heap.size≤k:=hk;omega,by have:=hb.size;have h':wr.heap.size≤k:=hk;omega,HN.out k (by have:=hb.size;have:=hB1.out.size;have h':wr.heap.size≤k:=hk;omega)⟩,rfl⟩):RItems (fun k=>(Value.slice la s.log.length lc).ownBlock≠some k∧k≠w.heap.size∧k≠w.heap.size+2∧N k) w4 r4 (applyP s.now O).1)
       obtain ⟨ra,rc,rfl,_⟩:=RdS.len hr4
       have G4:=Lib.hid ((B4.out.block _ hg0).trans hG.out)
       have X4:=Lib.hid ((B4.out.block _ hg1).trans hX.out)
       have O4:=Lib.hid (ROp.to hO'.out (Kp.below hb4))
       clear hr4 hb4 C x0 x1 x2 hb
       go_upto_region 17 with fail
       obtain ⟨x0,x1,x2⟩:=P3.of G4.out
       obtain ⟨e0,e1,e2⟩:=P3.of X4.out
       have Q0:w4.drew.cell? ⟨w.heap.size,1,none⟩=some (.slice la s.log.length lc)∧w4.drew.cell? ⟨w.heap.size+1,0,none⟩=some (.int .i64 x.client)∧w4.drew.cell? ⟨w.heap.size+1,1,none⟩=some (.int .i64 x.seq):=kpT ⟨x1,e0,e1⟩ (brf w4).drew
       have b40:Below w4.heap.size w4 w4.drew:=(brf w4).drew
       clear x0 x1 x2 e0 e1 e2
       refine wp_region_B 13 (fun w'=>w'.cell? ⟨w.heap.size,1,none⟩=some (.slice la s.log.length lc)∧w'.cell? ⟨w.heap.size+1,0,none⟩=some (.int .i64 x.client)∧w'.cell? ⟨w.heap.size+1,1,none⟩=some (.int .i64 x.seq)) (by kernel_rfl) ?_
       refine wpAnyT_take 6 0 (v:=.slice ra (applyP s.now O).1.length rc) rfl (by kernel_rfl) (by kernel_rfl) (by kernel_rfl) (by kernel_rfl) (by kernel_rfl) (by kernel_rfl) (by decide) (fun _ _ _ h=>h) (Or.inl ⟨by rfl,fun w' hw'=>?_⟩) Q0 ?_
       ·(try dsimp only at hw');go_simp
       simp only [Act.put,List.setIfInBounds_toArray]
       refine wpAnyT_take 6 1 (v:=.pointer (some ⟨w.heap.size,1,none⟩)) rfl (by kernel_rfl) (by kernel_rfl) (by kernel_rfl) (by kernel_rfl) (by kernel_rfl) (by kernel_rfl) (by decide) (fun _ _ _ h=>h) (Or.inl ⟨by rfl,fun w' hw'=>?_⟩) Q0 ?_
       ·(try dsimp only at hw');go_simp
       simp only [Act.put]
       refine wpAnyT_take 6 3 (v:=.pointer (some ⟨w.heap.size+1,0,none⟩)) rfl (by kernel_rfl) (by kernel_rfl) (by kernel_rfl) (by kernel_rfl) (by kernel_rfl) (by kernel_rfl) (by decide) (fun _ _ _ h=>h) (Or.inl ⟨by rfl,fun w' hw'=>?_⟩) Q0 ?_
       ·(try dsimp only at hw');go_simp
       simp only [Act.put]
       refine wpAnyT_take 6 5 (v:=.pointer (some ⟨w.heap.size+1,1,none⟩)) rfl (by kernel_rfl) (by kernel_rfl) (by kernel_rfl) (by kernel_rfl) (by kernel_rfl) (by kernel_rfl) (by decide) (fun _ _ _ h=>h) (Or.inl ⟨by rfl,fun w' hw'=>?_⟩) Q0 ?_
       ·(try dsimp only at hw');go_simp
       simp only [Act.put]
       refine wpAnyT_take 6 7 (v:=.slice za O.length zc) rfl (by kernel_rfl) (by kernel_rfl) (by kernel_rfl) (by kernel_rfl) (by kernel_rfl) (by kernel_rfl) (by decide) (fun _ _ _ h=>h) (Or.inl ⟨by rfl,fun w' hw'=>?_⟩) Q0 ?_
       ·(try dsimp only at hw');go_simp
       simp only [Act.put]
       refine wpAnyT_take 6 2 (v:=.slice la s.log.length lc) rfl (by kernel_rfl) (by kernel_rfl) (by kernel_rfl) (by kernel_rfl) (by kernel_rfl) (by kernel_rfl) (by decide) (fun _ _ _ h=>h) (Or.inl ⟨by rfl,fun w' hw'=>?_⟩) Q0 ?_
       ·(try dsimp only at hw');go_simp
       simp only [Act.put]
       refine wpAnyT_take 6 4 (v:=.int .i64 x.client) rfl (by kernel_rfl) (by kernel_rfl) (by kernel_rfl) (by kernel_rfl) (by kernel_rfl) (by kernel_rfl) (by decide) (fun _ _ _ h=>h) (Or.inl ⟨by rfl,fun w' hw'=>?_⟩) Q0 ?_
       ·(try dsimp only at hw');go_simp
       simp only [Act.put]
       refine wpAnyT_take 6 6 (v:=.int .i64 x.seq) rfl (by kernel_rfl) (by kernel_rfl) (by kernel_rfl) (by kernel_rfl) (by kernel_rfl) (by kernel_rfl) (by decide) (fun _ _ _ h=>h) (Or.inl ⟨by rfl,fun w' hw'=>?_⟩) Q0 ?_
       ·(try dsimp only at hw');go_simp
       simp only [Act.put]
       refine wpAnyT_take 6 12 (v:=.pointer (some ⟨w.heap.size,2,none⟩)) rfl (by kernel_rfl) (by kernel_rfl) (by kernel_rfl) (by kernel_rfl) (by kernel_rfl) (by kernel_rfl) (by decide) (fun _ _ _ h=>h) (Or.inl ⟨by rfl,fun w' hw'=>?_⟩) Q0 ?_
       ·(try dsimp only at hw');go_simp
       simp only [Act.put]
       refine wpAnyB_step 8 rfl (by kernel_rfl) (fun K' hK'=>?_)
       rw [if_pos (by rfl)]
       go_simp
       go_at_call 91
       refine (opCopy_any _ _ O _ (ROp.to O4.out (Kp.below b40)) (by have:=(chkOp_ok hok.out.op).len;omega) (fun p hp=>by have:=(chkOp_ok hok.out.op).i80 p hp;omega)).mono ?_
       rintro e w5 ⟨v5,rfl,hr5,hb5⟩
       have Q5:=kpT Q0 hb5
       obtain ⟨va,vc,rfl,_⟩:=RdS.len hr5
       go_wp2_with fail
       refine hK'.out _ _ Q5 ?_
       clear hK' K'
       refine wpAnyT_take 6 9 (v:=.agg #[.int .i64 x.client,.int .i64 x.seq,.slice va O.length vc]) rfl (by kernel_rfl) (by kernel_rfl) (by kernel_rfl) (by kernel_rfl) (by kernel_rfl) (by kernel_rfl) (by decide) (fun _ _ _ h=>h) (Or.inl ⟨by rfl,fun w' hw'=>?_⟩) Q5 ?_
       ·(try dsimp only at hw');go_simp
       simp only [Act.put,List.setIfInBounds_toArray]
       refine wpAnyB_step 10 rfl (by kernel_rfl) (fun K' hK'=>?_)
       rw [if_pos (by rfl)]
       go_simp
       have hb6:Below w5.heap.size w5 (w5.alloc (.cells #[.int .i64 x.client,.int .i64 x.seq,.slice va O.length vc] 77)):=bal (brf w5) _
       have Q6:=kpT Q5 hb6
       refine hK'.out _ _ Q6 ?_
       clear hK' K'
       have b46:Below w4.heap.size w4 (w5.alloc (.cells #[.int .i64 x.client,.int .i64 x.seq,.slice va O.length vc] 77)):=btr (btr b40 hb5) hb6
       have z46:=b46.size
       have zc4:=B4.out.size
       have zc:=hB1.out.size
       have O5:=Lib.hid (ROp.to hr5 (fun k hk hl=>⟨(by
        rcases hk with hk | hk
        ·have hk':w4.heap.size≤k:=hk
         exact ⟨fun he=>by have:=(how'.out k he).2;omega,by omega,by omega,HN.out k (by omega)⟩
        ·exact hk),hb6.block k hl⟩):ROp (fun k=>(Value.slice la s.log.length lc).ownBlock≠some k∧k≠w.heap.size∧k≠w.heap.size+2∧N k) (w5.alloc (.cells #[.int .i64 x.client,.int .i64 x.seq,.slice va O.length vc] 77)) (.slice va O.length vc) O)
       have hNew:(w5.alloc (.cells #[.int .i64 x.client,.int .i64 x.seq,.slice va O.length vc] 77)).heap[w5.heap.size]?=some (.cells #[.int .i64 x.client,.int .i64 x.seq,.slice va O.length vc] 77 (0,0)):=heap_new _ _
       have b6w:=b46
       generalize hw6:w5.alloc (.cells #[.int .i64 x.client,.int .i64 x.seq,.slice va O.length vc] 77)=w6 at *
       clear hw6
       have BB:=Lib.hid (btr B4.out b46)
       have own6:=Lib.hid (OwnS.to H2.out (fun k _ hl=>BB.out.block k hl) (fun cs y _ r=>REn.to r (Kp.below BB.out)))
       have G6:=Lib.hid ((BB.out.block _ hg0).trans hG.out)
       have X6:=Lib.hid ((BB.out.block _ hg1).trans hX.out)
       have Y6:=Lib.hid ((BB.out.block _ hz2).trans hR.out)
       refine wpAnyB_step 11 rfl (by kernel_rfl) (fun K' hK'=>?_)
       refine step_app rfl (.tmp 66) (.tmp 74) 24 rfl B 77 3 40 _ elLog (REn (fun k=>(Value.slice la s.log.length lc).ownBlock≠some k∧k≠w.heap.size∧k≠w.heap.size+2∧N k)) (.slice la s.log.length lc) s.log [⟨x.client,x.seq,O⟩] (by rfl) own6.out (fun _=>True) (.slice (some ⟨w5.heap.size,0,none⟩) 1 1) (by rfl) (RE_src hNew O5.out) (REn_one _) (by simp [maxLen];omega) (by simp;omega) (by omega) (fun w' hg cs y _ r=>REn.to r fun k hF hk=>⟨hF,hg.block k hk (Ne.symm hF.1)⟩) ?_
       intro v7 w7 ho7 hg7 hb7
       obtain ⟨ya,yc,rfl,_⟩:=RdS.len ho7.rd
       have hln:(s.log ++ [(⟨x.client,x.seq,O⟩:En)]).length=s.log.length+1:=by simp
       rw [hln] at ho7
       rw [hln]
       have G7:=Lib.hid ((hg7.block _ (lt_of_heap G6.out) (own6.out.ne G6.out (by decide))).trans G6.out)
       have X7:=Lib.hid ((hg7.block _ (lt_of_heap X6.out) (fun he=>by have:=(how'.out _ he.symm).2;omega)).trans X6.out)
       have Y7:=Lib.hid ((hg7.block _ (lt_of_heap Y6.out) (own6.out.ne Y6.out (by decide))).trans Y6.out)
       have ho7':=Lib.hid ho7
       have Q7:w7.cell? ⟨w.heap.size,1,none⟩=some (.slice la s.log.length lc)∧w7.cell? ⟨w.heap.size+1,0,none⟩=some (.int .i64 x.client)∧w7.cell? ⟨w.heap.size+1,1,none⟩=some (.int .i64 x.seq):=⟨(P3.of G7.out).2.1,(P3.of X7.out).1,(P3.of X7.out).2.1⟩
       have hfz:∀ i,w7.frozen? ⟨w.heap.size,i,none⟩=false:=fun i=>Lib.frozen_of_heap G7.out _
       have hz7:=lt_of_heap G7.out
       obtain ⟨t0,t1,t2⟩:=P3.of G7.out
       refine hK'.out _ _ Q7 ?_
       clear hK' K' ho7 Q0 Q5 Q6 Q7
       refine wpAnyB_last 13 rfl (by kernel_rfl) (by kernel_rfl) (fun K' hK'=>?_)
       rw [if_pos (by rfl)]
       go_simp
       refine hK'.out _ _ ?_
       clear hK' K'
       refine wpAnyB_last 14 rfl (by kernel_rfl) (by kernel_rfl) (fun K' hK'=>?_)
       rw [if_pos (by rfl)]
       go_simp
       refine hK'.out _ _ ?_
       clear hK' K'
       refine wpAnyB_last 15 rfl (by kernel_rfl) (by kernel_rfl) (fun K' hK'=>?_)
       rw [if_pos (by rfl)]
       go_simp
       refine hK'.out _ _ ?_
       clear hK' K'
       refine wpAnyB_done (by kernel_rfl) ?_ _
       have s12:=set21 G7.out (.slice ra (applyP s.now O).1.length rc) (.slice ya (s.log.length+1) yc)
       go_upto_region 18 with fail
       generalize hw8:((w7.setCell ⟨w.heap.size,2,none⟩ _).setCell ⟨w.heap.size,1,none⟩ _)=w8 at *
       clear hw8
       obtain ⟨s1,s2⟩:=s12
       have Y8:=Lib.hid ((s2.same _ (lt_of_heap Y7.out) (by omega)).trans Y7.out)
       obtain ⟨t0,t1,t2⟩:=P3.of s1
       obtain ⟨y0,y1,y2⟩:=P3.of Y8.out
       have hfz8:∀ i,w8.frozen? ⟨w.heap.size+2,i,none⟩=false:=fun i=>Lib.frozen_of_heap Y8.out _
       have hz8:=lt_of_heap Y8.out
       clear hfz
       go_wp2
       obtain ⟨q1,q2⟩:=set012 Y8.out (.slice aa s.first.length ac) (.slice ya (s.log.length+1) yc) (.slice ra (applyP s.now O).1.length rc)
       generalize hwz:(((w8.setCell ⟨w.heap.size+2,0,none⟩ _).setCell ⟨w.heap.size+2,1,none⟩ _).setCell ⟨w.heap.size+2,2,none⟩ _)=wz at *
       obtain ⟨z0,z1,z2⟩:=P3.of q1
       have k68:∀ k,(fun k=>(Value.slice la s.log.length lc).ownBlock≠some k∧k≠w.heap.size∧k≠w.heap.size+2∧N k) k→k < w6.heap.size→wz.heap[k]?=w6.heap[k]?:=fun k hk hl=>by
        have h7:=hg7.block k hl (Ne.symm hk.1)
        have l7:k < w7.heap.size:=Nat.lt_of_lt_of_le hl hb7.size
        have h8:=s2.same k l7 hk.2.1
        have l8:k < w8.heap.size:=Nat.lt_of_lt_of_le l7 s2.bel.size
        exact ((q2.same k l8 hk.2.2.1).trans h8).trans h7
       have kA:Kp (fun k=>(Value.slice la s.log.length lc).ownBlock≠some k∧k≠w.heap.size∧k≠w.heap.size+2∧N k) N wc wz:=fun k hF hk=>⟨hF.2.2.2,(k68 k hF (Nat.lt_of_lt_of_le hk BB.out.size)).trans (BB.out.block k hk)⟩
       have kN:Kp (fun k=>(Value.slice la s.log.length lc).ownBlock≠some k∧k≠w.heap.size∧k≠w.heap.size+2∧N k) N w4 wz:=fun k hF hk=>⟨hF.2.2.2,(k68 k hF (Nat.lt_of_lt_of_le hk b6w.size)).trans (b6w.block k hk)⟩
       have n7:=ho7'.out.ne G7.out (by decide)
       have n7':=ho7'.out.ne Y7.out (by decide)
       have kL:∀ k,k≠w.heap.size→k≠w.heap.size+2→k < w7.heap.size→wz.heap[k]?=w7.heap[k]?:=fun k h1 h2 hl=>(q2.same k (Nat.lt_of_lt_of_le hl s2.bel.size) h2).trans (s2.same k hl h1)
       have LZ:=OwnS.to ho7'.out (fun k hk hl=>kL k (fun e=>by subst e;exact n7 hk.symm) (fun e=>by subst e;exact n7' hk.symm) hl) (fun cs y _ r=>REn.to r (fun k hF hk=>⟨hF,kL k hF.2.1 hF.2.2.1 hk⟩))
       have RL:RLog N wz _ _:=RdS.to LZ.rd (by decide) (fun k hk _=>⟨HN.out k hk,rfl⟩) (fun cs y _ r=>REn.to r (Kp.weak wz fun _ h=>h.2.2.2))
       exact bodyPost_ret (v:=.tuple #[.agg #[.slice aa s.first.length ac,.slice ya (s.log.length+1) yc,.slice ra (applyP s.now O).1.length rc],.int .i64 0]) (by simp [results,Tryz.results196,go_sem,z0,z1,z2]) rfl ⟨_,rfl,⟨_,_,_,rfl,RItems.to H1.out kA,RL,RItems.to D4.out kN⟩,((((hB1.out.mono hB).trans (BB.out.mono (Nat.le_trans hB hB1.out.size))).trans hb7).trans (s2.bel.mono hB)).trans (q2.bel.mono (by omega))⟩
      ·have hF:=hR3.out
       rw [if_pos he] at hF
       cases hF
       have he':((applyP s.now O).2 != 0)=true:=by simpa using he
       clear he hR3
       go_wp2_with fail
       refine C.out.mono ?_
       rintro e w3 ⟨r3,rfl,hr3,hb3⟩
       have B3:=Lib.hid (btr hb hb3)
       have Y:=Lib.hid ((B3.out.block _ hz2).trans hR.out)
       have hzr:=lt_of_heap Y.out
       have hfz:∀ i,w3.frozen? ⟨w.heap.size+2,i,none⟩=false:=fun i=>Lib.frozen_of_heap Y.out _
       obtain ⟨y0,y1,y2⟩:=P3.of Y.out
       clear hr3 hb3 C x0 x1 x2
       go_wp2
       obtain ⟨q1,q2⟩:=set012 Y.out (.slice none 0 0) (.slice none 0 0) (.slice none 0 0)
       generalize hwz:(((w3.setCell ⟨w.heap.size+2,0,none⟩ _).setCell ⟨w.heap.size+2,1,none⟩ _).setCell ⟨w.heap.size+2,2,none⟩ _)=wz at *
       obtain ⟨z0,z1,z2⟩:=P3.of q1
       exact bodyPost_ret (v:=.tuple #[.agg #[.slice none 0 0,.slice none 0 0,.slice none 0 0],.int .i64 (applyP s.now O).2]) (by simp [results,Tryz.results196,go_sem,z0,z1,z2]) rfl ⟨_,rfl,RSrv.zero,((hB1.out.mono hB).trans (B3.out.mono (Nat.le_trans hB hB1.out.size))).trans (q2.bel.mono (by omega))⟩
set_option maxRecDepth 100000 in
set_option maxHeartbeats 4000000 in
theorem svTake_N (N:Nat→Prop) (v ov:Value) (s:Srv) (rev:Int) (x:En) (w:World) (h:RSrv N w v s) (g:ROp N w ov x.o) (hN:∀ k,w.heap.size≤k→N k) (hNT:∀ k,¬ N k→∃ xs fr T',w.heap[k]?=some (.cells xs T' fr)∧T'≠58) :
  Calls Tryz.prog 159 #[v,.int .i64 rev,.agg #[.int .i64 x.client,.int .i64 x.seq,ov]] w fun e w'=>∃ v',e=.returned (.tuple #[v',.int .i64 (takeP s rev x).2])∧RSrv N w' v' (takeP s rev x).1∧Below w.heap.size w w':=by
 have HN:=Lib.hid hN
 have HNT:=Lib.hid hNT
 clear hN hNT
 have g:=ROp.to g (Kp.lt w)
 obtain ⟨a,l,n,rfl,_⟩:=id h
 obtain ⟨aa,ac,la,lc,na,nc,rfl,rfl,rfl⟩:=rsrv_shape h
 obtain ⟨oa,oc,rfl,_⟩:=RdS.len g
 obtain ⟨w1,hw1⟩:∃ w1,w1=((w.alloc (.cells #[.slice aa s.first.length ac,.slice la s.log.length lc,.slice na s.now.length nc] 26)).alloc (.cells #[.int .i64 x.client,.int .i64 x.seq,.slice oa x.o.length oc] 77)).alloc svZero:=⟨_,rfl⟩
 have hb1:Below w.heap.size w w1:=by rw [hw1];exact bal (bal (bal (brf w) _) _) _
 have hG:=Lib.hid (by rw [hw1];exact ((brf _).alloc (Nat.le_refl _) _ |>.block _ (by simp;omega)).trans (heap_at2 rfl):w1.heap[w.heap.size]?=some (.cells #[.slice aa s.first.length ac,.slice la s.log.length lc,.slice na s.now.length nc] 26 (0,0)))
 have hX:=Lib.hid (by rw [hw1];exact heap_at2 (by simp):w1.heap[w.heap.size+1]?=some (.cells #[.int .i64 x.client,.int .i64 x.seq,.slice oa x.o.length oc] 77 (0,0)))
 have hR:=Lib.hid (by rw [hw1];exact heap_at (by simp):w1.heap[w.heap.size+2]?=some svZero)
 have hg0:=lt_of_heap hG.out
 have hg1:=lt_of_heap hX.out
 have hz2:=lt_of_heap hR.out
 have HV:=Lib.hid (RSrv.to h (Kp.below hb1))
 have HO:=Lib.hid (ROp.to g (Kp.below hb1))
 have hres:∃ r,Hid (takeP s rev x=r):=⟨_,Lib.hid rfl⟩
 obtain ⟨⟨R1,R2⟩,hres⟩:=hres
 rw [hres.out]
 have hB1:=Lib.hid hb1
 clear h g hb1
 go_enter Tryz.func159,Tryz.ntmps159
 go_upto_region 1 with fail
 rw [← hw1]
 clear hw1
 obtain ⟨x0,x1,x2⟩:=P3.of hG.out
 go_wp2_with fail
 refine (svCheck_any _ _ s w1 HV.out).mono ?_
 rintro e w2 ⟨rfl,B2⟩
 clear x0 x1 x2
 by_cases c1:chkSrv s=0
 ·have hr:=hres.out
  rw [takeP,if_neg (by simpa using c1)] at hr
  have hok:=Lib.hid (SrvOk.of c1)
  rw [c1]
  clear c1 hres
  have X:=Lib.hid ((B2.block _ hg1).trans hX.out)
  obtain ⟨e0,e1,e2⟩:=P3.of X.out
  go_wp2_with fail
  refine (svEntry_any _ _ x w2 (ROp.to HO.out (Kp.below B2))).mono ?_
  rintro e w3 ⟨rfl,hb3⟩
  have B3:=btr B2 hb3
  clear hb3 X e0 e1 e2
  by_cases c2:chkEn x=0
  ·rw [if_neg (by simpa using c2)] at hr
   have hres:=Lib.hid hr
   rw [c2]
   clear hr c2
   have G:=Lib.hid ((B3.block _ hg0).trans hG.out)
   obtain ⟨x0,x1,x2⟩:=P3.of G.out
   obtain ⟨l1,l2,l3,l4⟩:=hok.out.lens
   have C:=Lib.hid (svCopy_N N _ s w3 (RSrv.to HV.out (Kp.below B3)) (fun k hk=>HN.out k (Nat.le_trans (Nat.le_trans hB1.out.size B3.size) hk)) l1 l2 (by omega) l4)
   have l60:=Lib.hid l3
   clear l1 l2 l3 l4 B2
   go_wp2_with fail
   refine C.out.mono ?_
   rintro e w4 ⟨a',l',n',rfl,ra,rl,rn,hb4⟩
   have B4:=btr B3 hb4
   obtain ⟨ba,bc,rfl,_⟩:=RdS.len ra
   obtain ⟨ma,mc,rfl,_⟩:=RdS.len rl.rd
   obtain ⟨pa,pc,rfl,_⟩:=RdS.len rn
   clear C x0 x1 x2 G
   have z3:=B3.size
   have zN:w.heap.size≤w3.heap.size:=Nat.le_trans hB1.out.size B3.size
   have z4:=hb4.size
   have G:=Lib.hid ((B4.block _ hg0).trans hG.out)
   have Y4:=Lib.hid ((B4.block _ hz2).trans hR.out)
   have how:=fun k (hk:(Value.slice ma s.log.length mc).ownBlock=some k)=>(rl.own_lt hk).1
   have ng:=NoIt.of3 ⟨_,_,_,rfl⟩ ⟨_,_,_,rfl⟩ ⟨_,_,_,rfl⟩ G.out
   have ny:=NoIt.of3 ⟨_,_,_,rfl⟩ ⟨_,_,_,rfl⟩ ⟨_,_,_,rfl⟩ Y4.out
   have RA:=Lib.hid (RItems.ne (RItems.ne ra ng) ny)
   have RN:=Lib.hid (RItems.ne (RItems.ne rn ng) ny)
   have RL:=Lib.hid (OwnS.to rl (fun _ _ _=>rfl) (fun cs y _ r=>REn.ne (REn.ne r ng) ny))
   have hfz:∀ i,w4.frozen? ⟨w.heap.size,i,none⟩=false:=fun i=>Lib.frozen_of_heap G.out _
   have hzz:=lt_of_heap G.out
   obtain ⟨x0,x1,x2⟩:=P3.of G.out
   clear ra rl rn
   go_upto_region 8 with fail
   have q12:=set012 G.out (.slice ba s.first.length bc) (.slice ma s.log.length mc) (.slice pa s.now.length pc)
   generalize hw5:(((w4.setCell ⟨w.heap.size,0,none⟩ _).setCell ⟨w.heap.size,1,none⟩ _).setCell ⟨w.heap.size,2,none⟩ _)=w5 at *
   clear hw5 hfz hzz x0 x1 x2 G
   obtain ⟨q1,q2⟩:=q12
   have G5:=Lib.hid q1
   have B5:Below w.heap.size w w5:=(btr hB1.out B4).trans q2.bel
   have k5:∀ k,k < w4.heap.size→k≠w.heap.size→w5.heap[k]?=w4.heap[k]?:=fun k h1 h2=>q2.same k h1 h2
   have z5:=q2.bel.size
   have X5:=Lib.hid ((k5 _ (Nat.lt_of_lt_of_le hg1 B4.size) (by omega)).trans ((B4.block _ hg1).trans hX.out))
   have Y5:=Lib.hid ((k5 _ (Nat.lt_of_lt_of_le hz2 B4.size) (by omega)).trans Y4.out)
   have RA5:=Lib.hid (RItems.to RA.out (fun k hk hl=>⟨⟨hk.1.1,hk.2⟩,k5 k hl hk.1.2⟩):RItems (fun k=>((Value.slice ma s.log.length mc).ownBlock≠some k∧N k)∧k≠w.heap.size+2) w5 _ s.first)
   have RN5:=Lib.hid (RItems.to RN.out (fun k hk hl=>⟨⟨hk.1.1,hk.2⟩,k5 k hl hk.1.2⟩):RItems (fun k=>((Value.slice ma s.log.length mc).ownBlock≠some k∧N k)∧k≠w.heap.size+2) w5 _ s.now)
   have RL5:=Lib.hid (OwnS.to RL.out (fun k hk hl=>k5 k hl (fun he=>by have:=how k hk;omega)) (fun cs y _ r=>REn.to r (fun k hk hl=>⟨⟨hk.1.1,hk.2⟩,k5 k hl hk.1.2⟩)):OwnS w3.heap.size 77 3 (REn (fun k=>((Value.slice ma s.log.length mc).ownBlock≠some k∧N k)∧k≠w.heap.size+2)) w5 _ s.log)
   have HO5:=Lib.hid (ROp.to HO.out (fun k hk hl=>⟨⟨by have:=hk.2;omega,hk.1⟩,(k5 k (Nat.lt_of_lt_of_le hl B4.size) (by have:=hk.2;omega)).trans (B4.block k hl)⟩)  :ROp (fun k=>k < w3.heap.size∧N k) w5 _ x.o)
   have zw:=hB1.out.size
   have hw35:w3.heap.size≤w5.heap.size:=by omega
   clear RA RN RL q1 q2 how ng ny Y4 k5 B4 hb4 B3
   obtain ⟨x0,x1,x2⟩:=P3.of G5.out
   obtain ⟨e0,e1,e2⟩:=P3.of X5.out
   have SV:Hid (RSrv N w5 (.agg #[.slice ba s.first.length bc,.slice ma s.log.length mc,.slice pa s.now.length pc]) s):=Lib.hid ⟨_,_,_,rfl,RItems.to RA5.out (Kp.weak w5 fun _ h=>h.1.2),RdS.to RL5.out.rd (by decide) (fun k hk _=>⟨HN.out k (Nat.le_trans zN hk),rfl⟩) (fun cs y _ r=>REn.to r (Kp.weak w5 fun _ h=>h.1.2)),RItems.to RN5.out (Kp.weak w5 fun _ h=>h.1.2)⟩
   have C:=Lib.hid (svHas_any _ _ s x.client x.seq w5 SV.out)
   by_cases c3:hasP s.log x.client x.seq=true
   ·have hr:=hres.out
    rw [if_pos c3] at hr
    cases hr
    rw [c3] at C
    clear c3 hres
    go_wp2_with fail
    refine C.out.mono ?_
    rintro e w6 ⟨rfl,hb6⟩
    have g5:=lt_of_heap G5.out
    have G:=Lib.hid ((hb6.block _ g5).trans G5.out)
    have Y:=Lib.hid ((hb6.block _ (lt_of_heap Y5.out)).trans Y5.out)
    clear x0 x1 x2 e0 e1 e2 C
    obtain ⟨x0,x1,x2⟩:=P3.of G.out
    obtain ⟨y0,y1,y2⟩:=P3.of Y.out
    have hfz:∀ i,w6.frozen? ⟨w.heap.size+2,i,none⟩=false:=fun i=>Lib.frozen_of_heap Y.out _
    have hzz:=lt_of_heap Y.out
    have SV6:=Lib.hid (RSrv.ne (RSrv.to SV.out (Kp.below hb6)) (NoIt.of3 ⟨_,_,_,rfl⟩ ⟨_,_,_,rfl⟩ ⟨_,_,_,rfl⟩ Y.out))
    go_wp2
    obtain ⟨q1,q2⟩:=set012 Y.out (.slice ba s.first.length bc) (.slice ma s.log.length mc) (.slice pa s.now.length pc)
    generalize hwz:(((w6.setCell ⟨w.heap.size+2,0,none⟩ _).setCell ⟨w.heap.size+2,1,none⟩ _).setCell ⟨w.heap.size+2,2,none⟩ _)=wz at *
    obtain ⟨z0,z1,z2⟩:=P3.of q1
    exact bodyPost_ret (v:=.tuple #[.agg #[.slice ba s.first.length bc,.slice ma s.log.length mc,.slice pa s.now.length pc],.int .i64 0]) (by simp [results,Tryz.results159,go_sem,z0,z1,z2]) rfl ⟨_,rfl,RSrv.to SV6.out (fun k hk hl=>⟨hk.1,q2.same k hl hk.2⟩),(btr B5 hb6).trans (q2.bel.mono (by omega))⟩
   ·have hr:=hres.out
    rw [if_neg c3] at hr
    have c3':hasP s.log x.client x.seq=false:=by simpa using c3
    rw [c3'] at C
    have hres2:=Lib.hid hr
    clear c3 c3' hres hr
    go_wp2_with fail
    refine C.out.mono ?_
    rintro e w6 ⟨rfl,hb6⟩
    have G:=Lib.hid ((hb6.block _ (lt_of_heap G5.out)).trans G5.out)
    have X:=Lib.hid ((hb6.block _ (lt_of_heap X5.out)).trans X5.out)
    clear x0 x1 x2 e0 e1 e2 C
    obtain ⟨x0,x1,x2⟩:=P3.of G.out
    obtain ⟨e0,e1,e2⟩:=P3.of X.out
    have C:=Lib.hid (svTakeQ_N N w3.heap.size _ _ _ _ s rev x w6 (Nat.le_trans hw35 hb6.size) (RItems.to RA5.out (fun k hk hl=>⟨hk.1,hb6.block k hl⟩)) (OwnS.to RL5.out (fun k _ hl=>hb6.block k hl) (fun cs y _ r=>REn.to r (fun k hk hl=>⟨hk.1,hb6.block k hl⟩))) (RItems.to RN5.out (fun k hk hl=>⟨hk.1,hb6.block k hl⟩)) (ROp.to HO5.out (Kp.below hb6)) (fun k hk=>HN.out k (Nat.le_trans zN hk)) (fun k hk=>by obtain ⟨xs,fr,T',e1,e2⟩:=HNT.out k hk;exact ⟨xs,fr,T',((btr B5 hb6).block k (lt_of_heap e1)).trans e1,e2⟩) l60.out)
    rw [hres2.out] at C
    clear hres2
    go_wp2_with fail
    refine C.out.mono ?_
    rintro e w7 ⟨v7,rfl,hr7,hb7⟩
    obtain ⟨a7,l7,n7,rfl,_⟩:=id hr7
    obtain ⟨aa7,ac7,la7,lc7,na7,nc7,rfl,rfl,rfl⟩:=rsrv_shape hr7
    have y5:=lt_of_heap Y5.out
    have Y:=Lib.hid ((hb7.block _ (show w.heap.size+2 < w3.heap.size by omega)).trans ((hb6.block _ y5).trans Y5.out))
    have hfz:∀ i,w7.frozen? ⟨w.heap.size+2,i,none⟩=false:=fun i=>Lib.frozen_of_heap Y.out _
    have hzz:=lt_of_heap Y.out
    have SV7:=Lib.hid (RSrv.ne hr7 (NoIt.of3 ⟨_,_,_,rfl⟩ ⟨_,_,_,rfl⟩ ⟨_,_,_,rfl⟩ Y.out))
    clear x0 x1 x2 e0 e1 e2 C hr7
    obtain ⟨y0,y1,y2⟩:=P3.of Y.out
    go_wp2
    obtain ⟨q1,q2⟩:=set012 Y.out (.slice aa7 R1.first.length ac7) (.slice la7 R1.log.length lc7) (.slice na7 R1.now.length nc7)
    generalize hwz:(((w7.setCell ⟨w.heap.size+2,0,none⟩ _).setCell ⟨w.heap.size+2,1,none⟩ _).setCell ⟨w.heap.size+2,2,none⟩ _)=wz at *
    obtain ⟨z0,z1,z2⟩:=P3.of q1
    exact bodyPost_ret (v:=.tuple #[.agg #[.slice aa7 R1.first.length ac7,.slice la7 R1.log.length lc7,.slice na7 R1.now.length nc7],.int .i64 R2]) (by simp [results,Tryz.results159,go_sem,z0,z1,z2]) rfl ⟨_,rfl,RSrv.to SV7.out (fun k hk hl=>⟨hk.1,q2.same k hl hk.2⟩),((btr B5 hb6).trans (hb7.mono (by omega))).trans (q2.bel.mono (by omega))⟩
  ·rw [if_pos c2] at hr
   cases hr
   have d1:(chkEn x != 0)=true:=by simpa using c2
   clear c2
   have Y:=Lib.hid ((B3.block _ hz2).trans hR.out)
   have hfz:∀ i,w3.frozen? ⟨w.heap.size+2,i,none⟩=false:=fun i=>Lib.frozen_of_heap Y.out _
   have hzz:=lt_of_heap Y.out
   obtain ⟨y0,y1,y2⟩:=P3.of Y.out
   go_wp2
   obtain ⟨q1,q2⟩:=set012 Y.out (.slice none 0 0) (.slice none 0 0) (.slice none 0 0)
   generalize hwz:(((w3.setCell ⟨w.heap.size+2,0,none⟩ _).setCell ⟨w.heap.size+2,1,none⟩ _).setCell ⟨w.heap.size+2,2,none⟩ _)=wz at *
   obtain ⟨z0,z1,z2⟩:=P3.of q1
   exact bodyPost_ret (v:=.tuple #[.agg #[.slice none 0 0,.slice none 0 0,.slice none 0 0],.int .i64 (chkEn x)]) (by simp [results,Tryz.results159,go_sem,z0,z1,z2]) rfl ⟨_,rfl,RSrv.zero,(btr hB1.out B3).trans (q2.bel.mono (by omega))⟩
 ·have hr:=hres.out
  rw [takeP,if_pos c1] at hr
  cases hr
  have d1:(chkSrv s != 0)=true:=by simpa using c1
  clear c1 hres
  have Y:=Lib.hid ((B2.block _ hz2).trans hR.out)
  have hfz:∀ i,w2.frozen? ⟨w.heap.size+2,i,none⟩=false:=fun i=>Lib.frozen_of_heap Y.out _
  have hzz:=lt_of_heap Y.out
  obtain ⟨y0,y1,y2⟩:=P3.of Y.out
  go_wp2
  obtain ⟨q1,q2⟩:=set012 Y.out (.slice none 0 0) (.slice none 0 0) (.slice none 0 0)
  generalize hwz:(((w2.setCell ⟨w.heap.size+2,0,none⟩ _).setCell ⟨w.heap.size+2,1,none⟩ _).setCell ⟨w.heap.size+2,2,none⟩ _)=wz at *
  obtain ⟨z0,z1,z2⟩:=P3.of q1
  exact bodyPost_ret (v:=.tuple #[.agg #[.slice none 0 0,.slice none 0 0,.slice none 0 0],.int .i64 (chkSrv s)]) (by simp [results,Tryz.results159,go_sem,z0,z1,z2]) rfl ⟨_,rfl,RSrv.zero,(btr hB1.out B2).trans (q2.bel.mono (by omega))⟩
end Go.Proofs.YteikncnldbdfmaaGreatDoor
