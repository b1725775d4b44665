import Derived.Test.YteikncnldbdfmaaGreatDoorMWdJ
namespace Go.Mh
open Go.RowKit
def ManR (rows:List Value) (k:Nat):Prop:=∃ q ∈ rows,q.ownBlock=some k
end Go.Mh
namespace Go.Proofs.YteikncnldbdfmaaGreatDoor
open Go.RowKit Go.Mh
structure QsAt (B:Nat) (N:Nat→Prop) (w:World) (u:Value) (us rest:List Value) (L:List (List Msg)):Prop where
 row:OwnS B TS 1 RVal1 w u (us ++ rest)
 el:∀ (i:Nat) q x,us[i]?=some q→L[i]?=some x→OwnS B TM 4 (RMsg fun k=>N k∧¬ ManR (u :: us) k) w q x
 ap:(u :: us).Pairwise Apart
 ln:us.length≤L.length
theorem QsAt.cells {B:Nat} {N:Nat→Prop} {w:World} {u:Value} {us rest:List Value} {L:List (List Msg)} (h:QsAt B N w u us rest L) {k:Nat} (hk:ManR (u :: us) k):B≤k∧∃ xs T,w.heap[k]?=some (.cells xs T (0,0))∧(T=TS∨T=TM):=by
 obtain ⟨q,hq,hk⟩:=hk
 rcases List.mem_cons.1 hq with rfl | hq
 ·obtain ⟨a,xs,b⟩:=h.row.cells hk
  exact ⟨a,xs,_,b,Or.inl rfl⟩
 ·obtain ⟨i,hi⟩:=List.mem_iff_getElem?.1 hq
  have hlt:i < L.length:=Nat.lt_of_lt_of_le (List.getElem?_eq_some_iff.1 hi).1 h.ln
  obtain ⟨a,xs,b⟩:=(h.el i q _ hi (List.getElem?_eq_getElem hlt)).cells hk
  exact ⟨a,xs,_,b,Or.inr rfl⟩
theorem QsAt.lt {B:Nat} {N:Nat→Prop} {w:World} {u:Value} {us rest:List Value} {L:List (List Msg)} (h:QsAt B N w u us rest L) {k:Nat} (hk:ManR (u :: us) k):B≤k∧k < w.heap.size:=by
 obtain ⟨a,xs,T,e,_⟩:=h.cells hk
 exact ⟨a,lt_of_heap e⟩
theorem QsAt.below {B:Nat} {N:Nat→Prop} {w w':World} {u:Value} {us rest:List Value} {L:List (List Msg)} (h:QsAt B N w u us rest L) (hb:Below w.heap.size w w'):QsAt B N w' u us rest L:=
 ⟨h.row.below hb (fun _ _ _ r=>r),fun i q x h1 h2=>(h.el i q x h1 h2).below hb (fun _ _ _ r=>RMsg.to r (Kp.below hb)),h.ap,h.ln⟩
theorem QsAt.push {B gu n cap:Nat} {N:Nat→Prop} {w w1:World} {q0 c:Value} {us rest:List Value} {L:List (List Msg)} {x:List Msg} (h:QsAt B N w (.slice (some ⟨gu,0,none⟩) n cap) us (q0 :: rest) L) (hx:L[us.length]?=some x) (hB:B≤w.heap.size)
  (hc:OwnS w.heap.size TM 4 (RMsg fun i=>(N i∧i < B)∧i < w.heap.size) w1 c x) (hb:Below w.heap.size w w1):QsAt B N (w1.setCell ⟨gu,us.length,none⟩ c) (.slice (some ⟨gu,0,none⟩) n cap) (us ++ [c]) rest L:=by
 have hxl:=(List.getElem?_eq_some_iff.1 hx).1
 have hgu:(Value.slice (some ⟨gu,0,none⟩) n cap).ownBlock=some gu:=rfl
 have hgl:=h.lt (k:=gu) ⟨_,by simp,hgu⟩
 have hcl:∀ k,c.ownBlock=some k→w.heap.size≤k∧k < w1.heap.size:=fun k hk=>hc.own_lt hk
 have hone:c.oneCell'=true:=by obtain ⟨_,_,rfl,_⟩:=RdS.len hc.rd;rfl
 have hst:∀ k,k≠gu→(w1.setCell ⟨gu,us.length,none⟩ c).heap[k]?=w1.heap[k]?:=fun k hk=>heap_setCell_other w1 _ k c hk
 have hman:∀ k,ManR (.slice (some ⟨gu,0,none⟩) n cap :: (us ++ [c])) k→ManR (.slice (some ⟨gu,0,none⟩) n cap :: us) k∨w.heap.size≤k:=fun k hk=>by
  obtain ⟨q,hq,hk⟩:=hk
  simp only [List.mem_cons,List.mem_append,List.not_mem_nil,or_false] at hq
  rcases hq with rfl | hq | rfl
  ·exact Or.inl ⟨_,by simp,hk⟩
  ·exact Or.inl ⟨q,by simp [hq],hk⟩
  ·exact Or.inr (hcl k hk).1
 have hmB:∀ k,ManR (.slice (some ⟨gu,0,none⟩) n cap :: (us ++ [c])) k→B≤k:=fun k hk=>by
  rcases hman k hk with hk | hk
  ·exact (h.lt hk).1
  ·omega
 refine ⟨?_,fun i q y hq hy=>?_, ?_,by simp;omega⟩
 ·have h1:=h.row.below hb (fun _ _ _ r=>r)
  have h2:=h1.set (k:=us.length) (j:=0) (x:=q0) (x':=c) (R':=RVal1) (by simp) (by decide) c hone (fun _ _ _ r=>r) (fun cs hl r=>by obtain ⟨rfl,_⟩:=r;exact ⟨rfl,hone⟩)
  have e:(us ++ q0 :: rest).set us.length c=us ++ [c] ++ rest:=by
   rw [List.set_append_right _ _ (Nat.le_refl _)]
   simp
  rw [e] at h2
  simpa using h2
 ·rcases Nat.lt_or_ge i us.length with hlt | hge
  ·rw [List.getElem?_append_left hlt] at hq
   have h1:=h.el i q y hq hy
   have hne:∀ k,q.ownBlock=some k→k≠gu:=fun k hk e=>by
    subst e
    exact (List.pairwise_cons.1 h.ap).1 q (List.mem_of_getElem? hq) k hgu hk
   refine h1.to (fun k hk hl=>(hst k (hne k hk)).trans (hb.block k hl)) (fun _ _ _ r=>RMsg.to r fun k hN hl=>⟨⟨hN.1,fun hm=>?_⟩,(hst k fun e=>hN.2 ⟨.slice (some ⟨gu,0,none⟩) n cap,List.mem_cons_self ..,by rw [e];rfl⟩).trans (hb.block k hl)⟩)
   rcases hman k hm with hm | hm
   ·exact hN.2 hm
   ·omega
  ·rw [List.getElem?_append_right hge] at hq
   have hi:i=us.length:=by
    have:=(List.getElem?_eq_some_iff.1 hq).1
    simp at this
    omega
   subst hi
   simp at hq
   subst hq
   rw [hx] at hy
   cases hy
   refine (low hc hB).to (fun k hk hl=>hst k fun e=>by have:=(hcl k hk).1;omega) (fun _ _ _ r=>RMsg.to r fun k hN hl=>⟨⟨hN.1.1,fun hm=>by have:=hmB k hm;omega⟩,hst k fun e=>by have:=hN.1.2;omega⟩)
 ·rw [← List.cons_append,List.pairwise_append]
  refine ⟨h.ap,List.pairwise_singleton _ _,fun a ha b hb' k hk hk'=>?_⟩
  simp at hb'
  subst hb'
  have h1:=(h.lt (k:=k) ⟨a,ha,hk⟩).2
  have h2:=(hcl k hk').1
  omega
theorem QsAt.setOp {B gq n cap i j:Nat} {N:Nat→Prop} {w:World} {u ov:Value} {us rest:List Value} {L:List (List Msg)} {x:List Msg} {m:Msg} (h:QsAt B N w u us rest L) (hq:us[i]?=some (.slice (some ⟨gq,0,none⟩) n cap)) (hx:L[i]?=some x) (hm:x[j]?=some m)
  (ho:ROp (fun k=>N k∧¬ ManR (u :: us) k) w ov m.e.o):QsAt B N (w.setCell ⟨gq,j * 4+3,none⟩ ov) u us rest L:=by
 have hmq:ManR (u :: us) gq:=⟨_,List.mem_cons_of_mem _ (List.mem_of_getElem? hq),rfl⟩
 have hst:∀ k,k≠gq→(w.setCell ⟨gq,j * 4+3,none⟩ ov).heap[k]?=w.heap[k]?:=fun k hk=>heap_setCell_other w _ k ov hk
 have kp:Kp (fun k=>N k∧¬ ManR (u :: us) k) (fun k=>N k∧¬ ManR (u :: us) k) w (w.setCell ⟨gq,j * 4+3,none⟩ ov):=fun k hN _=>⟨hN,hst k fun e=>hN.2 (by rw [e];exact hmq)⟩
 have hp:=List.pairwise_cons.1 h.ap
 have hpw:=List.pairwise_iff_getElem.1 hp.2
 have hone:ov.oneCell'=true:=by obtain ⟨_,_,rfl,_⟩:=RdS.len ho;rfl
 refine ⟨h.row.to (fun k hk _=>hst k fun e=>?_) (fun _ _ _ r=>r),fun i' q y hq' hy=>?_,h.ap,h.ln⟩
 ·subst e
  exact hp.1 _ (List.mem_of_getElem? hq) k hk rfl
 ·by_cases hi:i'=i
  ·subst hi
   rw [hq] at hq'
   cases hq'
   rw [hx] at hy
   cases hy
   have h1:=h.el i' _ x hq hx
   have h2:=h1.set hm (j:=3) (by decide) ov hone (R':=RMsg fun k=>N k∧¬ ManR (u :: us) k) (x':=m) (fun cs y _ r=>RMsg.to r kp) (fun cs _ r=>by
    obtain ⟨o,rfl,_⟩:=r
    exact ⟨ov,rfl,ROp.to ho kp⟩)
   rw [set_self hm] at h2
   exact h2
  ·refine (h.el i' q y hq' hy).to (fun k hk _=>hst k fun e=>?_) (fun _ _ _ r=>RMsg.to r kp)
   subst e
   have a1:=List.getElem?_eq_some_iff.1 hq
   have a2:=List.getElem?_eq_some_iff.1 hq'
   rcases Nat.lt_or_gt_of_ne hi with h3 | h3
   ·exact hpw i' i a2.1 a1.1 h3 k (by rw [a2.2];exact hk) (by rw [a1.2];rfl)
   ·exact hpw i i' a1.1 a2.1 h3 k (by rw [a1.2];rfl) (by rw [a2.2];exact hk)
theorem mop_sm {m:Msg} (h:mOk m):opSm m.e.o:=by
 rcases h with h | h
 ·rw [h];exact ⟨by simp,by simp⟩
 ·exact opSm_of h
set_option maxRecDepth 100000 in
set_option maxHeartbeats 4000000 in
theorem wdQueues_any (N:Nat→Prop) (v:Value) (L:List (List Msg)) (w:World) (h:RdS 1 (RSl 4 (RMsg N) N) N w v L) (hN:∀ k,w.heap.size≤k→N k) (hl:L.length≤100) (hq:∀ q ∈ L,qOk q) :
  Calls Tryz.prog 88 #[v] w fun e w'=>∃ u us,e=.returned u∧us.length=L.length∧QsAt w.heap.size N w' u us [] L∧Below w.heap.size w w':=by
 have h:=RQs.to h (Kp.lt w)
 have hN:=Lib.hid hN
 have hqk:=Lib.hid hq
 obtain ⟨vals,hvl,hV,hVq⟩:=RQs.vals h
 obtain ⟨va,vc,rfl,_⟩:=RdS.len h
 have hVq:=Lib.hid hVq
 have C:=Lib.hid (cloneQs_any (fun _=>True) _ _ vals w hV (by omega))
 have hvl':=Lib.hid hvl
 clear hvl
 clear h hV hq
 go_enter Tryz.func88,Tryz.ntmps88
 go_wp2_with fail
 refine C.out.mono ?_
 rintro e w1 ⟨u,rfl,hu,hb1⟩
 obtain ⟨ua,uc,rfl,_⟩:=RdS.len hu.rd
 have hQ:=Lib.hid (show QsAt w.heap.size N w1 (.slice ua vals.length uc) [] vals L from ⟨by simpa using hu,fun i q x h1=>by simp at h1,List.pairwise_singleton _ _,by simp⟩)
 clear hu C
 go_wp2
 go_loopw [11] (fun i wr=>∃ us:List Value,us.length≤vals.length∧i=.int .i64 us.length∧QsAt w.heap.size N wr (.slice ua vals.length uc) us (vals.drop us.length) L∧Below w.heap.size w wr) (fun i _=>vals.length - (intOf i).toNat)
 case atStart=>exact ⟨[],Nat.zero_le _,rfl,by simpa using hQ.out,hb1⟩
 case round =>
  clear hQ hb1
  obtain ⟨us,hk,rfl,hQ,hb⟩:=hrel
  obtain ⟨wo,rfl⟩:∃ wo,wo=wr:=⟨_,rfl⟩
  by_cases hlt:us.length < vals.length
  ·obtain ⟨q0,hq0⟩:∃ q0,vals[us.length]?=some q0:=⟨_,List.getElem?_eq_getElem hlt⟩
   obtain ⟨x,hx⟩:∃ x,L[us.length]?=some x:=⟨_,List.getElem?_eq_getElem (by rw [← hvl'.out];exact hlt)⟩
   have hd:vals.drop us.length=q0 :: vals.drop (us.length+1):=drop_cons hq0
   rw [hd] at hQ
   obtain ⟨gu,cap,cur,e1,_⟩:=hQ.row.shape (by simp)
   simp at e1
   obtain ⟨rfl,e1',rfl⟩:=e1
   clear e1' hd
   have hrq:=hVq.out _ q0 x hq0 hx
   obtain ⟨qa,qc,rfl,_⟩:=RdS.len hrq
   have hxk:=hqk.out x (List.mem_of_getElem? hx)
   have hxm:=Lib.hid hxk.2
   have hx90:=hxk.1
   have hgB:=(hQ.row.cells (k:=gu) rfl).1
   obtain ⟨xs0,hh0⟩:=(hQ.row.cells (k:=gu) rfl).2
   obtain ⟨cs0,⟨rfl,_⟩,_,hat0⟩:=hQ.row.at (k:=us.length) (x:=.slice qa x.length qc) (by simp)
   have y0:wo.cell? ⟨gu,us.length,none⟩=some (.slice qa x.length qc):=by simpa using hat0 0 _ rfl
   have C:=Lib.hid (cloneMsgs_any (fun i=>N i∧i < w.heap.size) _ _ x wo (RMsgs.to hrq (Kp.below hb)) (by omega))
   have hrq:=Lib.hid hrq
   have hQ:=Lib.hid hQ
   clear hat0 hxk hq0
   go_wp2_with fail
   refine C.out.mono ?_
   rintro e w2 ⟨c,rfl,hc,hb2⟩
   have P:=hQ.out.push hx hb.size hc hb2
   obtain ⟨ca,cc,rfl,_⟩:=RdS.len hc.rd
   have hB2:=hb.trans (hb2.mono hb.size)
   have y1:=(hb2.cell (lt_of_cell y0)).trans y0
   have f1:w2.frozen? ⟨gu,us.length,none⟩=false:=Lib.frozen_of_heap ((hb2.block _ (lt_of_heap hh0)).trans hh0) _
   have hap:=Lib.hid P.ap
   have P:=Lib.hid P
   clear y0 hc hb2 C hQ hh0
   go_upto_region 6 with fail
   refine name_world ?_
   intro w3 hw3
   have hB3:Below w.heap.size w w3:=by rw [← hw3];exact hB2.setCell (p:=⟨gu,us.length,none⟩) hgB _
   rw [hw3] at P
   clear hw3 y1 f1 hB2 hb
   go_wp2
   go_loopw [23] (fun i ws=>∃ j:Nat,j≤x.length∧i=.int .i64 j∧QsAt w.heap.size N ws (.slice (some ⟨gu,0,none⟩) vals.length uc) (us ++ [.slice ca x.length cc]) (vals.drop (us.length+1)) L∧Below w.heap.size w ws) (fun i _=>x.length - (intOf i).toNat)
   case atStart=>exact ⟨0,Nat.zero_le _,rfl,P.out,hB3⟩
   case round =>
    clear P hB3
    obtain ⟨j,hj,rfl,P,hb4⟩:=hrel
    obtain ⟨wi,rfl⟩:∃ wi,wi=wr:=⟨_,rfl⟩
    by_cases hlt2:j < x.length
    ·obtain ⟨m,hm⟩:∃ m,x[j]?=some m:=⟨_,List.getElem?_eq_getElem hlt2⟩
     have hxne:x≠[]:=fun e=>by simp [e] at hlt2
     have hcq:(us ++ [Value.slice ca x.length cc])[us.length]?=some (.slice ca x.length cc):=by simp
     obtain ⟨gc,cc',cur',e2,hgc,hh2⟩:=(P.el _ _ x hcq hx).shape hxne
     simp at e2
     obtain ⟨rfl,rfl⟩:=e2
     obtain ⟨b,o,ov,e1,hr,c0,c1,c2,c3⟩:=RMsgs.at hrq.out hb4 hm
     subst e1
     obtain ⟨oa,oc,rfl,_⟩:=RdS.len hr
     have hbs:b < wi.heap.size:=lt_of_cell c0
     obtain ⟨w4,hw4⟩:∃ w4,w4=wi.alloc (.cells #[.int .i64 m.rev,.int .i64 m.e.client,.int .i64 m.e.seq,.slice oa m.e.o.length oc] 79):=⟨_,rfl⟩
     have hb4':Below wi.heap.size wi w4:=by rw [hw4];exact bal (brf wi) _
     have hN4:=heap_new wi (.cells #[.int .i64 m.rev,.int .i64 m.e.client,.int .i64 m.e.seq,.slice oa m.e.o.length oc] 79)
     rw [← hw4] at hN4
     obtain ⟨w5,hw5⟩:∃ w5,w4.drew=w5:=⟨_,rfl⟩
     have hb5:Below w4.heap.size w4 w5:=by rw [← hw5];exact Go.below_drewN (Below.refl _ _) 1
     have hB5':=hb4'.trans (hb5.mono hb4'.size)
     have hB5:=hb4.trans (hB5'.mono hb4.size)
     have P5:=P.below hB5'
     have q5:=(cell4 ((hb5.block _ (lt_of_heap hN4)).trans hN4)).2.2.2
     obtain ⟨cs0,⟨rfl,_⟩,_,hat0⟩:=P5.row.at (k:=us.length) (x:=.slice (some ⟨gc,0,none⟩) x.length cc) (by simp)
     have y5:w5.cell? ⟨gu,us.length,none⟩=some (.slice (some ⟨gc,0,none⟩) x.length cc):=by simpa using hat0 0 _ rfl
     have Q5:w5.cell? ⟨gu,us.length,none⟩=some (.slice (some ⟨gc,0,none⟩) x.length cc)∧w5.cell? ⟨wi.heap.size,3,none⟩=some (.slice oa m.e.o.length oc):=⟨y5,q5⟩
     have sm:=mop_sm (hxm.out m (List.mem_of_getElem? hm))
     have CC:=Lib.hid (opCopy_any (fun j=>N j∧j < w.heap.size) _ m.e.o w5 (ROp.to hr (Kp.below hB5)) sm.1 sm.2)
     have P5:=Lib.hid P5
     have hm':=Lib.hid hm
     clear hat0 y5 q5 hN4 hr sm P hm hb4'
     go_upto_region 9 with fail
     rw [← hw4]
     clear hw4
     refine wp_region_G 12 (fun w'=>w'.cell? ⟨gu,us.length,none⟩=some (.slice (some ⟨gc,0,none⟩) x.length cc)∧w'.cell? ⟨wi.heap.size,3,none⟩=some (.slice oa m.e.o.length oc)) (fun w'=>True) (by kernel_rfl) ?_
     show wpAnyG _ _ _ _ _ _ _ _ _ _ (World.drew _)
     rw [hw5]
     clear hw5
     refine tG 13 0 28 (v:=?_) trivial Q5 ?_ ?_
     rotate_left
     ·(intro w' hw';(try dsimp only at hw');go_simp;try with_reducible rfl)
     simp only [List.set_cons_zero,List.set_cons_succ]
     refine tG 13 1 29 (v:=?_) trivial Q5 ?_ ?_
     rotate_left
     ·(intro w' hw';(try dsimp only at hw');go_simp;try with_reducible rfl)
     simp only [List.set_cons_zero,List.set_cons_succ]
     refine tG 13 2 30 (v:=?_) trivial Q5 ?_ ?_
     rotate_left
     ·(intro w' hw';(try dsimp only at hw');go_simp;try with_reducible rfl)
     simp only [List.set_cons_zero,List.set_cons_succ]
     refine tG 13 3 31 (v:=?_) trivial Q5 ?_ ?_
     rotate_left
     ·(intro w' hw';(try dsimp only at hw');go_simp;try with_reducible rfl)
     simp only [List.set_cons_zero,List.set_cons_succ]
     refine tG 13 4 32 (v:=?_) trivial Q5 ?_ ?_
     rotate_left
     ·(intro w' hw';(try dsimp only at hw');go_simp;try with_reducible rfl)
     simp only [List.set_cons_zero,List.set_cons_succ]
     refine tG 13 5 33 (v:=?_) trivial Q5 ?_ ?_
     rotate_left
     ·(intro w' hw';(try dsimp only at hw');go_simp;try with_reducible rfl)
     simp only [List.set_cons_zero,List.set_cons_succ]
     refine tG 13 6 34 (v:=?_) trivial Q5 ?_ ?_
     rotate_left
     ·(intro w' hw';(try dsimp only at hw');go_simp;try with_reducible rfl)
     simp only [List.set_cons_zero,List.set_cons_succ]
     refine tG 13 7 35 (v:=?_) trivial Q5 ?_ ?_
     rotate_left
     ·(intro w' hw';(try dsimp only at hw');go_simp;try with_reducible rfl)
     simp only [List.set_cons_zero,List.set_cons_succ]
     refine wpAnyG_step 8 rfl (by kernel_rfl) (fun K' hK'=>?_)
     rw [if_pos (by rfl)]
     go_simp
     refine CC.out.mono ?_
     rintro e w6 ⟨cv,rfl,hcv,hb6⟩
     obtain ⟨xa,xc,rfl,_⟩:=RdS.len hcv
     have P6:=Lib.hid (P5.out.below hb6)
     have Q6:w6.cell? ⟨gu,us.length,none⟩=some (.slice (some ⟨gc,0,none⟩) x.length cc)∧w6.cell? ⟨wi.heap.size,3,none⟩=some (.slice oa m.e.o.length oc):=⟨(hb6.cell (lt_of_cell Q5.1)).trans Q5.1,(hb6.cell (lt_of_cell Q5.2)).trans Q5.2⟩
     have hcv:=Lib.hid (show ROp (fun k=>N k∧¬ ManR (.slice (some ⟨gu,0,none⟩) vals.length uc :: (us ++ [.slice (some ⟨gc,0,none⟩) x.length cc])) k) w6 (.slice xa m.e.o.length xc) m.e.o from ROp.to hcv (fun j hj _=>⟨(by
      rcases hj with hj | hj
      ·exact ⟨hN.out j (Nat.le_trans hB5.size hj),fun hm=>by have:=(P5.out.lt hm).2;omega⟩
      ·exact ⟨hj.1,fun hm=>by have:=(P5.out.lt hm).1;omega⟩),rfl⟩))
     obtain ⟨cs6,⟨ov6,rfl,_⟩,_,hat6⟩:=(P6.out.el _ _ x hcq hx).at hm'.out
     have z6:w6.cell? ⟨gc,j * 4+3,none⟩=some ov6:=hat6 3 _ rfl
     have f6:w6.frozen? ⟨gc,j * 4+3,none⟩=false:=by
      obtain ⟨xs6,hh6⟩:=((P6.out.el _ _ x hcq hx).cells (k:=gc) rfl).2
      exact Lib.frozen_of_heap hh6 _
     refine hK'.out _ _ trivial (fun _=>Q6) ?_
     clear hK' K'
     refine tG 13 9 37 (v:=?_) trivial Q6 ?_ ?_
     rotate_left
     ·(intro w' hw';(try dsimp only at hw');go_simp;try with_reducible rfl)
     simp only [List.set_cons_zero,List.set_cons_succ]
     refine tG 13 10 38 (v:=?_) trivial Q6 ?_ ?_
     rotate_left
     ·(intro w' hw';(try dsimp only at hw');go_simp;try with_reducible rfl)
     simp only [List.set_cons_zero,List.set_cons_succ]
     refine tG 13 11 39 (v:=?_) trivial Q6 ?_ ?_
     rotate_left
     ·(intro w' hw';(try dsimp only at hw');go_simp;try with_reducible rfl)
     simp only [List.set_cons_zero,List.set_cons_succ]
     refine wpAnyG_step 12 rfl (by kernel_rfl) (fun K' hK'=>?_)
     rw [if_pos (by rfl)]
     go_simp
     refine hK'.out _ _ trivial (fun h=>absurd h (by decide)) ?_
     clear hK' K'
     refine wpAnyG_done (by kernel_rfl) ?_ _
     go_wp2
     go_roundw
     case rel=>exact ⟨j+1,by omega,by go_num,P6.out.setOp hcq hx hm'.out hcv.out,(hB5.trans (hb6.mono hB5.size)).setCell (p:=⟨gc,j * 4+3,none⟩) hgc _⟩
     case measure=>simp [intOf];omega
    ·obtain rfl:j=x.length:=by omega
     go_wp2
     go_roundw
     case rel=>exact ⟨us ++ [.slice ca x.length cc],by simp;omega,by simp,by simpa using P,hb4⟩
     case measure=>simp [intOf];omega
  ·have hk2:us.length=vals.length:=by omega
   rw [hk2,List.drop_length] at hQ
   go_wp2
   go_ret
   exact ⟨_,us,rfl,hk2.trans hvl'.out,hQ,hb⟩
end Go.Proofs.YteikncnldbdfmaaGreatDoor
