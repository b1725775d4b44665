import Derived.Test.YteikncnldbdfmaaGreatDoorMWdE
import Derived.Test.YteikncnldbdfmaaGreatDoorMSvN
namespace Go.Proofs.YteikncnldbdfmaaGreatDoor
open Go.RowKit Go.Mh
theorem setCell_comm {w:World} {p q:Addr} {u v:Value} (h:p.block≠q.block):(w.setCell p u).setCell q v=(w.setCell q v).setCell p u:=by
 unfold World.setCell
 simp only [World.mk.injEq,and_true]
 apply Array.ext
 ·simp
 ·intro i h1 h2
  simp only [Array.getElem_modify]
  by_cases e1:p.block=i
  ·have e2:¬ q.block=i:=fun e=>h (by omega)
   simp [e1,e2]
  ·by_cases e2:q.block=i
   ·simp [e1,e2]
   ·simp [e1,e2]
theorem cell3 {w:World} {b:Nat} {a0 a1 a2:Value} {e:TypeId} {fr:Nat × Nat} (h:w.heap[b]?=some (.cells #[a0,a1,a2] e fr)):w.cell? ⟨b,0,none⟩=some a0∧w.cell? ⟨b,1,none⟩=some a1∧w.cell? ⟨b,2,none⟩=some a2:=
 ⟨cellOf (i:=0) h rfl,cellOf (i:=1) h rfl,cellOf (i:=2) h rfl⟩
theorem there3 {w:World} {G:Nat} (h:w.heap[G]?=some svZero):w.there G 0 3:=fun j hj=>by
 refine ⟨?_,Lib.frozen_of_heap h _⟩
 rw [Nat.zero_add]
 obtain ⟨q0,q1,q2⟩:=cell3 h
 match j,hj with
 | 0,_=>rw [q0];rfl
 | 1,_=>rw [q1];rfl
 | 2,_=>rw [q2];rfl
theorem WAt.srv {B g:Nat} {l:Lay} {w:World} {W:Wd} (h:WAt B g l w W):∃ aa ac la lc na nc,w.cell? ⟨g,0,none⟩=some (.slice aa W.s.first.length ac)∧w.cell? ⟨g,1,none⟩=some (.slice la W.s.log.length lc)∧w.cell? ⟨g,2,none⟩=some (.slice na W.s.now.length nc) ∧
  RSrv (l.N g) w (.agg #[.slice aa W.s.first.length ac,.slice la W.s.log.length lc,.slice na W.s.now.length nc]) W.s:=by
 obtain ⟨a,lg,n,hb,a',lg',n',e,r1,r2,r3⟩:=h.box
 cases e
 obtain ⟨aa,ac,rfl,_⟩:=RdS.len r1
 obtain ⟨la,lc,rfl,_⟩:=RdS.len r2
 obtain ⟨na,nc,rfl,_⟩:=RdS.len r3
 exact ⟨aa,ac,la,lc,na,nc,cellOf (i:=0) hb rfl,cellOf (i:=1) hb rfl,cellOf (i:=2) hb rfl,_,_,_,rfl,r1,r2,r3⟩
theorem log_tail {F:Nat→Prop} {w:World} {a n:Value} {la:Option Addr} {lc k:Nat} {t:Srv} (hk:k≤t.log.length) (hne:t.log≠[]) (h:RSrv F w (.agg #[a,.slice la t.log.length lc,n]) t) :
  ∃ lb lo sa,(k≤lc)∧la=some ⟨lb,lo,none⟩∧(if lc=k then some (⟨lb,lo,none⟩:Addr) else some ⟨lb,lo+k * 3,none⟩)=sa∧RLog F w (.slice sa (t.log.length - k) (lc - k)) (t.log.drop k):=by
 obtain ⟨a',l',n',e,_,h2,_⟩:=h
 cases e
 obtain ⟨x,hx⟩:∃ x,t.log[0]?=some x:=by
  cases e:t.log with
  | nil=>exact absurd e hne
  | cons x _=>exact ⟨x,rfl⟩
 obtain ⟨b,o,_,rfl,_⟩:=RdS.el h2 0 x hx
 have hc:=h2.capLe
 refine ⟨b,o,_,by omega,rfl,rfl, ?_⟩
 by_cases e:lc=k
 ·subst e
  rw [if_pos rfl,List.drop_of_length_le (by omega),show t.log.length - lc=0 by omega,Nat.sub_self]
  exact RdS.nilX
 ·rw [if_neg e]
  exact RdS.dropC h2 k hk
theorem WAt.setSrv {B g:Nat} {l:Lay} {w:World} {W:Wd} (h:WAt B g l w W) {a' l' n':Value} {t:Srv} (hr:RSrv (l.N g) w (.agg #[a',l',n']) t) :
  WAt B g l (((w.setCell ⟨g,0,none⟩ a').setCell ⟨g,1,none⟩ l').setCell ⟨g,2,none⟩ n') { W with s:=t }:=by
 obtain ⟨w',hw⟩:∃ w',((w.setCell ⟨g,0,none⟩ a').setCell ⟨g,1,none⟩ l').setCell ⟨g,2,none⟩ n'=w':=⟨_,rfl⟩
 have hs:∀ j,j≠g→w'.heap[j]?=w.heap[j]?:=fun j hj=>by
  rw [← hw,heap_setCell_other _ _ _ _ hj,heap_setCell_other _ _ _ _ hj,heap_setCell_other _ _ _ _ hj]
 have kp:Kp (l.N g) (l.N g) w w':=fun j hN _=>⟨hN,hs j (fun e=>hN (Or.inl e))⟩
 obtain ⟨a,lg,n,h1,h2⟩:=h.box
 have hb:w'.heap[g]?=some (.cells #[a',l',n',l.vc,l.vu,l.vd] TW (0,0)):=by
  rw [← hw]
  have e1:=heap_setCell_same w g 0 _ _ a' h1
  have e2:=heap_setCell_same _ g 1 _ _ l' e1
  have e3:=heap_setCell_same _ g 2 _ _ n' e2
  exact e3
 have hne:∀ r ∈ l.rows,∀ j,r.ownBlock=some j→j < w.heap.size→w'.heap[j]?=w.heap[j]?:=fun r hq j hj _=>hs j (fun e=>by
  subst e
  obtain ⟨_,xs,T,e1,e2⟩:=h.own hq hj
  rw [h1] at e1
  cases e1
  rcases e2 with e2 | e2 | e2 <;> exact absurd e2 (by decide))
 rw [hw]
 exact ⟨h.gB,⟨_,_,_,hb,RSrv.to hr kp⟩,h.cl.to (hne _ (by simp)) (fun _ _ _ r=>RClc.to r kp),h.uR.to (hne _ (by simp)) (fun _ _ _ r=>r),h.dR.to (hne _ (by simp)) (fun _ _ _ r=>r),h.ul,h.dl,
  fun i q L e1 e2=>(h.qu i q L e1 e2).to (hne _ (by simp [List.mem_of_getElem? e1])) (fun _ _ _ r=>RMsg.to r kp),fun i q L e1 e2=>(h.qd i q L e1 e2).to (hne _ (by simp [List.mem_of_getElem? e1])) (fun _ _ _ r=>RMsg.to r kp),h.ap⟩
def SvI (B g:Nat) (l4:Lay) (w8:World) (n:Nat) (wr:World) (V:Wd):Prop:=(∃ l',WAt B g l' wr V∧Kp (l4.N g) (l'.N g) w8 wr)∧Shp V n∧Below B w8 wr
set_option maxRecDepth 100000 in
set_option maxHeartbeats 4000000 in
theorem wdServe_any (B g:Nat) (l:Lay) (w:World) (W:Wd) (k:Nat) (h:WAt B g l w W) (hk:k < W.cl.length) (hul:W.up.length=W.cl.length) (hdl:W.down.length=W.cl.length) (hql:(upAt W k).length≤100000) (hn4:W.cl.length≤100) :
  Calls Tryz.prog 97 #[.pointer (some ⟨g,0,none⟩),.int .i64 k] w fun e w'=>e=.returned (.int .i64 (serveW W k).2)∧(∃ l',WAt B g l' w' (serveW W k).1∧Kp (l.N g) (l'.N g) w w')∧Below B w w':=by
 obtain ⟨gc,gu,gd,cc,cu,cd,c,b,n,s,hh,uq,dq,H⟩:=h.facts hk hul hdl
 obtain ⟨L,hL⟩:∃ L,W.up[k]?=some L:=⟨_,List.getElem?_eq_getElem (by omega)⟩
 have eL:upAt W k=L:=getD_some hL
 rw [eL] at hql
 have hBs:B≤w.heap.size:=by have:=h.gB;obtain ⟨_,kg⟩:=H.kg;have:=lt_of_heap kg;omega
 have hBu:B≤gu:=(h.uR.cells (k:=gu) (by rw [H.vu];rfl)).1
 have hq:=h.qu k uq L H.hu hL
 obtain ⟨⟨V,E⟩,hV⟩:∃ r,serveW W k=r:=⟨_,rfl⟩
 rw [hV]
 cases L with
 | nil =>
  have e:(V,E)=(W,7):=by rw [← hV];unfold serveW;rw [eL]
  cases e
  obtain ⟨da,dc,rfl,_⟩:=RdS.len hq.rd
  have x4:=H.b4
  have xu:=H.u
  have h:=Lib.hid h
  simp only [List.length_nil] at xu
  clear H hq hL eL hV
  go_enter Tryz.func97,Tryz.ntmps97
  go_wp2_with fail
  go_ret
  exact ⟨rfl,⟨_,h.out,Kp.weak w fun _ h=>h⟩,Below.refl _ _⟩
 | cons m q =>
  obtain ⟨gq,cap,ov,rfl,m0,m1,m2,m3,hov,hcap,ta,hta,htail⟩:=OwnS.head hq
  obtain ⟨oa,oc,rfl,_⟩:=RdS.len hov
  have HF:=Lib.hid H
  have h:=Lib.hid h
  have hq:=Lib.hid hq
  have x4:=H.b4
  have xu:=H.u
  have htail:=Lib.hid htail
  have hov:=Lib.hid (ROp.to hov (Kp.lt w))
  have hql':=Lib.hid (show q.length≤100000 by simp at hql;omega)
  have hl0:((q.length:Int)+1 == 0)=false:=by rw [beq_eq_false_iff_ne];omega
  have hta:=Lib.hid hta
  have hcap:=Lib.hid hcap
  clear H hql
  go_enter Tryz.func97,Tryz.ntmps97
  go_upto_region 4 with fail
  refine name_world ?_
  intro w1 hw1
  have hb1:Below w.heap.size w w1:=by rw [← hw1];exact bal (brf w) _
  have hN1:=heap_new w (.cells #[.int .i64 m.rev,.int .i64 m.e.client,.int .i64 m.e.seq,.slice oa m.e.o.length oc] 79)
  rw [hw1] at hN1
  have hN1:=Lib.hid hN1
  clear hw1 x4 xu m0 m1 m2 m3 hl0
  obtain ⟨w2,hw2⟩:∃ w2,w1.drew=w2:=⟨_,rfl⟩
  have hb2:Below w.heap.size w w2:=by rw [← hw2];exact Go.below_drewN hb1 1
  have hN2:Hid (w2.heap[w.heap.size]?=some (.cells #[.int .i64 m.rev,.int .i64 m.e.client,.int .i64 m.e.seq,.slice oa m.e.o.length oc] TM (0,0))):=Lib.hid (by rw [← hw2];exact hN1.out)
  have HF2:=Lib.hid (HF.out.below hb2)
  have Q2:w2.cell? ⟨g,4,none⟩=some (.slice (some ⟨gu,0,none⟩) W.cl.length cu)∧w2.cell? ⟨gu,k,none⟩=some (.slice (some ⟨gq,0,none⟩) (q.length+1) cap):=⟨HF2.out.b4,HF2.out.u⟩
  have CM:=Lib.hid (cloneMsgs_any (fun j=>l.N g j∧j < w.heap.size) (fun _=>True) (.slice ta q.length (cap - 1)) q w2 (RdS.to htail.out (by decide) (fun j _ hj=>⟨trivial,hb2.block j hj⟩) (fun _ _ _ r=>RMsg.to r (fun j hj hl=>⟨⟨hj,hl⟩,hb2.block j hl⟩))) hql'.out)
  have hta':=hta.out
  have hcap':=hcap.out
  have h11:(1:Int)≤(q.length:Int)+1:=by omega
  refine wp_region_G 15 (fun w'=>w'.cell? ⟨g,4,none⟩=some (.slice (some ⟨gu,0,none⟩) W.cl.length cu)∧w'.cell? ⟨gu,k,none⟩=some (.slice (some ⟨gq,0,none⟩) (q.length+1) cap)) (fun w'=>True) (by kernel_rfl) ?_
  show wpAnyG _ _ _ _ _ _ _ _ _ _ (World.drew _)
  rw [hw2]
  clear hw2
  refine tG 16 0 30 (v:=?_) trivial Q2 ?_ ?_
  rotate_left
  ·(intro w' hw';(try dsimp only at hw');go_simp;try with_reducible rfl)
  simp only [List.set_cons_zero,List.set_cons_succ]
  refine tG 16 1 31 (v:=?_) trivial Q2 ?_ ?_
  rotate_left
  ·(intro w' hw';(try dsimp only at hw');go_simp;try with_reducible rfl)
  simp only [List.set_cons_zero,List.set_cons_succ]
  refine tG 16 2 32 (v:=?_) trivial Q2 ?_ ?_
  rotate_left
  ·(intro w' hw';(try dsimp only at hw');go_simp;try with_reducible rfl)
  simp only [List.set_cons_zero,List.set_cons_succ]
  refine tG 16 3 33 (v:=?_) trivial Q2 ?_ ?_
  rotate_left
  ·(intro w' hw';obtain ⟨p5,pd⟩:=hw';go_simp;try with_reducible rfl)
  simp only [List.set_cons_zero,List.set_cons_succ]
  refine tG 16 4 34 (v:=?_) trivial Q2 ?_ ?_
  rotate_left
  ·(intro w' hw';(try dsimp only at hw');go_simp;try with_reducible rfl)
  simp only [List.set_cons_zero,List.set_cons_succ]
  refine tG 16 5 35 (v:=?_) trivial Q2 ?_ ?_
  rotate_left
  ·(intro w' hw';(try dsimp only at hw');go_simp;try with_reducible rfl)
  simp only [List.set_cons_zero,List.set_cons_succ]
  refine tG 16 6 36 (v:=?_) trivial Q2 ?_ ?_
  rotate_left
  ·(intro w' hw';(try dsimp only at hw');go_simp;try with_reducible rfl)
  simp only [List.set_cons_zero,List.set_cons_succ]
  refine tG 16 7 37 (v:=?_) trivial Q2 ?_ ?_
  rotate_left
  ·(intro w' hw';(try dsimp only at hw');go_simp;try with_reducible rfl)
  simp only [List.set_cons_zero,List.set_cons_succ]
  refine tG 16 8 38 (v:=?_) trivial Q2 ?_ ?_
  rotate_left
  ·(intro w' hw';obtain ⟨p5,pd⟩:=hw';go_simp;try with_reducible rfl)
  simp only [List.set_cons_zero,List.set_cons_succ]
  refine tG 16 9 39 (v:=?_) trivial Q2 ?_ ?_
  rotate_left
  ·(intro w' hw';(try dsimp only at hw');go_simp;try with_reducible rfl)
  simp only [List.set_cons_zero,List.set_cons_succ]
  refine tG 16 10 40 (v:=?_) trivial Q2 ?_ ?_
  rotate_left
  ·(intro w' hw';(try dsimp only at hw');go_simp;try with_reducible rfl)
  simp only [List.set_cons_zero,List.set_cons_succ]
  refine tG 16 11 41 (v:=?_) trivial Q2 ?_ ?_
  rotate_left
  ·(intro w' hw';obtain ⟨p5,pd⟩:=hw';go_simp;try with_reducible rfl)
  simp only [List.set_cons_zero,List.set_cons_succ]
  refine tG 16 12 42 (v:=?_) trivial Q2 ?_ ?_
  rotate_left
  ·(intro w' hw';go_simp;(try rw [if_pos h11]);exact rfl)
  simp only [List.set_cons_zero,List.set_cons_succ]
  refine wpAnyG_step 13 rfl (by kernel_rfl) (fun K' hK'=>?_)
  rw [if_pos (by rfl)]
  go_simp
  refine CM.out.mono ?_
  rintro e w3 ⟨u3,rfl,hu3,hb3⟩
  obtain ⟨ua3,uc3,rfl,_⟩:=RdS.len hu3.rd
  have hu3:=Lib.hid hu3
  have Q3:w3.cell? ⟨g,4,none⟩=some (.slice (some ⟨gu,0,none⟩) W.cl.length cu)∧w3.cell? ⟨gu,k,none⟩=some (.slice (some ⟨gq,0,none⟩) (q.length+1) cap):=⟨(hb3.cell (lt_of_cell Q2.1)).trans Q2.1,(hb3.cell (lt_of_cell Q2.2)).trans Q2.2⟩
  have fd3:=(HF2.out.below hb3).fu k
  have yd3:=Q3.2
  refine hK'.out _ _ trivial (fun _=>Q3) ?_
  clear hK' K'
  refine tG 16 14 44 (v:=?_) trivial Q3 ?_ ?_
  rotate_left
  ·(intro w' hw';(try dsimp only at hw');go_simp;try with_reducible rfl)
  simp only [List.set_cons_zero,List.set_cons_succ]
  refine wpAnyG_step 15 rfl (by kernel_rfl) (fun K' hK'=>?_)
  rw [if_pos (by rfl)]
  go_simp
  refine hK'.out _ _ trivial (fun h=>absurd h (by decide)) ?_
  clear hK' K'
  refine wpAnyG_done (by kernel_rfl) ?_ _
  have hlt2:=lt_of_heap hN2.out
  have hgs:g≠w.heap.size∧gu≠w.heap.size:=by obtain ⟨_,kg⟩:=HF.out.kg;obtain ⟨_,ku⟩:=HF.out.ku;have:=lt_of_heap kg;have:=lt_of_heap ku;omega
  obtain ⟨aa,ac,la,lc,na,nc,s0,s1,s2,hsrv⟩:=(h.out.below (hb2.trans (hb3.mono hb2.size))).srv
  have y1:(w3.setCell ⟨gu,k,none⟩ (.slice ua3 q.length uc3)).cell? ⟨g,1,none⟩=some (.slice la W.s.log.length lc):=(cell_ne (Ne.symm HF.out.ne.2.2.2.2.1) trivial).trans s1
  have y4:(w3.setCell ⟨gu,k,none⟩ (.slice ua3 q.length uc3)).cell? ⟨w.heap.size,1,none⟩=some (.int .i64 m.e.client):=(cell_ne hgs.2 trivial).trans (cell4 ((hb3.block _ hlt2).trans hN2.out)).2.1
  have y5:(w3.setCell ⟨gu,k,none⟩ (.slice ua3 q.length uc3)).frozen? ⟨w.heap.size,1,none⟩=false:=Lib.frozen_of_heap ((heap_setCell_other _ _ _ _ (Ne.symm hgs.2)).trans ((hb3.block _ hlt2).trans hN2.out)) _
  have hB3:Below w.heap.size w (w3.setCell ⟨w.heap.size,1,none⟩ (.int .i64 k)):=(hb2.trans (hb3.mono hb2.size)).setCell (p:=⟨w.heap.size,1,none⟩) (Nat.le_refl _) _
  have hlo:∀ j,(Value.slice ua3 q.length uc3).ownBlock=some j→(Value.slice (some ⟨gq,0,none⟩) (q.length+1) cap).ownBlock=some j∨w.heap.size≤j:=fun j hj=>Or.inr (by have:=(hu3.out.own_lt hj).1;have:=hb2.size;omega)
  have hu4:OwnS B TM 4 (RMsg (fun j=>l.N g j∧j < w.heap.size)) (w3.setCell ⟨w.heap.size,1,none⟩ (.int .i64 k)) (.slice ua3 q.length uc3) q:=OwnS.to (low hu3.out (by have:=hb2.size;omega)) (fun j hj _=>heap_setCell_other _ _ j _ (fun e=>by have e:j=w.heap.size:=e;have:=(hu3.out.own_lt hj).1;omega)) (fun _ _ _ r=>RMsg.to r (fun j hj _=>⟨hj.1,heap_setCell_other _ _ j _ (fun e=>by have e:j=w.heap.size:=e;have:=hj.1.2;omega)⟩))
  have W4:=Lib.hid (h.out.upPush HF.out.vu HF.out.hu (grown_of hB3) hlo rfl hu4)
  have hB4:Below B w ((w3.setCell ⟨w.heap.size,1,none⟩ (.int .i64 k)).setCell ⟨gu,k,none⟩ (.slice ua3 q.length uc3)):=(hB3.mono hBs).setCell (p:=⟨gu,k,none⟩) hBu _
  obtain ⟨l4,hl4⟩:∃ l4:Lay,l4={ l with us:=l.us.set k (.slice ua3 q.length uc3) }:=⟨_,rfl⟩
  have kp4:Kp (fun j=>l.N g j∧j < w.heap.size) (l4.N g) w ((w3.setCell ⟨w.heap.size,1,none⟩ (.int .i64 k)).setCell ⟨gu,k,none⟩ (.slice ua3 q.length uc3)):=fun j hj hl=>by
   have hjd:j≠gu:=fun e=>hj.1 (Or.inr ⟨l.vu,by simp,by rw [HF.out.vu,e];rfl⟩)
   refine ⟨by rw [hl4];exact nUs HF.out.hu hlo hj.1 hj.2,(heap_setCell_other _ _ j _ hjd).trans (hB3.block j hl)⟩
  have hN4:((w3.setCell ⟨w.heap.size,1,none⟩ (.int .i64 k)).setCell ⟨gu,k,none⟩ (.slice ua3 q.length uc3)).heap[w.heap.size]?=some (.cells #[.int .i64 m.rev,.int .i64 k,.int .i64 m.e.seq,.slice oa m.e.o.length oc] TM (0,0)):=
   (heap_setCell_other _ _ _ _ (Ne.symm hgs.2)).trans (heap_setCell_same _ _ _ _ _ _ ((hb3.block _ hlt2).trans hN2.out))
  have hN4:=Lib.hid hN4
  have hov4:=Lib.hid (ROp.to hov.out kp4)
  clear s0 s1 s2 hsrv
  go_upto_region 7 with fail
  refine name_world ?_
  intro w4 hw4
  rw [setCell_comm (show gu≠w.heap.size from hgs.2)] at hw4
  rw [hw4] at W4 hB4 hN4 hov4 kp4
  have K4:Hid (Kp (l.N g) (l4.N g) w w4):=Lib.hid (fun j hj hl=>kp4 j ⟨hj,hl⟩ hl)
  rw [← hl4] at W4
  clear hw4 kp4 y1 y4 y5 hu4 hB3
  obtain ⟨w5,hw5⟩:∃ w5,w4.drew=w5:=⟨_,rfl⟩
  have hb5:Below w4.heap.size w4 w5:=by rw [← hw5];exact Go.below_drewN (Below.refl _ _) 1
  have W5:=Lib.hid (W4.out.below hb5)
  have hN5:=Lib.hid ((hb5.block _ (lt_of_heap hN4.out)).trans hN4.out)
  have hov5:=ROp.to hov4.out (Kp.below hb5)
  obtain ⟨aa2,ac2,la2,lc2,na2,nc2,y0,y1,y2,hsrv⟩:=W5.out.srv
  have hba:Below w5.heap.size w5 (w5.alloc svZero):=bal (brf w5) _
  obtain ⟨⟨t,er⟩,hr⟩:∃ r,takeP W.s m.rev ⟨k,m.e.seq,m.e.o⟩=r:=⟨_,rfl⟩
  have C1:=svTake_N (l4.N g) _ _ W.s m.rev ⟨k,m.e.seq,m.e.o⟩ w5 hsrv hov5 W5.out.new W5.out.not
  have C2:=svTake_N (fun j=>l4.N g j∧j≠w5.heap.size) _ _ W.s m.rev ⟨k,m.e.seq,m.e.o⟩ (w5.alloc svZero) (RSrv.to hsrv (fun j hj hl=>⟨⟨hj,by omega⟩,hba.block j hl⟩)) (ROp.to hov5 (fun j hj hl=>⟨⟨hj,by omega⟩,hba.block j hl⟩)) (fun j hj=>⟨W5.out.new j (by simp at hj;omega),by simp at hj;omega⟩) (fun j hj=>by
   by_cases e:j=w5.heap.size
   ·subst e
    exact ⟨_,_,_,heap_new w5 svZero,by decide⟩
   ·obtain ⟨xs,fr,T',e1,e2⟩:=W5.out.not j (fun h=>hj ⟨h,e⟩)
    exact ⟨xs,fr,T',(hba.block j (lt_of_heap e1)).trans e1,e2⟩)
  rw [hr] at C1 C2
  dsimp only at C1 C2
  have C1:=Lib.hid C1
  have C2:=Lib.hid C2
  obtain ⟨z0,z1,z2,z3⟩:=cell4 hN5.out
  have hlg:g < w5.heap.size:=lt_of_cell y0
  have hlb:=lt_of_heap hN5.out
  have y:=Lib.hid (And.intro y0 (And.intro y1 y2))
  have z:=Lib.hid (And.intro z0 (And.intro z1 (And.intro z2 z3)))
  clear y0 y1 y2 z0 z1 z2 z3 hov5 hsrv
  have eV:serveW W k=if er≠0 then (downW { W with up:=W.up.set k q } k ⟨0,⟨k,m.e.seq,[]⟩⟩,0) else (downs { W with up:=W.up.set k q,s:=t } t.log.length (t.log.drop W.s.log.length),0):=by
   unfold serveW
   rw [eL]
   simp only
   rw [hr,modL_set _ k W.up hL]
  rw [hV] at eV
  have eV:=Lib.hid eV
  clear hV
  refine wp_region_held (S:=fun w'=>w'.heap[g]?=w5.heap[g]?∧w'.heap[w.heap.size]?=w5.heap[w.heap.size]?) (by kernel_rfl) ?_
  show wpAnyH _ _ _ _ _ _ _ _ (World.drew _)
  rw [hw5]
  clear hw5
  refine tD 0 55 (v:=?_) ⟨rfl,rfl⟩ ?_ ?_
  rotate_left
  ·(intro w' hw';(try dsimp only at hw');go_simp;try with_reducible rfl)
  simp only [List.set_cons_zero,List.set_cons_succ]
  refine tD 1 56 (v:=?_) ⟨rfl,rfl⟩ ?_ ?_
  rotate_left
  ·(intro w' hw';(try dsimp only at hw');go_simp;try with_reducible rfl)
  simp only [List.set_cons_zero,List.set_cons_succ]
  refine tD 2 57 (v:=?_) ⟨rfl,rfl⟩ ?_ ?_
  rotate_left
  ·(intro w' hw';(try dsimp only at hw');go_simp;try with_reducible rfl)
  simp only [List.set_cons_zero,List.set_cons_succ]
  refine tD 3 58 (v:=?_) ⟨rfl,rfl⟩ ?_ ?_
  rotate_left
  ·(intro w' hw';obtain ⟨e1,e3⟩:=hw';obtain ⟨y0,y1,y2⟩:=y.out;obtain ⟨z0,z1,z2,z3⟩:=z.out;replace y0:=(World.cell?_of_block e1).trans y0;replace y1:=(World.cell?_of_block e1).trans y1;replace y2:=(World.cell?_of_block e1).trans y2;go_simp;try with_reducible rfl)
  simp only [List.set_cons_zero,List.set_cons_succ]
  refine tD 4 59 (v:=?_) ⟨rfl,rfl⟩ ?_ ?_
  rotate_left
  ·(intro w' hw';(try dsimp only at hw');go_simp;try with_reducible rfl)
  simp only [List.set_cons_zero,List.set_cons_succ]
  refine tD 5 60 (v:=?_) ⟨rfl,rfl⟩ ?_ ?_
  rotate_left
  ·(intro w' hw';obtain ⟨e1,e3⟩:=hw';obtain ⟨y0,y1,y2⟩:=y.out;obtain ⟨z0,z1,z2,z3⟩:=z.out;replace z0:=(World.cell?_of_block e3).trans z0;go_simp;try with_reducible rfl)
  simp only [List.set_cons_zero,List.set_cons_succ]
  refine tD 6 61 (v:=?_) ⟨rfl,rfl⟩ ?_ ?_
  rotate_left
  ·(intro w' hw';(try dsimp only at hw');go_simp;try with_reducible rfl)
  simp only [List.set_cons_zero,List.set_cons_succ]
  refine tD 7 62 (v:=?_) ⟨rfl,rfl⟩ ?_ ?_
  rotate_left
  ·(intro w' hw';obtain ⟨e1,e3⟩:=hw';obtain ⟨y0,y1,y2⟩:=y.out;obtain ⟨z0,z1,z2,z3⟩:=z.out;replace z1:=(World.cell?_of_block e3).trans z1;replace z2:=(World.cell?_of_block e3).trans z2;replace z3:=(World.cell?_of_block e3).trans z3;go_simp;try with_reducible rfl)
  simp only [List.set_cons_zero,List.set_cons_succ]
  refine wpAnyH_meet 8 12 rfl rfl (by kernel_rfl) (fun v' G w'=>w5.heap.size≤G∧w'.heap[G]?=some svZero∧RSrv (fun j=>l4.N g j∧j≠G) w' v' t∧Below w5.heap.size w5 w') ?_
  apply Exists.intro
  refine ⟨?_, ?_, ?_⟩
  ·intro hG K' hK'
   rw [if_pos (by rfl)]
   go_simp
   refine C1.out.mono ?_
   rintro e w6 ⟨v',rfl,hv',hb6⟩
   have hS:w6.heap[g]?=w5.heap[g]?∧w6.heap[w.heap.size]?=w5.heap[w.heap.size]?:=⟨hb6.block _ hlg,hb6.block _ hlb⟩
   refine hK'.out _ _ hS ?_
   clear hK' K'
   refine tD 9 54 (v:=?_) hS ?_ ?_
   rotate_left
   ·(intro w' hw';(try dsimp only at hw');go_simp;try with_reducible rfl)
   simp only [List.set_cons_zero,List.set_cons_succ]
   refine tD 10 64 (v:=?_) hS ?_ ?_
   rotate_left
   ·(intro w' hw';(try dsimp only at hw');go_simp;try with_reducible rfl)
   simp only [List.set_cons_zero,List.set_cons_succ]
   refine tD 11 65 (v:=?_) hS ?_ ?_
   rotate_left
   ·(intro w' hw';(try dsimp only at hw');go_simp;try with_reducible rfl)
   simp only [List.set_cons_zero,List.set_cons_succ]
   refine wpAnyH_step 12 rfl (by kernel_rfl) (fun K' hK'=>?_)
   rw [if_pos (by rfl)]
   go_simp
   have hb7:Below w6.heap.size w6 (w6.alloc svZero):=bal (brf w6) _
   have hb7':=hb6.trans (hb7.mono hb6.size)
   have hS2:(w6.alloc svZero).heap[g]?=w5.heap[g]?∧(w6.alloc svZero).heap[w.heap.size]?=w5.heap[w.heap.size]?:=⟨hb7'.block _ hlg,hb7'.block _ hlb⟩
   have hI:w5.heap.size≤w6.heap.size∧(w6.alloc svZero).heap[w6.heap.size]?=some svZero∧RSrv (fun j=>l4.N g j∧j≠w6.heap.size) (w6.alloc svZero) v' t∧Below w5.heap.size w5 (w6.alloc svZero):=⟨hb6.size,heap_new _ _,RSrv.to (RSrv.to hv' (Kp.lt w6)) (fun j hj hl=>⟨⟨hj.1,by omega⟩,hb7.block j hl⟩),hb7'⟩
   obtain ⟨w7,hw7⟩:∃ w7,w6.alloc (.cells #[.slice none 0 0,.slice none 0 0,.slice none 0 0] 26)=w7:=⟨_,rfl⟩
   obtain ⟨G,hGe⟩:∃ G,w6.heap.size=G:=⟨_,rfl⟩
   rw [hw7,hGe]
   rw [hw7] at hS2 hI
   rw [hGe] at hI
   refine hK'.out _ _ hS2 ?_
   clear hK' K'
   exact hG _ _ _ hI hS2
  ·intro hG K' hK'
   rw [if_pos (by rfl)]
   go_simp
   have hS:(w5.alloc svZero).heap[g]?=w5.heap[g]?∧(w5.alloc svZero).heap[w.heap.size]?=w5.heap[w.heap.size]?:=⟨hba.block _ hlg,hba.block _ hlb⟩
   refine hK'.out _ _ hS ?_
   clear hK' K'
   refine wpAnyH_step 8 rfl (by kernel_rfl) (fun K' hK'=>?_)
   rw [if_pos (by rfl)]
   go_simp
   refine C2.out.mono ?_
   rintro e w7 ⟨v',rfl,hv',hb7⟩
   have hb7':=hba.trans (hb7.mono hba.size)
   have hS2:w7.heap[g]?=w5.heap[g]?∧w7.heap[w.heap.size]?=w5.heap[w.heap.size]?:=⟨hb7'.block _ hlg,hb7'.block _ hlb⟩
   have hI:w5.heap.size≤w5.heap.size∧w7.heap[w5.heap.size]?=some svZero∧RSrv (fun j=>l4.N g j∧j≠w5.heap.size) w7 v' t∧Below w5.heap.size w5 w7:=⟨Nat.le_refl _,(hb7.block _ (by simp)).trans (heap_new w5 svZero),hv',hb7'⟩
   refine hK'.out _ _ hS2 ?_
   clear hK' K'
   refine tD 9 54 (v:=?_) hS2 ?_ ?_
   rotate_left
   ·(intro w' hw';(try dsimp only at hw');go_simp;try with_reducible rfl)
   simp only [List.set_cons_zero,List.set_cons_succ]
   refine tD 10 64 (v:=?_) hS2 ?_ ?_
   rotate_left
   ·(intro w' hw';(try dsimp only at hw');go_simp;try with_reducible rfl)
   simp only [List.set_cons_zero,List.set_cons_succ]
   refine tD 11 65 (v:=?_) hS2 ?_ ?_
   rotate_left
   ·(intro w' hw';(try dsimp only at hw');go_simp;try with_reducible rfl)
   simp only [List.set_cons_zero,List.set_cons_succ]
   exact wpAnyH_listed (by kernel_rfl) (hG _ _ _ hI hS2)
  rintro v G w6 ⟨hG,hG6,⟨a1,l1,n1,rfl,r1,r2,r3⟩,hb6⟩ hS6
  obtain ⟨aa',ac',rfl,_⟩:=RdS.len r1
  obtain ⟨la',lc',rfl,_⟩:=RdS.len r2
  obtain ⟨na',nc',rfl,_⟩:=RdS.len r3
  have R6:=Lib.hid (And.intro r1 (And.intro r2 r3))
  have hth:=there3 hG6
  have hG6:=Lib.hid hG6
  clear C1 C2 r1 r2 r3
  refine wpAnyH_step 13 rfl (by kernel_rfl) (fun K' hK'=>?_)
  rw [if_pos (by rfl)]
  refine wp_store_mid 26 (.tmp 7) (.tmp 64) rfl G 0 #[.slice aa' t.first.length ac',.slice la' t.log.length lc',.slice na' t.now.length nc'] rfl rfl hth (by kernel_rfl) (by simp [Value.oneCell']) ?_
  have hb7:Below w5.heap.size w5 (w6.setCells G 0 [.slice aa' t.first.length ac',.slice la' t.log.length lc',.slice na' t.now.length nc']):=below_setCells hG _ _ _ hb6
  have hr7:=World.rangeAt_setCells_same w6 G 0 [.slice aa' t.first.length ac',.slice la' t.log.length lc',.slice na' t.now.length nc'] hth
  obtain ⟨w7,hw7⟩:∃ w7,w6.setCells G 0 [.slice aa' t.first.length ac',.slice la' t.log.length lc',.slice na' t.now.length nc']=w7:=⟨_,rfl⟩
  have kp7:Kp (fun j=>l4.N g j∧j≠G) (fun j=>l4.N g j∧j≠G) w6 w7:=fun j hj _=>⟨hj,by rw [← hw7];exact heap_setCells_other _ _ _ _ _ hj.2⟩
  rw [hw7] at hb7 hr7
  show K' _ (w6.setCells G 0 [.slice aa' t.first.length ac',.slice la' t.log.length lc',.slice na' t.now.length nc'])
  rw [hw7]
  have RS7:=Lib.hid (show RSrv (fun j=>l4.N g j∧j≠G) w7 (.agg #[.slice aa' t.first.length ac',.slice la' t.log.length lc',.slice na' t.now.length nc']) t from ⟨_,_,_,rfl,RItems.to R6.out.1 kp7,RLog.to R6.out.2.1 kp7,RItems.to R6.out.2.2 kp7⟩)
  clear hw7 kp7
  refine hK'.out _ _ ⟨hb7.block _ hlg,hb7.block _ hlb⟩ ?_
  clear hK' K'
  refine tD 14 8 (v:=?_) ⟨hb7.block _ hlg,hb7.block _ hlb⟩ ?_ ?_
  rotate_left
  ·(intro w' hw';(try dsimp only at hw');go_simp;try with_reducible rfl)
  simp only [List.set_cons_zero,List.set_cons_succ]
  refine wpAnyH_done (by kernel_rfl) ?_ _
  have W7:=Lib.hid (W5.out.below hb7)
  have hB7:Below B w w7:=(hB4.trans (hb5.mono (by have:=hB4.size;omega))).trans (hb7.mono (by have:=hb5.size;have:=hB4.size;omega))
  have K7:Hid (Kp (l.N g) (l4.N g) w w7):=Lib.hid (Kp.trans K4.out hB4.size (Kp.below (hb5.trans (hb7.mono hb5.size))))
  have R7:w7.cell? ⟨G,0,none⟩=some (.slice aa' t.first.length ac')∧w7.cell? ⟨G,1,none⟩=some (.slice la' t.log.length lc')∧w7.cell? ⟨G,2,none⟩=some (.slice na' t.now.length nc'):=by
   refine ⟨?_, ?_, ?_⟩
   ·simpa using hr7 0 _ rfl
   ·simpa using hr7 1 _ rfl
   ·simpa using hr7 2 _ rfl
  have R7:=Lib.hid R7
  have hN7:=Lib.hid ((hb7.block _ hlb).trans hN5.out)
  clear hr7 hS6 hb6 hth hlg hlb hba y z
  by_cases he:er=0
  ·subst he
   have e1:=eV.out
   clear eV
   rw [if_neg (by simp)] at e1
   simp only [Prod.mk.injEq] at e1
   obtain ⟨e2,rfl⟩:=e1
   obtain ⟨aa3,ac3,la3,lc3,na3,nc3,x0,x1,x2,_⟩:=W7.out.srv
   have fg7:∀ i,w7.frozen? ⟨g,i,none⟩=false:=fun i=>by obtain ⟨_,_,_,e,_⟩:=W7.out.box;exact Lib.frozen_of_heap e _
   have f0:=fg7 0
   have f1:=fg7 1
   have f2:=fg7 2
   obtain ⟨z0,z1,z2⟩:=R7.out
   have hGg:G≠g:=by have:=lt_of_cell x0;obtain ⟨_,_,_,e,_⟩:=W5.out.box;have:=lt_of_heap e;omega
   have RSb:=RSrv.to RS7.out (Kp.weak w7 (fun j hj=>hj.1):Kp (fun j=>l4.N g j∧j≠G) (l4.N g) w7 w7)
   have W8:=Lib.hid (W7.out.setSrv RSb)
   have hgB:=h.out.gB
   have hB8:=Lib.hid (((hB7.setCell (p:=⟨g,0,none⟩) hgB (.slice aa' t.first.length ac')).setCell (p:=⟨g,1,none⟩) hgB (.slice la' t.log.length lc')).setCell (p:=⟨g,2,none⟩) hgB (.slice na' t.now.length nc'))
   obtain ⟨hlen,hokt,hne⟩:W.s.log.length≤t.log.length∧SrvOk t∧t.log≠[]:=by
    have hc:=SrvOk.of (law_folds hr).1
    obtain ⟨_,_,h1 | h1⟩:=takeP_cases hr
    ·rw [h1.2];rw [h1.2] at hc
     exact ⟨Nat.le_refl _,hc,fun e=>by have:=h1.1;rw [e] at this;simp [hasP] at this⟩
    ·obtain ⟨_,_,_,_,o',_,_,h4⟩:=h1
     refine ⟨?_,hc, ?_⟩ <;> rw [h4] <;> simp
   go_upto_region 12 with fail
   refine name_world ?_
   intro w8 hw8
   have hs8:∀ j,j≠g→w8.heap[j]?=w7.heap[j]?:=fun j hj=>by
    rw [← hw8,heap_setCell_other _ _ _ _ hj,heap_setCell_other _ _ _ _ hj,heap_setCell_other _ _ _ _ hj]
   rw [hw8] at W8 hB8
   have kp8:Kp (fun j=>l4.N g j∧j≠G) (l4.N g) w7 w8:=fun j hj _=>⟨hj.1,hs8 j (fun e=>hj.1 (Or.inl e))⟩
   have K8:Hid (Kp (l.N g) (l4.N g) w w8):=Lib.hid (Kp.trans K7.out hB7.size (fun j hj _=>⟨hj,hs8 j (fun e=>hj (Or.inl e))⟩))
   have RS8:=Lib.hid (RSrv.to RS7.out kp8)
   replace z0:w8.cell? ⟨G,0,none⟩=_:=(World.cell?_of_block (hs8 G hGg)).trans z0
   replace z1:w8.cell? ⟨G,1,none⟩=_:=(World.cell?_of_block (hs8 G hGg)).trans z1
   clear hw8 x0 x1 x2 f0 f1 f2 fg7 RSb
   obtain ⟨lb,lo,sa,hlo,rfl,hsl,htl⟩:=log_tail hlen hne RS8.out
   have hnn:(0:Int)≤(W.s.log.length:Int):=by omega
   have hnl:(W.s.log.length:Int)≤(t.log.length:Int):=by omega
   have RSx:=RS8.out
   have HT:=Lib.hid htl
   obtain ⟨D,hDe⟩:∃ D,D=t.log.drop W.s.log.length:=⟨_,rfl⟩
   have hDl:D.length=t.log.length - W.s.log.length:=by rw [hDe];simp
   have hGN:l4.N g G:=W5.out.new G hG
   have hens:=Lib.hid (show ∀ x ∈ D,opSm x.o from fun x hx=>hokt.lens.2.2.2 x (List.mem_of_mem_drop (by rw [hDe] at hx;exact hx)))
   rw [← hDe] at HT e2
   have hVe:=Lib.hid e2
   clear e2
   have hI0:=Lib.hid (show SvI B g l4 w8 W.cl.length w8 { W with up:=W.up.set k q,s:=t } from ⟨⟨l4,W8.out,fun j hj _=>⟨hj,rfl⟩⟩,⟨rfl,by simpa using hul,hdl⟩,Below.refl _ _⟩)
   have hG8:=Lib.hid (And.intro z0 z1)
   have hB8':=hB8
   clear RSx htl
   go_wp2_with fail
   go_loopw [86] (fun i wr=>∃ (j:Nat) (V':Wd),j≤t.log.length - W.s.log.length∧i=.int .i64 j∧Hid (downs V' t.log.length (D.drop j)=downs { W with up:=W.up.set k q,s:=t } t.log.length D)∧Hid (SvI B g l4 w8 W.cl.length wr V')) (fun i _=>(t.log.length - W.s.log.length) - (intOf i).toNat)
   case atStart=>exact ⟨0,_,Nat.zero_le _,rfl,Lib.hid (by simp),hI0⟩
   case round =>
    clear z0 z1
    rename World=>wo
    obtain ⟨j,V',hj,rfl,hd,hI⟩:=hrel
    by_cases hlt:j < t.log.length - W.s.log.length
    ·obtain ⟨x,hx⟩:∃ x,D[j]?=some x:=⟨_,List.getElem?_eq_getElem (by omega)⟩
     obtain ⟨⟨l',hW',hkp⟩,hsh,hBr⟩:=hI.out
     obtain ⟨b,o,ov,e1,hr1,c0,c1,c2⟩:=RLog.at (RLog.to HT.out hkp) (Below.refl _ _) hx
     subst e1
     obtain ⟨oa',oc',rfl,_⟩:=RdS.len hr1
     have hW':=Lib.hid hW'
     have hr1:=Lib.hid hr1
     go_upto_region 15 with fail
     refine name_world ?_
     intro w10 hw10
     have hb10:Below wo.heap.size wo w10:=by rw [← hw10];exact bal (brf wo) _
     have hN10:=heap_new wo (.cells #[.int .i64 x.client,.int .i64 x.seq,.slice oa' x.o.length oc'] 77)
     rw [hw10] at hN10
     have hN10:=Lib.hid hN10
     have hst:downs V' t.log.length (D.drop j)=downs (allDown V' ⟨t.log.length,x⟩ W.cl.length) t.log.length (D.drop (j+1)):=by
      rw [List.drop_eq_getElem_cons (by omega:j < D.length),show D[j]=x by rw [List.getElem?_eq_getElem (by omega)] at hx;simpa using hx]
      simp only [downs]
      rw [hsh.cl]
     have hst:=Lib.hid hst
     have hox:=Lib.hid (hens.out x (List.mem_of_getElem? hx))
     clear hw10 c0 c1 c2 hx
     have W10:=Lib.hid (hW'.out.below hb10)
     have hkp10:=hkp.trans hBr.size (Kp.below hb10)
     have hXN:l'.N g wo.heap.size:=hW'.out.new _ (Nat.le_refl _)
     have hG10:Hid (w10.cell? ⟨G,0,none⟩=some (.slice aa' t.first.length ac')∧w10.cell? ⟨G,1,none⟩=some (.slice (some ⟨lb,lo,none⟩) t.log.length lc')):=
      Lib.hid ⟨(World.cell?_of_block (hkp10 G hGN (lt_of_cell hG8.out.1)).2).trans hG8.out.1,(World.cell?_of_block (hkp10 G hGN (lt_of_cell hG8.out.1)).2).trans hG8.out.2⟩
     have hGN':=(hkp10 G hGN (lt_of_cell hG8.out.1)).1
     obtain ⟨gc1,gu1,gd1,cc1,cu1,cd1,c1,b1,n1,s1,hh1,uq1,dq1,H1⟩:=W10.out.facts (k:=k) (by rw [hsh.cl];exact hk) (by rw [hsh.ul,hsh.cl]) (by rw [hsh.dl,hsh.cl])
     have x3:=H1.b3
     rw [hsh.cl] at x3
     have hr10:=Lib.hid (ROp.to hr1.out (Kp.below hb10))
     clear H1
     go_wp2_with fail
     go_loopw [95] (fun i wi=>∃ i':Nat,i'≤W.cl.length∧i=.int .i64 i'∧Hid (SvI B g l' w10 W.cl.length wi (allDown V' ⟨t.log.length,x⟩ i'))) (fun i _=>W.cl.length - (intOf i).toNat)
     case atStart=>exact ⟨0,Nat.zero_le _,rfl,Lib.hid ⟨⟨l',W10.out,fun j hj _=>⟨hj,rfl⟩⟩,hsh,Below.refl _ _⟩⟩
     case round =>
      clear x3
      obtain ⟨i',hi',rfl,hI2⟩:=hrel
      by_cases hlt2:i' < W.cl.length
      ·obtain ⟨⟨l2,hW2,hkp2⟩,hsh2,hBr2⟩:=hI2.out
       have hW2:=Lib.hid hW2
       have y1:=(World.cell?_of_block (hkp2 G hGN' (lt_of_cell hG10.out.1)).2).trans hG10.out.2
       obtain ⟨q0,q1,q2⟩:=cell3 ((hkp2 wo.heap.size hXN (lt_of_heap hN10.out)).2.trans hN10.out)
       have C:=Lib.hid (wdDown_any B g l2 _ (allDown V' ⟨t.log.length,x⟩ i') i' ⟨t.log.length,x⟩ (.slice oa' x.o.length oc') hW2.out (by rw [hsh2.cl];exact hlt2) (by rw [hsh2.ul,hsh2.cl]) (by rw [hsh2.dl,hsh2.cl]) (ROp.to hr10.out hkp2) hox.out)
       go_wp2_with fail
       refine C.out.mono ?_
       rintro e w11 ⟨rfl,⟨l3,hW3,hkp3⟩,hb11⟩
       clear y1 q0 q1 q2 C
       have hI3:=Lib.hid (show SvI B g l' w10 W.cl.length w11 (allDown V' ⟨t.log.length,x⟩ (i'+1)) from ⟨⟨l3,hW3,hkp2.trans hBr2.size hkp3⟩,(downW_shp hsh2 _).1,hBr2.trans hb11⟩)
       clear hW3 hkp3 hb11
       go_wp2
       go_roundw
       case rel=>exact ⟨i'+1,by omega,by go_num,hI3⟩
       case measure=>simp [intOf];omega
      ·obtain rfl:i'=W.cl.length:=by omega
       obtain ⟨⟨l2,hW2,hkp2⟩,hsh2,hBr2⟩:=hI2.out
       have hBw:B≤wo.heap.size:=by have:=hB8.out.size;have:=hBr.size;omega
       have hI4:=Lib.hid (show SvI B g l4 w8 W.cl.length _ (allDown V' ⟨t.log.length,x⟩ W.cl.length) from ⟨⟨l2,hW2,hkp10.trans ((hBr.trans (hb10.mono hBw)).size) hkp2⟩,hsh2,(hBr.trans (hb10.mono hBw)).trans hBr2⟩)
       clear hW2 hkp2 hI2
       go_wp2
       go_roundw
       case rel=>exact ⟨j+1,_,by omega,by go_num,Lib.hid (by rw [← hd.out,hst.out]),hI4⟩
       case measure=>simp [intOf];omega
    ·obtain rfl:j=t.log.length - W.s.log.length:=by omega
     obtain ⟨⟨l',hW',hkp⟩,hsh,hBr⟩:=hI.out
     have hV2:V=V':=by
      rw [hVe.out,← hd.out,List.drop_of_length_le (by omega)]
      rfl
     subst hV2
     have hW':=Lib.hid hW'
     clear hI hd
     go_wp2
     go_ret
     exact ⟨rfl,⟨l',hW'.out,Kp.trans K8.out hB8.out.size hkp⟩,hB8.out.trans hBr⟩
  ·have eV:=eV.out
   rw [if_pos he] at eV
   cases eV
   have he':(er == 0)=false:=by simpa using he
   have C3:=Lib.hid (wdDown_any B g l4 w7 { W with up:=W.up.set k q } k ⟨0,⟨k,m.e.seq,[]⟩⟩ (.slice none 0 0) W7.out hk (by simpa using hul) hdl RdS.nil ⟨by simp,by simp⟩)
   obtain ⟨z0,z1,z2,z3⟩:=cell4 hN7.out
   clear hr
   go_wp2_with fail
   refine C3.out.mono ?_
   rintro e w10 ⟨rfl,⟨l10,hl10,hk10⟩,hb10⟩
   go_wp2_with fail
   go_ret
   exact ⟨rfl,⟨l10,hl10,Kp.trans K7.out hB7.size hk10⟩,hB7.trans hb10⟩
end Go.Proofs.YteikncnldbdfmaaGreatDoor
