import Derived.Test.YteikncnldbdfmaaGreatDoorMWdD
import Derived.Test.YteikncnldbdfmaaGreatDoorMCloneW
import Derived.Test.YteikncnldbdfmaaGreatDoorMRegT
namespace Go.Proofs.YteikncnldbdfmaaGreatDoor
open Go.RowKit Go.Mh
theorem OwnS.head {B:Nat} {N:Nat→Prop} {w:World} {v:Value} {m:Msg} {q:List Msg} (h:OwnS B TM 4 (RMsg N) w v (m :: q)) :
  ∃ gq cap ov,v=.slice (some ⟨gq,0,none⟩) (q.length+1) cap∧w.cell? ⟨gq,0,none⟩=some (.int .i64 m.rev)∧w.cell? ⟨gq,1,none⟩=some (.int .i64 m.e.client)∧w.cell? ⟨gq,2,none⟩=some (.int .i64 m.e.seq)∧w.cell? ⟨gq,3,none⟩=some ov∧ROp N w ov m.e.o ∧
   1≤cap∧∃ ta:Option Addr,(if cap=1 then some (⟨gq,0,none⟩:Addr) else some ⟨gq,4,none⟩)=ta∧RdS 4 (RMsg N) (fun _=>True) w (.slice ta q.length (cap - 1)) q:=by
 obtain ⟨gq,cap,cur,rfl,_,_⟩:=h.shape (by simp)
 have hr:=h.rd
 obtain ⟨cs,⟨ov,rfl,ho⟩,_,hc⟩:=h.at (k:=0) (x:=m) rfl
 have hcap:=hr.capLe
 simp at hcap
 have hr2:RdS 4 (RMsg N) (fun _=>True) w (.slice (some ⟨gq,0,none⟩) (q.length+1) cap) (m :: q):=RdS.to hr (by decide) (fun k _ _=>⟨trivial,rfl⟩) (fun _ _ _ r=>r)
 refine ⟨gq,cap,ov,rfl,by simpa using hc 0 _ rfl,by simpa using hc 1 _ rfl,by simpa using hc 2 _ rfl,by simpa using hc 3 _ rfl,ho,by omega,_,rfl, ?_⟩
 by_cases h1:cap=1
 ·subst h1
  have:q=[]:=List.eq_nil_of_length_eq_zero (by omega)
  subst this
  simp
  exact RdS.nil0
 ·rw [if_neg h1]
  have:=hr2.tail
  simpa using this
theorem there7 {w:World} {G:Nat} (h:w.heap[G]?=some clZero):w.there G 0 7:=fun j hj=>by
 refine ⟨?_,Lib.frozen_of_heap h _⟩
 rw [Nat.zero_add]
 obtain ⟨q0,q1,q2,q3,q4,q5,q6⟩:=cell7 h
 match j,hj with
 | 0,_=>rw [q0];rfl
 | 1,_=>rw [q1];rfl
 | 2,_=>rw [q2];rfl
 | 3,_=>rw [q3];rfl
 | 4,_=>rw [q4];rfl
 | 5,_=>rw [q5];rfl
 | 6,_=>rw [q6];rfl
theorem grown_of {w w':World} {r:Option Nat} (h:Below w.heap.size w w'):w.grownBy w' r:=⟨h.os,h.tape,h.output,h.size,fun k hk _=>h.block k hk⟩
theorem low {α:Type} {b b' e sz:Nat} {R:World→List Value→α→Prop} {w:World} {v:Value} {L:List α} (h:OwnS b e sz R w v L) (hb:b'≤b):OwnS b' e sz R w v L:=by
 obtain ⟨css,⟨h0,h1⟩,h2⟩:=h
 refine ⟨css,⟨h0, ?_⟩,h2⟩
 rcases h1 with e | ⟨g,cap,cur,e,hg,r⟩
 ·exact Or.inl e
 ·exact Or.inr ⟨g,cap,cur,e,Nat.le_trans hb hg,r⟩
set_option maxRecDepth 100000 in
set_option maxHeartbeats 4000000 in
theorem wdHear_any (B g:Nat) (l:Lay) (w:World) (W:Wd) (k:Nat) (h:WAt B g l w W) (hk:k < W.cl.length) (hul:W.up.length=W.cl.length) (hdl:W.down.length=W.cl.length) (hql:(downAt W k).length≤100000) :
  Calls Tryz.prog 98 #[.pointer (some ⟨g,0,none⟩),.int .i64 k] w fun e w'=>e=.returned (.int .i64 (hearW W k).2)∧(∃ l',WAt B g l' w' (hearW W k).1∧Kp (l.N g) (l'.N g) w w')∧Below B w w':=by
 obtain ⟨gc,gu,gd,cc,cu,cd,c,b,n,s,hh,uq,dq,H⟩:=h.facts hk hul hdl
 have ec:clAt W k=c:=getD_some H.hc
 obtain ⟨L,hL⟩:∃ L,W.down[k]?=some L:=⟨_,List.getElem?_eq_getElem (by omega)⟩
 have eL:downAt W k=L:=getD_some hL
 rw [eL] at hql
 have hBs:B≤w.heap.size:=by have:=h.gB;obtain ⟨_,kg⟩:=H.kg;have:=lt_of_heap kg;omega
 have hBc:B≤gc:=(h.cl.cells (k:=gc) (by rw [H.vc];rfl)).1
 have hBd:B≤gd:=(h.dR.cells (k:=gd) (by rw [H.vd];rfl)).1
 have hq:=h.qd k dq L H.hd hL
 obtain ⟨⟨V,E⟩,hV⟩:∃ r,hearW W k=r:=⟨_,rfl⟩
 rw [hV]
 cases L with
 | nil =>
  have e:(V,E)=(W,7):=by rw [← hV];unfold hearW;rw [eL]
  cases e
  obtain ⟨da,dc,rfl,_⟩:=RdS.len hq.rd
  have x5:=H.b5
  have xd:=H.d
  have h:=Lib.hid h
  simp only [List.length_nil] at xd
  clear H hq hL eL ec hV
  go_enter Tryz.func98,Tryz.ntmps98
  go_wp2_with fail
  go_ret
  exact ⟨rfl,⟨_,h.out,Kp.weak w fun _ h=>h⟩,Below.refl _ _⟩
 | cons m q =>
  obtain ⟨gq,cap,ov,rfl,m0,m1,m2,m3,hov,hcap,ta,hta,htail⟩:=OwnS.head hq
  obtain ⟨oa,oc,rfl,_⟩:=RdS.len hov
  have HF:=Lib.hid H
  have h:=Lib.hid h
  have hq:=Lib.hid hq
  have x5:=H.b5
  have xd:=H.d
  have htail:=Lib.hid htail
  have hov:=Lib.hid hov
  have hql':=Lib.hid (show q.length≤100000 by simp at hql;omega)
  have hl0:((q.length:Int)+1 == 0)=false:=by rw [beq_eq_false_iff_ne];omega
  have hta:=Lib.hid hta
  have hcap:=Lib.hid hcap
  clear H hql
  go_enter Tryz.func98,Tryz.ntmps98
  go_upto_region 4 with fail
  refine name_world ?_
  intro w1 hw1
  have hb1:Below w.heap.size w w1:=by rw [← hw1];exact bal (brf w) _
  have hN1:=heap_new w (.cells #[.int .i64 m.rev,.int .i64 m.e.client,.int .i64 m.e.seq,.slice oa m.e.o.length oc] 79)
  rw [hw1] at hN1
  have hN1:=Lib.hid hN1
  clear hw1 x5 xd m0 m1 m2 m3 hl0
  obtain ⟨w2,hw2⟩:∃ w2,w1.drew=w2:=⟨_,rfl⟩
  have hb2:Below w.heap.size w w2:=by rw [← hw2];exact Go.below_drewN hb1 1
  have hN2:Hid (w2.heap[w.heap.size]?=some (.cells #[.int .i64 m.rev,.int .i64 m.e.client,.int .i64 m.e.seq,.slice oa m.e.o.length oc] TM (0,0))):=Lib.hid (by rw [← hw2];exact hN1.out)
  have h2:=Lib.hid (h.out.below hb2)
  have HF2:=Lib.hid (HF.out.below hb2)
  have Q2:w2.cell? ⟨g,5,none⟩=some (.slice (some ⟨gd,0,none⟩) W.cl.length cd)∧w2.cell? ⟨gd,k,none⟩=some (.slice (some ⟨gq,0,none⟩) (q.length+1) cap):=⟨HF2.out.b5,HF2.out.d⟩
  have CM:=Lib.hid (cloneMsgs_any (l.N g) (fun _=>True) (.slice ta q.length (cap - 1)) q w2 (RdS.to htail.out (by decide) (fun j _ hj=>⟨trivial,hb2.block j hj⟩) (fun _ _ _ r=>RMsg.to r (Kp.below hb2))) hql'.out)
  have hta':=hta.out
  have hcap':=hcap.out
  have h11:(1:Int)≤(q.length:Int)+1:=by omega
  refine wp_region_G 15 (fun w'=>w'.cell? ⟨g,5,none⟩=some (.slice (some ⟨gd,0,none⟩) W.cl.length cd)∧w'.cell? ⟨gd,k,none⟩=some (.slice (some ⟨gq,0,none⟩) (q.length+1) cap)) (fun w'=>True) (by kernel_rfl) ?_
  show wpAnyG _ _ _ _ _ _ _ _ _ _ (World.drew _)
  rw [hw2]
  clear hw2
  refine tG 16 0 27 (v:=?_) trivial Q2 ?_ ?_
  rotate_left
  ·(intro w' hw';(try dsimp only at hw');go_simp;try with_reducible rfl)
  simp only [List.set_cons_zero,List.set_cons_succ]
  refine tG 16 1 28 (v:=?_) trivial Q2 ?_ ?_
  rotate_left
  ·(intro w' hw';(try dsimp only at hw');go_simp;try with_reducible rfl)
  simp only [List.set_cons_zero,List.set_cons_succ]
  refine tG 16 2 29 (v:=?_) trivial Q2 ?_ ?_
  rotate_left
  ·(intro w' hw';(try dsimp only at hw');go_simp;try with_reducible rfl)
  simp only [List.set_cons_zero,List.set_cons_succ]
  refine tG 16 3 30 (v:=?_) trivial Q2 ?_ ?_
  rotate_left
  ·(intro w' hw';obtain ⟨p5,pd⟩:=hw';go_simp;try with_reducible rfl)
  simp only [List.set_cons_zero,List.set_cons_succ]
  refine tG 16 4 31 (v:=?_) trivial Q2 ?_ ?_
  rotate_left
  ·(intro w' hw';(try dsimp only at hw');go_simp;try with_reducible rfl)
  simp only [List.set_cons_zero,List.set_cons_succ]
  refine tG 16 5 32 (v:=?_) trivial Q2 ?_ ?_
  rotate_left
  ·(intro w' hw';(try dsimp only at hw');go_simp;try with_reducible rfl)
  simp only [List.set_cons_zero,List.set_cons_succ]
  refine tG 16 6 33 (v:=?_) trivial Q2 ?_ ?_
  rotate_left
  ·(intro w' hw';(try dsimp only at hw');go_simp;try with_reducible rfl)
  simp only [List.set_cons_zero,List.set_cons_succ]
  refine tG 16 7 34 (v:=?_) trivial Q2 ?_ ?_
  rotate_left
  ·(intro w' hw';(try dsimp only at hw');go_simp;try with_reducible rfl)
  simp only [List.set_cons_zero,List.set_cons_succ]
  refine tG 16 8 35 (v:=?_) trivial Q2 ?_ ?_
  rotate_left
  ·(intro w' hw';obtain ⟨p5,pd⟩:=hw';go_simp;try with_reducible rfl)
  simp only [List.set_cons_zero,List.set_cons_succ]
  refine tG 16 9 36 (v:=?_) trivial Q2 ?_ ?_
  rotate_left
  ·(intro w' hw';(try dsimp only at hw');go_simp;try with_reducible rfl)
  simp only [List.set_cons_zero,List.set_cons_succ]
  refine tG 16 10 37 (v:=?_) trivial Q2 ?_ ?_
  rotate_left
  ·(intro w' hw';(try dsimp only at hw');go_simp;try with_reducible rfl)
  simp only [List.set_cons_zero,List.set_cons_succ]
  refine tG 16 11 38 (v:=?_) trivial Q2 ?_ ?_
  rotate_left
  ·(intro w' hw';obtain ⟨p5,pd⟩:=hw';go_simp;try with_reducible rfl)
  simp only [List.set_cons_zero,List.set_cons_succ]
  refine tG 16 12 39 (v:=?_) trivial Q2 ?_ ?_
  rotate_left
  ·(intro w' hw';go_simp;(try rw [if_pos h11]);exact rfl)
  simp only [List.set_cons_zero,List.set_cons_succ]
  refine wpAnyG_step 13 rfl (by kernel_rfl) (fun K' hK'=>?_)
  rw [if_pos (by rfl)]
  go_simp
  refine CM.out.mono ?_
  rintro e w3 ⟨u3,rfl,hu3,hb3⟩
  obtain ⟨ua3,uc3,rfl,_⟩:=RdS.len hu3.rd
  have hu3:=Lib.hid hu3
  have Q3:w3.cell? ⟨g,5,none⟩=some (.slice (some ⟨gd,0,none⟩) W.cl.length cd)∧w3.cell? ⟨gd,k,none⟩=some (.slice (some ⟨gq,0,none⟩) (q.length+1) cap):=⟨(hb3.cell (lt_of_cell Q2.1)).trans Q2.1,(hb3.cell (lt_of_cell Q2.2)).trans Q2.2⟩
  have fd3:=(HF2.out.below hb3).fd k
  have yd3:=Q3.2
  refine hK'.out _ _ trivial (fun _=>Q3) ?_
  clear hK' K'
  refine tG 16 14 41 (v:=?_) trivial Q3 ?_ ?_
  rotate_left
  ·(intro w' hw';(try dsimp only at hw');go_simp;try with_reducible rfl)
  simp only [List.set_cons_zero,List.set_cons_succ]
  refine wpAnyG_step 15 rfl (by kernel_rfl) (fun K' hK'=>?_)
  rw [if_pos (by rfl)]
  go_simp
  refine hK'.out _ _ trivial (fun h=>absurd h (by decide)) ?_
  clear hK' K'
  refine wpAnyG_done (by kernel_rfl) ?_ _
  have hu4:=Lib.hid (OwnS.to (w':=w3) (R':=RMsg (fun j=>l.N g j∧j < w2.heap.size)) (low hu3.out (b':=B) (by have:=hb2.size;omega)) (fun _ _ _=>rfl) (fun _ _ _ r=>r))
  have hlo:∀ j,(Value.slice ua3 q.length uc3).ownBlock=some j→(Value.slice (some ⟨gq,0,none⟩) (q.length+1) cap).ownBlock=some j∨w2.heap.size≤j:=fun j hj=>Or.inr (hu3.out.own_lt hj).1
  have W4:=Lib.hid (h2.out.downPush HF2.out.vd HF2.out.hd (grown_of hb3) hlo rfl hu4.out)
  have hB4:Below B w (w3.setCell ⟨gd,k,none⟩ (.slice ua3 q.length uc3)):=((hb2.mono hBs).trans (hb3.mono (by have:=hb2.size;omega))).setCell (p:=⟨gd,k,none⟩) hBd _
  obtain ⟨l4,hl4⟩:∃ l4:Lay,l4={ l with ds:=l.ds.set k (.slice ua3 q.length uc3) }:=⟨_,rfl⟩
  have kp4:Kp (fun j=>l.N g j∧j < w.heap.size) (l4.N g) w (w3.setCell ⟨gd,k,none⟩ (.slice ua3 q.length uc3)):=fun j hj hl=>by
   have hjd:j≠gd:=fun e=>hj.1 (Or.inr ⟨l.vd,by simp,by rw [HF.out.vd,e];rfl⟩)
   refine ⟨by rw [hl4];exact nDs HF2.out.hd hlo hj.1 (by have:=hb2.size;omega),(heap_setCell_other _ _ j _ hjd).trans ((hb3.block j (by have:=hb2.size;omega)).trans (hb2.block j hl))⟩
  have hN4:(w3.setCell ⟨gd,k,none⟩ (.slice ua3 q.length uc3)).heap[w.heap.size]?=some (.cells #[.int .i64 m.rev,.int .i64 m.e.client,.int .i64 m.e.seq,.slice oa m.e.o.length oc] TM (0,0)):=by
   have hlt:=lt_of_heap hN2.out
   have hgd:w.heap.size≠gd:=by obtain ⟨_,kd⟩:=HF.out.kd;have:=lt_of_heap kd;omega
   exact (heap_setCell_other _ _ _ _ hgd).trans ((hb3.block _ hlt).trans hN2.out)
  have hN4:=Lib.hid hN4
  have hov4:=Lib.hid (ROp.to (ROp.to hov.out (Kp.lt w)) kp4)
  have hs4:w.heap.size≤(w3.setCell ⟨gd,k,none⟩ (.slice ua3 q.length uc3)).heap.size:=by have:=hb2.size;have:=hb3.size;simp;omega
  go_upto_region 5 with fail
  refine name_world ?_
  intro w4 hw4
  rw [hw4] at W4 hB4 hN4 hov4 hs4 kp4
  have K4:Hid (Kp (l.N g) (l4.N g) w w4):=Lib.hid (fun j hj hl=>kp4 j ⟨hj,hl⟩ hl)
  rw [← hl4] at W4
  clear hw4 kp4
  -- the world behind the queue's step,at client k
  obtain ⟨gc',gu',gd',cc',cu',cd',c',b',n',s',hh',uq',dq',H4⟩:=W4.out.facts (k:=k) hk hul (by simpa using hdl)
  have evc:l.vc=l4.vc:=by rw [hl4]
  have evc:=HF.out.vc.symm.trans (evc.trans H4.vc)
  simp at evc
  obtain ⟨rfl,rfl⟩:=evc
  obtain rfl:c=c':=by have:=HF.out.hc.symm.trans H4.hc;simpa using this
  obtain ⟨w5,hw5⟩:∃ w5,w4.drew=w5:=⟨_,rfl⟩
  have hb5:Below w4.heap.size w4 w5:=by rw [← hw5];exact Go.below_drewN (Below.refl _ _) 1
  have W5:=Lib.hid (W4.out.below hb5)
  have HF5:=Lib.hid (H4.below hb5)
  have hN5:=Lib.hid ((hb5.block _ (lt_of_heap hN4.out)).trans hN4.out)
  have hov5:=ROp.to hov4.out (Kp.below hb5)
  have hrc5:RCl (l4.N g) w5 (.agg #[.int .i64 c.rev,b',n',.int .i64 c.seq,s',hh',.bool c.joined]) c:=⟨b',n',s',hh',rfl,HF5.out.rb,HF5.out.rn,HF5.out.rs,HF5.out.rh⟩
  have hba:Below w5.heap.size w5 (w5.alloc clZero):=bal (brf w5) _
  obtain ⟨⟨x,bb,er⟩,hr⟩:∃ r,hearC c k m=r:=⟨_,rfl⟩
  have C1:=clHear_N (l4.N g) _ _ c k m w5 hrc5 hov5 W5.out.new W5.out.not
  have C2:=clHear_N (fun j=>l4.N g j∧j≠w5.heap.size) _ _ c k m (w5.alloc clZero) (RCl.to hrc5 (fun j hj hl=>⟨⟨hj,by omega⟩,hba.block j hl⟩)) (ROp.to hov5 (fun j hj hl=>⟨⟨hj,by omega⟩,hba.block j hl⟩)) (fun j hj=>⟨W5.out.new j (by simp at hj;omega),by simp at hj;omega⟩) (fun j hj=>by
   by_cases e:j=w5.heap.size
   ·subst e
    exact ⟨_,_,_,heap_new w5 clZero,by decide⟩
   ·obtain ⟨xs,fr,T',e1,e2⟩:=W5.out.not j (fun h=>hj ⟨h,e⟩)
    exact ⟨xs,fr,T',(hba.block j (lt_of_heap e1)).trans e1,e2⟩)
  rw [hr] at C1 C2
  dsimp only at C1 C2
  have C1:=Lib.hid C1
  have C2:=Lib.hid C2
  have y3:=HF5.out.b3
  have y0:=HF5.out.c0
  have y1:=HF5.out.c1
  have y2:=HF5.out.c2
  have y4:=HF5.out.c3
  have y5:=HF5.out.c4
  have y6:=HF5.out.c5
  have y7:=HF5.out.c6
  obtain ⟨z0,z1,z2,z3⟩:=cell4 hN5.out
  have hlg:g < w5.heap.size:=by obtain ⟨_,e⟩:=HF5.out.kg;exact lt_of_heap e
  have hlc:gc < w5.heap.size:=by obtain ⟨_,e⟩:=HF5.out.kc;exact lt_of_heap e
  have hlb:=lt_of_heap hN5.out
  have y:=Lib.hid (And.intro y3 (And.intro y0 (And.intro y1 (And.intro y2 (And.intro y4 (And.intro y5 (And.intro y6 y7)))))))
  have z:=Lib.hid (And.intro z0 (And.intro z1 (And.intro z2 z3)))
  clear y3 y0 y1 y2 y4 y5 y6 y7 z0 z1 z2 z3 H4 hov5 hrc5
  have eV:hearW W k=if er≠0 then (cutW { W with down:=W.down.set k q } k,0) else (if bb=true then upW (setC { W with down:=W.down.set k q } k x) k else setC { W with down:=W.down.set k q } k x,0):=by
   unfold hearW
   rw [eL]
   simp only
   rw [ec,hr,modL_set _ k W.down hL]
  rw [hV] at eV
  have eV:=Lib.hid eV
  clear hV
  refine wp_region_held (S:=fun w'=>w'.heap[g]?=w5.heap[g]?∧w'.heap[gc]?=w5.heap[gc]?∧w'.heap[w.heap.size]?=w5.heap[w.heap.size]?) (by kernel_rfl) ?_
  show wpAnyH _ _ _ _ _ _ _ _ (World.drew _)
  rw [hw5]
  clear hw5
  refine tD 0 43 (v:=?_) ⟨rfl,rfl,rfl⟩ ?_ ?_
  rotate_left
  ·(intro w' hw';(try dsimp only at hw');go_simp;try with_reducible rfl)
  simp only [List.set_cons_zero,List.set_cons_succ]
  refine tD 1 44 (v:=?_) ⟨rfl,rfl,rfl⟩ ?_ ?_
  rotate_left
  ·(intro w' hw';(try dsimp only at hw');go_simp;try with_reducible rfl)
  simp only [List.set_cons_zero,List.set_cons_succ]
  refine tD 2 45 (v:=?_) ⟨rfl,rfl,rfl⟩ ?_ ?_
  rotate_left
  ·(intro w' hw';(try dsimp only at hw');go_simp;try with_reducible rfl)
  simp only [List.set_cons_zero,List.set_cons_succ]
  refine tD 3 46 (v:=?_) ⟨rfl,rfl,rfl⟩ ?_ ?_
  rotate_left
  ·(intro w' hw';obtain ⟨e1,e2,e3⟩:=hw';obtain ⟨y3,y0,y1,y2,y4,y5,y6,y7⟩:=y.out;obtain ⟨z0,z1,z2,z3⟩:=z.out;replace y3:=(World.cell?_of_block e1).trans y3;go_simp;try with_reducible rfl)
  simp only [List.set_cons_zero,List.set_cons_succ]
  refine tD 4 47 (v:=?_) ⟨rfl,rfl,rfl⟩ ?_ ?_
  rotate_left
  ·(intro w' hw';(try dsimp only at hw');go_simp;try with_reducible rfl)
  simp only [List.set_cons_zero,List.set_cons_succ]
  refine tD 5 48 (v:=?_) ⟨rfl,rfl,rfl⟩ ?_ ?_
  rotate_left
  ·(intro w' hw';(try dsimp only at hw');go_simp;try with_reducible rfl)
  simp only [List.set_cons_zero,List.set_cons_succ]
  refine tD 6 49 (v:=?_) ⟨rfl,rfl,rfl⟩ ?_ ?_
  rotate_left
  ·(intro w' hw';obtain ⟨e1,e2,e3⟩:=hw';obtain ⟨y3,y0,y1,y2,y4,y5,y6,y7⟩:=y.out;obtain ⟨z0,z1,z2,z3⟩:=z.out;replace y0:=(World.cell?_of_block e2).trans y0;replace y1:=(World.cell?_of_block e2).trans y1;replace y2:=(World.cell?_of_block e2).trans y2;replace y4:=(World.cell?_of_block e2).trans y4;replace y5:=(World.cell?_of_block e2).trans y5;replace y6:=(World.cell?_of_block e2).trans y6;replace y7:=(World.cell?_of_block e2).trans y7;go_simp;try with_reducible rfl)
  simp only [List.set_cons_zero,List.set_cons_succ]
  refine tD 7 50 (v:=?_) ⟨rfl,rfl,rfl⟩ ?_ ?_
  rotate_left
  ·(intro w' hw';(try dsimp only at hw');go_simp;try with_reducible rfl)
  simp only [List.set_cons_zero,List.set_cons_succ]
  refine tD 8 51 (v:=?_) ⟨rfl,rfl,rfl⟩ ?_ ?_
  rotate_left
  ·(intro w' hw';obtain ⟨e1,e2,e3⟩:=hw';obtain ⟨y3,y0,y1,y2,y4,y5,y6,y7⟩:=y.out;obtain ⟨z0,z1,z2,z3⟩:=z.out;replace z0:=(World.cell?_of_block e3).trans z0;replace z1:=(World.cell?_of_block e3).trans z1;replace z2:=(World.cell?_of_block e3).trans z2;replace z3:=(World.cell?_of_block e3).trans z3;go_simp;try with_reducible rfl)
  simp only [List.set_cons_zero,List.set_cons_succ]
  refine wpAnyH_meet 9 14 rfl rfl (by kernel_rfl) (fun v' G w'=>w5.heap.size≤G∧w'.heap[G]?=some clZero∧RCl (fun j=>l4.N g j∧j≠G) w' v' x∧Below w5.heap.size w5 w') ?_
  apply Exists.intro
  refine ⟨?_, ?_, ?_⟩
  ·intro hG K' hK'
   rw [if_pos (by rfl)]
   go_simp
   refine C1.out.mono ?_
   rintro e w6 ⟨v',rfl,hv',hb6⟩
   have hS:w6.heap[g]?=w5.heap[g]?∧w6.heap[gc]?=w5.heap[gc]?∧w6.heap[w.heap.size]?=w5.heap[w.heap.size]?:=⟨hb6.block _ hlg,hb6.block _ hlc,hb6.block _ hlb⟩
   refine hK'.out _ _ hS ?_
   clear hK' K'
   refine tD 10 42 (v:=?_) hS ?_ ?_
   rotate_left
   ·(intro w' hw';(try dsimp only at hw');go_simp;try with_reducible rfl)
   simp only [List.set_cons_zero,List.set_cons_succ]
   refine tD 11 53 (v:=?_) hS ?_ ?_
   rotate_left
   ·(intro w' hw';(try dsimp only at hw');go_simp;try with_reducible rfl)
   simp only [List.set_cons_zero,List.set_cons_succ]
   refine tD 12 54 (v:=?_) hS ?_ ?_
   rotate_left
   ·(intro w' hw';(try dsimp only at hw');go_simp;try with_reducible rfl)
   simp only [List.set_cons_zero,List.set_cons_succ]
   refine tD 13 55 (v:=?_) hS ?_ ?_
   rotate_left
   ·(intro w' hw';(try dsimp only at hw');go_simp;try with_reducible rfl)
   simp only [List.set_cons_zero,List.set_cons_succ]
   refine wpAnyH_step 14 rfl (by kernel_rfl) (fun K' hK'=>?_)
   rw [if_pos (by rfl)]
   go_simp
   have hb7:Below w6.heap.size w6 (w6.alloc clZero):=bal (brf w6) _
   have hb7':=hb6.trans (hb7.mono hb6.size)
   have hS2:(w6.alloc clZero).heap[g]?=w5.heap[g]?∧(w6.alloc clZero).heap[gc]?=w5.heap[gc]?∧(w6.alloc clZero).heap[w.heap.size]?=w5.heap[w.heap.size]?:=⟨hb7'.block _ hlg,hb7'.block _ hlc,hb7'.block _ hlb⟩
   have hI:w5.heap.size≤w6.heap.size∧(w6.alloc clZero).heap[w6.heap.size]?=some clZero∧RCl (fun j=>l4.N g j∧j≠w6.heap.size) (w6.alloc clZero) v' x∧Below w5.heap.size w5 (w6.alloc clZero):=⟨hb6.size,heap_new _ _,RCl.to (RCl.to hv' (Kp.lt w6)) (fun j hj hl=>⟨⟨hj.1,by omega⟩,hb7.block j hl⟩),hb7'⟩
   obtain ⟨w7,hw7⟩:∃ w7,w6.alloc (.cells #[.int .i64 0,.slice none 0 0,.slice none 0 0,.int .i64 0,.slice none 0 0,.slice none 0 0,.bool false] 52)=w7:=⟨_,rfl⟩
   obtain ⟨G,hGe⟩:∃ G,w6.heap.size=G:=⟨_,rfl⟩
   rw [hw7,hGe]
   rw [hw7] at hS2 hI
   rw [hGe] at hI
   refine hK'.out _ _ hS2 ?_
   clear hK' K'
   exact hG _ _ _ hI hS2
  ·intro hG K' hK'
   rw [if_pos (by rfl)]
   go_simp
   have hS:(w5.alloc clZero).heap[g]?=w5.heap[g]?∧(w5.alloc clZero).heap[gc]?=w5.heap[gc]?∧(w5.alloc clZero).heap[w.heap.size]?=w5.heap[w.heap.size]?:=⟨hba.block _ hlg,hba.block _ hlc,hba.block _ hlb⟩
   refine hK'.out _ _ hS ?_
   clear hK' K'
   refine wpAnyH_step 9 rfl (by kernel_rfl) (fun K' hK'=>?_)
   rw [if_pos (by rfl)]
   go_simp
   refine C2.out.mono ?_
   rintro e w7 ⟨v',rfl,hv',hb7⟩
   have hb7':=hba.trans (hb7.mono hba.size)
   have hS2:w7.heap[g]?=w5.heap[g]?∧w7.heap[gc]?=w5.heap[gc]?∧w7.heap[w.heap.size]?=w5.heap[w.heap.size]?:=⟨hb7'.block _ hlg,hb7'.block _ hlc,hb7'.block _ hlb⟩
   have hI:w5.heap.size≤w5.heap.size∧w7.heap[w5.heap.size]?=some clZero∧RCl (fun j=>l4.N g j∧j≠w5.heap.size) w7 v' x∧Below w5.heap.size w5 w7:=⟨Nat.le_refl _,(hb7.block _ (by simp)).trans (heap_new w5 clZero),hv',hb7'⟩
   refine hK'.out _ _ hS2 ?_
   clear hK' K'
   refine tD 10 42 (v:=?_) hS2 ?_ ?_
   rotate_left
   ·(intro w' hw';(try dsimp only at hw');go_simp;try with_reducible rfl)
   simp only [List.set_cons_zero,List.set_cons_succ]
   refine tD 11 53 (v:=?_) hS2 ?_ ?_
   rotate_left
   ·(intro w' hw';(try dsimp only at hw');go_simp;try with_reducible rfl)
   simp only [List.set_cons_zero,List.set_cons_succ]
   refine tD 12 54 (v:=?_) hS2 ?_ ?_
   rotate_left
   ·(intro w' hw';(try dsimp only at hw');go_simp;try with_reducible rfl)
   simp only [List.set_cons_zero,List.set_cons_succ]
   refine tD 13 55 (v:=?_) hS2 ?_ ?_
   rotate_left
   ·(intro w' hw';(try dsimp only at hw');go_simp;try with_reducible rfl)
   simp only [List.set_cons_zero,List.set_cons_succ]
   exact wpAnyH_listed (by kernel_rfl) (hG _ _ _ hI hS2)
  rintro v G w6 ⟨hG,hG6,⟨b1,n1,s1,h1,rfl,r1,r2,r3,r4⟩,hb6⟩ hS6
  obtain ⟨ba',bc',rfl,_⟩:=RdS.len r1
  obtain ⟨na',nc',rfl,_⟩:=RdS.len r2
  obtain ⟨sa',sc',rfl,_⟩:=RdS.len r3
  obtain ⟨ha',hc',rfl,_⟩:=RdS.len r4
  have R6:=Lib.hid (And.intro r1 (And.intro r2 (And.intro r3 r4)))
  have hth:=there7 hG6
  have hG6:=Lib.hid hG6
  clear C1 C2 r1 r2 r3 r4
  refine wpAnyH_step 15 rfl (by kernel_rfl) (fun K' hK'=>?_)
  rw [if_pos (by rfl)]
  refine wp_store_mid 52 (.tmp 6) (.tmp 53) rfl G 0 #[.int .i64 x.rev,.slice ba' x.base.length bc',.slice na' x.now.length nc',.int .i64 x.seq,.slice sa' x.sent.length sc',.slice ha' x.held.length hc',.bool x.joined] rfl rfl hth (by kernel_rfl) (by simp [Value.oneCell']) ?_
  have hb7:Below w5.heap.size w5 (w6.setCells G 0 [.int .i64 x.rev,.slice ba' x.base.length bc',.slice na' x.now.length nc',.int .i64 x.seq,.slice sa' x.sent.length sc',.slice ha' x.held.length hc',.bool x.joined]):=below_setCells hG _ _ _ hb6
  have hr7:=World.rangeAt_setCells_same w6 G 0 [.int .i64 x.rev,.slice ba' x.base.length bc',.slice na' x.now.length nc',.int .i64 x.seq,.slice sa' x.sent.length sc',.slice ha' x.held.length hc',.bool x.joined] hth
  obtain ⟨w7,hw7⟩:∃ w7,w6.setCells G 0 [.int .i64 x.rev,.slice ba' x.base.length bc',.slice na' x.now.length nc',.int .i64 x.seq,.slice sa' x.sent.length sc',.slice ha' x.held.length hc',.bool x.joined]=w7:=⟨_,rfl⟩
  have kp7:Kp (fun j=>l4.N g j∧j≠G) (l4.N g) w6 w7:=fun j hj _=>⟨hj.1,by rw [← hw7];exact heap_setCells_other _ _ _ _ _ hj.2⟩
  rw [hw7] at hb7 hr7
  show K' _ (w6.setCells G 0 [.int .i64 x.rev,.slice ba' x.base.length bc',.slice na' x.now.length nc',.int .i64 x.seq,.slice sa' x.sent.length sc',.slice ha' x.held.length hc',.bool x.joined])
  rw [hw7]
  have RC7:=Lib.hid (show RClc (l4.N g) w7 [.int .i64 x.rev,.slice ba' x.base.length bc',.slice na' x.now.length nc',.int .i64 x.seq,.slice sa' x.sent.length sc',.slice ha' x.held.length hc',.bool x.joined] x from ⟨_,_,_,_,rfl,RItems.to R6.out.1 kp7,RItems.to R6.out.2.1 kp7,ROp.to R6.out.2.2.1 kp7,ROp.to R6.out.2.2.2 kp7⟩)
  clear hw7 kp7
  refine hK'.out _ _ ⟨hb7.block _ hlg,hb7.block _ hlc,hb7.block _ hlb⟩ ?_
  clear hK' K'
  refine tD 16 7 (v:=?_) ⟨hb7.block _ hlg,hb7.block _ hlc,hb7.block _ hlb⟩ ?_ ?_
  rotate_left
  ·(intro w' hw';(try dsimp only at hw');go_simp;try with_reducible rfl)
  simp only [List.set_cons_zero,List.set_cons_succ]
  refine tD 17 8 (v:=?_) ⟨hb7.block _ hlg,hb7.block _ hlc,hb7.block _ hlb⟩ ?_ ?_
  rotate_left
  ·(intro w' hw';(try dsimp only at hw');go_simp;try with_reducible rfl)
  simp only [List.set_cons_zero,List.set_cons_succ]
  refine wpAnyH_done (by kernel_rfl) ?_ _
  have W7:=Lib.hid (W5.out.below hb7)
  have hB7:Below B w w7:=(hB4.trans (hb5.mono (by have:=hB4.size;omega))).trans (hb7.mono (by have:=hb5.size;have:=hB4.size;omega))
  have HF7:=Lib.hid (HF5.out.below hb7)
  have K7:Hid (Kp (l.N g) (l4.N g) w w7):=Lib.hid (Kp.trans K4.out hs4 (Kp.below (hb5.trans (hb7.mono hb5.size))))
  have R7:w7.cell? ⟨G,0,none⟩=some (.int .i64 x.rev)∧w7.cell? ⟨G,1,none⟩=some (.slice ba' x.base.length bc')∧w7.cell? ⟨G,2,none⟩=some (.slice na' x.now.length nc')∧w7.cell? ⟨G,3,none⟩=some (.int .i64 x.seq)∧w7.cell? ⟨G,4,none⟩=some (.slice sa' x.sent.length sc')∧w7.cell? ⟨G,5,none⟩=some (.slice ha' x.held.length hc')∧w7.cell? ⟨G,6,none⟩=some (.bool x.joined):=by
   refine ⟨?_, ?_, ?_, ?_, ?_, ?_, ?_⟩
   ·simpa using hr7 0 _ rfl
   ·simpa using hr7 1 _ rfl
   ·simpa using hr7 2 _ rfl
   ·simpa using hr7 3 _ rfl
   ·simpa using hr7 4 _ rfl
   ·simpa using hr7 5 _ rfl
   ·simpa using hr7 6 _ rfl
  have R7:=Lib.hid R7
  clear hr7 hS6 hb6 hth hlg hlc hlb hba y z
  by_cases he:er=0
  ·subst he
   have e1:=eV.out
   clear eV
   rw [if_neg (by simp)] at e1
   simp only [Prod.mk.injEq] at e1
   obtain ⟨e2,rfl⟩:=e1
   have hsm:opSm x.sent:=by have:=(law_hear hr).1.sm;exact ⟨this.s,this.si⟩
   have e3:=Lib.hid e2
   clear e2
   go_upto_region 9 with fail
   obtain ⟨w8,hw8⟩:∃ w8,w7.drew=w8:=⟨_,rfl⟩
   have hb8:Below w7.heap.size w7 w8:=by rw [← hw8];exact Go.below_drewN (Below.refl _ _) 1
   have W8:=Lib.hid (W7.out.below hb8)
   have HF8:=Lib.hid (HF7.out.below hb8)
   have RC8:=Lib.hid (RClc.to RC7.out (Kp.below hb8))
   have Q8:w8.cell? ⟨g,3,none⟩=some (.slice (some ⟨gc,0,none⟩) W.cl.length cc)∧w8.cell? ⟨G,0,none⟩=some (.int .i64 x.rev)∧w8.cell? ⟨G,1,none⟩=some (.slice ba' x.base.length bc')∧w8.cell? ⟨G,2,none⟩=some (.slice na' x.now.length nc')∧w8.cell? ⟨G,3,none⟩=some (.int .i64 x.seq)∧w8.cell? ⟨G,4,none⟩=some (.slice sa' x.sent.length sc')∧w8.cell? ⟨G,5,none⟩=some (.slice ha' x.held.length hc')∧w8.cell? ⟨G,6,none⟩=some (.bool x.joined):=by
    obtain ⟨q0,q1,q2,q3,q4,q5,q6⟩:=R7.out
    exact ⟨HF8.out.b3,(hb8.cell (lt_of_cell q0)).trans q0,(hb8.cell (lt_of_cell q1)).trans q1,(hb8.cell (lt_of_cell q2)).trans q2,(hb8.cell (lt_of_cell q3)).trans q3,(hb8.cell (lt_of_cell q4)).trans q4,(hb8.cell (lt_of_cell q5)).trans q5,(hb8.cell (lt_of_cell q6)).trans q6⟩
   refine wp_region_G 7 (fun w'=>w'.cell? ⟨g,3,none⟩=some (.slice (some ⟨gc,0,none⟩) W.cl.length cc)∧w'.cell? ⟨G,0,none⟩=some (.int .i64 x.rev)∧w'.cell? ⟨G,1,none⟩=some (.slice ba' x.base.length bc')∧w'.cell? ⟨G,2,none⟩=some (.slice na' x.now.length nc')∧w'.cell? ⟨G,3,none⟩=some (.int .i64 x.seq)∧w'.cell? ⟨G,4,none⟩=some (.slice sa' x.sent.length sc')∧w'.cell? ⟨G,5,none⟩=some (.slice ha' x.held.length hc')∧w'.cell? ⟨G,6,none⟩=some (.bool x.joined)) (fun w'=>True) (by kernel_rfl) ?_
   show wpAnyG _ _ _ _ _ _ _ _ _ _ (World.drew _)
   rw [hw8]
   refine tG 8 0 61 (v:=?_) trivial Q8 ?_ ?_
   rotate_left
   ·(intro w' hw';(try dsimp only at hw');go_simp;try with_reducible rfl)
   simp only [List.set_cons_zero,List.set_cons_succ]
   refine tG 8 1 62 (v:=?_) trivial Q8 ?_ ?_
   rotate_left
   ·(intro w' hw';(try dsimp only at hw');go_simp;try with_reducible rfl)
   simp only [List.set_cons_zero,List.set_cons_succ]
   refine tG 8 2 63 (v:=?_) trivial Q8 ?_ ?_
   rotate_left
   ·(intro w' hw';(try dsimp only at hw');go_simp;try with_reducible rfl)
   simp only [List.set_cons_zero,List.set_cons_succ]
   refine tG 8 3 64 (v:=?_) trivial Q8 ?_ ?_
   rotate_left
   ·(intro w' hw';obtain ⟨p5,p0,p1,p2,p3,p4,p5',p6⟩:=hw';go_simp;try with_reducible rfl)
   simp only [List.set_cons_zero,List.set_cons_succ]
   refine tG 8 4 65 (v:=?_) trivial Q8 ?_ ?_
   rotate_left
   ·(intro w' hw';(try dsimp only at hw');go_simp;try with_reducible rfl)
   simp only [List.set_cons_zero,List.set_cons_succ]
   refine tG 8 5 66 (v:=?_) trivial Q8 ?_ ?_
   rotate_left
   ·(intro w' hw';obtain ⟨p5,p0,p1,p2,p3,p4,p5',p6⟩:=hw';go_simp;try with_reducible rfl)
   simp only [List.set_cons_zero,List.set_cons_succ]
   refine tG 8 6 67 (v:=?_) trivial Q8 ?_ ?_
   rotate_left
   ·(intro w' hw';(try dsimp only at hw');go_simp;try with_reducible rfl)
   simp only [List.set_cons_zero,List.set_cons_succ]
   refine wpAnyG_step 7 rfl (by kernel_rfl) (fun K' hK'=>?_)
   rw [if_pos (by rfl)]
   clear hw8
   refine wp_store_mid 52 (.tmp 67) (.tmp 66) rfl gc (k * 7) #[.int .i64 x.rev,.slice ba' x.base.length bc',.slice na' x.now.length nc',.int .i64 x.seq,.slice sa' x.sent.length sc',.slice ha' x.held.length hc',.bool x.joined] rfl rfl HF8.out.there (by kernel_rfl) (by simp [Value.oneCell']) ?_
   show K' _ _
   refine hK'.out _ _ trivial (fun h=>absurd h (by decide)) ?_
   clear hK' K'
   refine wpAnyG_done (by kernel_rfl) ?_ _
   have W9:=Lib.hid (W8.out.putClient HF8.out.vc HF8.out.hc _ RC8.out)
   have hB9:=below_setCells hBc [.int .i64 x.rev,.slice ba' x.base.length bc',.slice na' x.now.length nc',.int .i64 x.seq,.slice sa' x.sent.length sc',.slice ha' x.held.length hc',.bool x.joined] (k * 7) w8 (hB7.trans (hb8.mono (by have:=hB7.size;omega)))
   obtain ⟨w9,hw9⟩:∃ w9,w8.setCells gc (k * 7) [.int .i64 x.rev,.slice ba' x.base.length bc',.slice na' x.now.length nc',.int .i64 x.seq,.slice sa' x.sent.length sc',.slice ha' x.held.length hc',.bool x.joined]=w9:=⟨_,rfl⟩
   have K9:Kp (l.N g) (l4.N g) w (w8.setCells gc (k * 7) [.int .i64 x.rev,.slice ba' x.base.length bc',.slice na' x.now.length nc',.int .i64 x.seq,.slice sa' x.sent.length sc',.slice ha' x.held.length hc',.bool x.joined]):=Kp.trans K7.out hB7.size (Kp.trans (Kp.below hb8) hb8.size (kpClient HF8.out.vc _))
   rw [hw9] at W9 hB9 K9
   have K9:=Lib.hid K9
   have C3:=Lib.hid (wdUp_any B g l4 w9 (setC { W with down:=W.down.set k q } k x) k W9.out (by rw [setC_len];exact hk) (by rw [setC_len];exact hul) (by rw [setC_len];simpa [setC] using hdl) (by rw [setC_at (by exact hk)];exact hsm))
   have eV:=e3.out
   clear e3
   cases bb with
   | true =>
    rw [if_pos rfl] at eV
    subst eV
    go_wp2_with fail
    refine C3.out.mono ?_
    rintro e w10 ⟨rfl,⟨l10,hl10,hk10⟩,hb10⟩
    go_wp2_with fail
    go_ret
    exact ⟨rfl,⟨l10,hl10,Kp.trans K9.out hB9.size hk10⟩,hB9.trans hb10⟩
   | false =>
    rw [if_neg (by simp)] at eV
    subst eV
    go_wp2_with fail
    go_ret
    exact ⟨rfl,⟨_,W9.out,K9.out⟩,hB9⟩
  ·have eV:=eV.out
   rw [if_pos he] at eV
   cases eV
   have he':(er == 0)=false:=by simpa using he
   have C3:=Lib.hid (wdCut_any B g l4 w7 { W with down:=W.down.set k q } k W7.out hk hul (by simpa using hdl))
   clear hr
   go_wp2_with fail
   refine C3.out.mono ?_
   rintro e w10 ⟨rfl,⟨l10,hl10,hk10⟩,hb10⟩
   go_wp2_with fail
   go_ret
   exact ⟨rfl,⟨l10,hl10,Kp.trans K7.out hB7.size hk10⟩,hB7.trans hb10⟩
end Go.Proofs.YteikncnldbdfmaaGreatDoor
