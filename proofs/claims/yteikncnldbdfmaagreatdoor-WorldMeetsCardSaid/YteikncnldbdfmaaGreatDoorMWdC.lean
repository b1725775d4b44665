import Derived.Test.YteikncnldbdfmaaGreatDoorMWdB
namespace Go.Proofs.YteikncnldbdfmaaGreatDoor
open Go.RowKit Go.Mh
theorem cell4 {w:World} {b:Nat} {a0 a1 a2 a3:Value} {e:TypeId} {fr:Nat × Nat} (h:w.heap[b]?=some (.cells #[a0,a1,a2,a3] e fr)):w.cell? ⟨b,0,none⟩=some a0∧w.cell? ⟨b,1,none⟩=some a1∧w.cell? ⟨b,2,none⟩=some a2∧w.cell? ⟨b,3,none⟩=some a3:=
 ⟨cellOf (i:=0) h rfl,cellOf (i:=1) h rfl,cellOf (i:=2) h rfl,cellOf (i:=3) h rfl⟩
theorem WF.keep {g:Nat} {l:Lay} {w w':World} {W:Wd} {k gc gu gd cc cu cd:Nat} {c:Cl} {b n s hh uq dq:Value} (H:WF g l w W k gc gu gd cc cu cd c b n s hh uq dq) (e:∀ j,j=g∨j=gc∨j=gu∨j=gd→w'.heap[j]?=w.heap[j]?) (kp:Kp (l.N g) (l.N g) w w'):WF g l w' W k gc gu gd cc cu cd c b n s hh uq dq:=by
 have eg:=e g (by simp)
 have ec:=e gc (by simp)
 have eu:=e gu (by simp)
 have ed:=e gd (by simp)
 obtain ⟨xg,kg⟩:=H.kg
 obtain ⟨xc,kc⟩:=H.kc
 obtain ⟨xu,ku⟩:=H.ku
 obtain ⟨xd,kd⟩:=H.kd
 exact ⟨H.vc,H.vu,H.vd,(World.cell?_of_block eg).trans H.b3,(World.cell?_of_block eg).trans H.b4,(World.cell?_of_block eg).trans H.b5,(World.cell?_of_block ec).trans H.c0,(World.cell?_of_block ec).trans H.c1,(World.cell?_of_block ec).trans H.c2,(World.cell?_of_block ec).trans H.c3,(World.cell?_of_block ec).trans H.c4,(World.cell?_of_block ec).trans H.c5,(World.cell?_of_block ec).trans H.c6,(World.cell?_of_block eu).trans H.u,(World.cell?_of_block ed).trans H.d,
  fun i=>Lib.frozen_of_heap (eg.trans kg) _,fun i=>Lib.frozen_of_heap (ec.trans kc) _,fun i=>Lib.frozen_of_heap (eu.trans ku) _,fun i=>Lib.frozen_of_heap (ed.trans kd) _,H.hc,H.hu,H.hd,RItems.to H.rb kp,RItems.to H.rn kp,ROp.to H.rs kp,ROp.to H.rh kp,H.ne,⟨_,eg.trans kg⟩,⟨_,ec.trans kc⟩,⟨_,eu.trans ku⟩,⟨_,ed.trans kd⟩⟩
theorem WF.below {g:Nat} {l:Lay} {w w':World} {W:Wd} {k gc gu gd cc cu cd:Nat} {c:Cl} {b n s hh uq dq:Value} (H:WF g l w W k gc gu gd cc cu cd c b n s hh uq dq) (hb:Below w.heap.size w w'):WF g l w' W k gc gu gd cc cu cd c b n s hh uq dq:=by
 refine H.keep (fun j hj=>hb.block j ?_) (Kp.below hb)
 obtain ⟨xg,kg⟩:=H.kg
 obtain ⟨xc,kc⟩:=H.kc
 obtain ⟨xu,ku⟩:=H.ku
 obtain ⟨xd,kd⟩:=H.kd
 rcases hj with rfl | rfl | rfl | rfl
 ·exact lt_of_heap kg
 ·exact lt_of_heap kc
 ·exact lt_of_heap ku
 ·exact lt_of_heap kd
set_option maxRecDepth 100000 in
set_option maxHeartbeats 4000000 in
theorem wdDown_send (B g:Nat) (l:Lay) (w:World) (W:Wd) (k:Nat) (m:Msg) (ov:Value) (gc gu gd cc cu cd:Nat) (c:Cl) (b n s hh uq dq:Value) (L:List Msg) (h:WAt B g l w W) (H:WF g l w W k gc gu gd cc cu cd c b n s hh uq dq) (hk:k < W.cl.length)
  (ho:ROp (l.N g) w ov m.e.o) (hsm:opSm m.e.o) (hj:c.joined=true) (hL:W.down[k]?=some L) (h90:L.length < 90) :
  Calls Tryz.prog 160 #[.pointer (some ⟨g,0,none⟩),.int .i64 k,.agg #[.int .i64 m.rev,.int .i64 m.e.client,.int .i64 m.e.seq,ov]] w fun e w'=>e=.returned (.tuple #[])∧(∃ l',WAt B g l' w' { W with down:=W.down.set k (L ++ [m]) }∧Kp (l.N g) (l'.N g) w w')∧Below B w w':=by
 have hBs:B≤w.heap.size:=by have:=h.gB;obtain ⟨_,kg⟩:=H.kg;have:=lt_of_heap kg;omega
 have hBd:B≤gd:=(h.dR.cells (k:=gd) (by rw [H.vd];rfl)).1
 have mq:dq ∈ l.rows:=by
  simp only [List.mem_cons,List.mem_append]
  exact Or.inr (Or.inr (Or.inr (Or.inr (List.mem_of_getElem? H.hd))))
 have hd0:=Lib.hid H.hd
 obtain ⟨ua,uc,rfl,_⟩:=RdS.len (h.qd k dq L H.hd hL).rd
 obtain ⟨oa,oc,rfl,_⟩:=RdS.len ho
 have h:=Lib.hid h
 have hsm:=Lib.hid hsm
 have ho:=Lib.hid (ROp.to ho (Kp.lt w))
 have HF:=Lib.hid H
 clear H
 go_enter Tryz.func160,Tryz.ntmps160
 go_upto_region 1 with fail
 refine name_world ?_
 intro w1 hw1
 have hb1:Below w.heap.size w w1:=by rw [← hw1];exact bal (brf w) _
 have hN1:=heap_new w (.cells #[.int .i64 m.rev,.int .i64 m.e.client,.int .i64 m.e.seq,.slice oa m.e.o.length oc] 79)
 rw [hw1] at hN1
 have hN1:=Lib.hid hN1
 clear hw1
 have H1:=HF.out.below hb1
 have x3:=H1.b3
 have x5:=H1.b5
 have xd:=H1.d
 have x6:=H1.c6
 rw [hj] at x6
 have h90':decide ((90:Int)≤(L.length:Int))=false:=by simp;omega
 obtain ⟨q0,q1,q2,q3⟩:=cell4 hN1.out
 have C:=Lib.hid (opCopy_any (fun j=>l.N g j∧j < w.heap.size) _ m.e.o w1 (ROp.to ho.out (Kp.below hb1)) hsm.out.1 hsm.out.2)
 have hs1:w.heap.size < w1.heap.size:=lt_of_heap hN1.out
 clear H1
 go_wp2_with fail
 refine C.out.mono ?_
 rintro e w3 ⟨cv,rfl,hcv,hb3⟩
 obtain ⟨xa,xc,rfl,_⟩:=RdS.len hcv
 have HCV:=Lib.hid hcv
 have hN3:=Lib.hid ((hb3.block _ hs1).trans hN1.out)
 obtain ⟨r0,r1,r2,r3⟩:=cell4 hN3.out
 have rf:w3.frozen? ⟨w.heap.size,3,none⟩=false:=Lib.frozen_of_heap hN3.out _
 have HB3:=Lib.hid hb3
 clear hcv hb3 q0 q1 q2 q3 x3 x5 xd x6
 go_upto_region 5 with fail
 have kcC:∀ {w1 w2:World},(w1.cell? ⟨g,5,none⟩=some (.slice (some ⟨gd,0,none⟩) W.cl.length cd)∧w1.cell? ⟨gd,k,none⟩=some (.slice ua L.length uc)∧w1.cell? ⟨w.heap.size,0,none⟩=some (.int .i64 m.rev)∧w1.cell? ⟨w.heap.size,1,none⟩=some (.int .i64 m.e.client)∧w1.cell? ⟨w.heap.size,2,none⟩=some (.int .i64 m.e.seq)∧w1.cell? ⟨w.heap.size,3,none⟩=some (.slice xa m.e.o.length xc))→Below w1.heap.size w1 w2→(w2.cell? ⟨g,5,none⟩=some (.slice (some ⟨gd,0,none⟩) W.cl.length cd)∧w2.cell? ⟨gd,k,none⟩=some (.slice ua L.length uc)∧w2.cell? ⟨w.heap.size,0,none⟩=some (.int .i64 m.rev)∧w2.cell? ⟨w.heap.size,1,none⟩=some (.int .i64 m.e.client)∧w2.cell? ⟨w.heap.size,2,none⟩=some (.int .i64 m.e.seq)∧w2.cell? ⟨w.heap.size,3,none⟩=some (.slice xa m.e.o.length xc)):=fun h hb =>
  ⟨(hb.cell (lt_of_cell h.1)).trans h.1,(hb.cell (lt_of_cell h.2.1)).trans h.2.1,(hb.cell (lt_of_cell h.2.2.1)).trans h.2.2.1,(hb.cell (lt_of_cell h.2.2.2.1)).trans h.2.2.2.1,(hb.cell (lt_of_cell h.2.2.2.2.1)).trans h.2.2.2.2.1,(hb.cell (lt_of_cell h.2.2.2.2.2)).trans h.2.2.2.2.2⟩
 obtain ⟨w5,hw5⟩:∃ w5,(w3.setCell ⟨w.heap.size,3,none⟩ (.slice xa m.e.o.length xc)).drew=w5:=⟨_,rfl⟩
 have hB3:=hb1.trans (HB3.out.mono (by omega))
 have hb5:Below w.heap.size w w5:=by rw [← hw5];exact Go.below_drewN (hB3.setCell (p:=⟨w.heap.size,3,none⟩) (Nat.le_refl _) _) 1
 have hN5:w5.heap[w.heap.size]?=some (.cells #[.int .i64 m.rev,.int .i64 m.e.client,.int .i64 m.e.seq,.slice xa m.e.o.length xc] TM (0,0)):=by rw [← hw5];exact heap_setCell_same _ _ _ _ _ _ hN3.out
 have ho5:=Lib.hid (ROp.to HCV.out (fun j hj _=>⟨(by rcases hj with hj | hj;exact h.out.new j (by have:=hb1.size;omega);exact hj.1:l.N g j),(by rw [← hw5];exact heap_setCell_other _ _ j _ (fun e=>by have e:j=w.heap.size:=e;omega))⟩:Kp _ (l.N g) w3 w5))
 have W5:=Lib.hid (h.out.below hb5)
 have HF5:=HF.out.below hb5
 have Q5:w5.cell? ⟨g,5,none⟩=some (.slice (some ⟨gd,0,none⟩) W.cl.length cd)∧w5.cell? ⟨gd,k,none⟩=some (.slice ua L.length uc)∧w5.cell? ⟨w.heap.size,0,none⟩=some (.int .i64 m.rev)∧w5.cell? ⟨w.heap.size,1,none⟩=some (.int .i64 m.e.client)∧w5.cell? ⟨w.heap.size,2,none⟩=some (.int .i64 m.e.seq)∧w5.cell? ⟨w.heap.size,3,none⟩=some (.slice xa m.e.o.length xc):=⟨HF5.b5,HF5.d,(cell4 hN5).1,(cell4 hN5).2.1,(cell4 hN5).2.2.1,(cell4 hN5).2.2.2⟩
 have HF:=Lib.hid HF5
 clear HF5 r0 r1 r2 r3 rf h90'
 refine wp_region_G 16 (fun w'=>w'.cell? ⟨g,5,none⟩=some (.slice (some ⟨gd,0,none⟩) W.cl.length cd)∧w'.cell? ⟨gd,k,none⟩=some (.slice ua L.length uc)∧w'.cell? ⟨w.heap.size,0,none⟩=some (.int .i64 m.rev)∧w'.cell? ⟨w.heap.size,1,none⟩=some (.int .i64 m.e.client)∧w'.cell? ⟨w.heap.size,2,none⟩=some (.int .i64 m.e.seq)∧w'.cell? ⟨w.heap.size,3,none⟩=some (.slice xa m.e.o.length xc)) (fun w'=>True) (by kernel_rfl) ?_
 show wpAnyG _ _ _ _ _ _ _ _ _ _ (World.drew _)
 rw [hw5]
 clear hw5
 refine tG 17 0 33 (v:=?_) trivial Q5 ?_ ?_
 rotate_left
 ·(intro w' hw';(try dsimp only at hw');go_simp;try with_reducible rfl)
 simp only [List.set_cons_zero,List.set_cons_succ]
 refine tG 17 1 34 (v:=?_) trivial Q5 ?_ ?_
 rotate_left
 ·(intro w' hw';(try dsimp only at hw');go_simp;try with_reducible rfl)
 simp only [List.set_cons_zero,List.set_cons_succ]
 refine tG 17 2 35 (v:=?_) trivial Q5 ?_ ?_
 rotate_left
 ·(intro w' hw';(try dsimp only at hw');go_simp;try with_reducible rfl)
 simp only [List.set_cons_zero,List.set_cons_succ]
 refine tG 17 3 36 (v:=?_) trivial Q5 ?_ ?_
 rotate_left
 ·(intro w' hw';obtain ⟨p5,pd,p0,p1,p2,p3⟩:=hw';go_simp;try with_reducible rfl)
 simp only [List.set_cons_zero,List.set_cons_succ]
 refine tG 17 4 37 (v:=?_) trivial Q5 ?_ ?_
 rotate_left
 ·(intro w' hw';(try dsimp only at hw');go_simp;try with_reducible rfl)
 simp only [List.set_cons_zero,List.set_cons_succ]
 refine tG 17 5 38 (v:=?_) trivial Q5 ?_ ?_
 rotate_left
 ·(intro w' hw';(try dsimp only at hw');go_simp;try with_reducible rfl)
 simp only [List.set_cons_zero,List.set_cons_succ]
 refine tG 17 6 39 (v:=?_) trivial Q5 ?_ ?_
 rotate_left
 ·(intro w' hw';(try dsimp only at hw');go_simp;try with_reducible rfl)
 simp only [List.set_cons_zero,List.set_cons_succ]
 refine tG 17 7 40 (v:=?_) trivial Q5 ?_ ?_
 rotate_left
 ·(intro w' hw';(try dsimp only at hw');go_simp;try with_reducible rfl)
 simp only [List.set_cons_zero,List.set_cons_succ]
 refine tG 17 8 41 (v:=?_) trivial Q5 ?_ ?_
 rotate_left
 ·(intro w' hw';obtain ⟨p5,pd,p0,p1,p2,p3⟩:=hw';go_simp;try with_reducible rfl)
 simp only [List.set_cons_zero,List.set_cons_succ]
 refine tG 17 9 42 (v:=?_) trivial Q5 ?_ ?_
 rotate_left
 ·(intro w' hw';(try dsimp only at hw');go_simp;try with_reducible rfl)
 simp only [List.set_cons_zero,List.set_cons_succ]
 refine tG 17 10 43 (v:=?_) trivial Q5 ?_ ?_
 rotate_left
 ·(intro w' hw';(try dsimp only at hw');go_simp;try with_reducible rfl)
 simp only [List.set_cons_zero,List.set_cons_succ]
 refine tG 17 11 44 (v:=?_) trivial Q5 ?_ ?_
 rotate_left
 ·(intro w' hw';obtain ⟨p5,pd,p0,p1,p2,p3⟩:=hw';go_simp;try with_reducible rfl)
 simp only [List.set_cons_zero,List.set_cons_succ]
 refine tG 17 12 45 (v:=?_) trivial Q5 ?_ ?_
 rotate_left
 ·(intro w' hw';obtain ⟨p5,pd,p0,p1,p2,p3⟩:=hw';go_simp;try with_reducible rfl)
 simp only [List.set_cons_zero,List.set_cons_succ]
 refine wpAnyG_step 13 rfl (by kernel_rfl) (fun K' hK'=>?_)
 rw [if_pos (by rfl)]
 go_simp
 obtain ⟨w6,hw6⟩:∃ w6,w5.alloc (.cells #[.int .i64 m.rev,.int .i64 m.e.client,.int .i64 m.e.seq,.slice xa m.e.o.length xc] 79)=w6:=⟨_,rfl⟩
 have hb6:Below w5.heap.size w5 w6:=by rw [← hw6];exact bal (brf w5) _
 have hN6:=heap_new w5 (.cells #[.int .i64 m.rev,.int .i64 m.e.client,.int .i64 m.e.seq,.slice xa m.e.o.length xc] 79)
 rw [hw6] at hN6
 try rw [hw6]
 have W6:=Lib.hid (W5.out.below hb6)
 have ho6:=Lib.hid (ROp.to ho5.out (Kp.below hb6))
 have Q6:=kcC Q5 hb6
 refine hK'.out _ _ trivial (fun _=>Q6) ?_
 clear hK' K'
 refine wpAnyG_step 14 rfl (by kernel_rfl) (fun K' hK'=>?_)
 rw [if_pos (by rfl)]
 clear hw6
 have kb:∀ (j:Nat) (xs:Array Value) (T:TypeId),w5.heap[j]?=some (Obj.cells xs T (0,0))→w6.heap[j]?=some (Obj.cells xs T (0,0)):=fun j xs T e=>(hb6.block j (lt_of_heap e)).trans e
 refine step_msg (.tmp 44) (.tmp 46) rfl B w5.heap.size (l.N g) (.slice ua L.length uc) L m _ rfl (W6.out.qd k _ L HF.out.hd hL) rfl hN6 ho6.out (fun j hj e=>hj (Or.inr ⟨_,mq,e⟩)) (by omega) (by have:=hb6.size;have:=hb5.size;omega) ?_
 intro la lc w7 hown7 hg7 hB7 hloc7
 have kp:∀ (j:Nat) (xs:Array Value) (T:TypeId),w5.heap[j]?=some (Obj.cells xs T (0,0))→T≠TM→w7.heap[j]?=w6.heap[j]?:=fun j xs T e1 e2=>hg7.block j (lt_of_heap (kb j xs T e1)) (W6.out.qne (Or.inr HF.out.hd) (kb j xs T e1) e2)
 obtain ⟨xg,kg⟩:=HF.out.kg
 obtain ⟨xu,ku⟩:=HF.out.kd
 have eg:=kp g _ _ kg (by decide)
 have eu:=kp gd _ _ ku (by decide)
 have eb:w7.heap[w.heap.size]?=w6.heap[w.heap.size]?:=hg7.block _ (lt_of_cell Q6.2.2.1) (fun e=>by have:=(OwnS.own_lt (h.out.qd k _ L hd0.out hL) e.symm).2;omega)
 have fu7:w7.frozen? ⟨gd,k,none⟩=false:=Lib.frozen_of_heap (eu.trans (kb gd _ _ ku)) _
 have Q7:w7.cell? ⟨g,5,none⟩=some (.slice (some ⟨gd,0,none⟩) W.cl.length cd)∧w7.cell? ⟨gd,k,none⟩=some (.slice ua L.length uc)∧w7.cell? ⟨w.heap.size,0,none⟩=some (.int .i64 m.rev)∧w7.cell? ⟨w.heap.size,1,none⟩=some (.int .i64 m.e.client)∧w7.cell? ⟨w.heap.size,2,none⟩=some (.int .i64 m.e.seq)∧w7.cell? ⟨w.heap.size,3,none⟩=some (.slice xa m.e.o.length xc):=
  ⟨(World.cell?_of_block eg).trans Q6.1,(World.cell?_of_block eu).trans Q6.2.1,(World.cell?_of_block eb).trans Q6.2.2.1,(World.cell?_of_block eb).trans Q6.2.2.2.1,(World.cell?_of_block eb).trans Q6.2.2.2.2.1,(World.cell?_of_block eb).trans Q6.2.2.2.2.2⟩
 have yu7:=Q7.2.1
 clear eg eb eu kg ku kp kb
 refine hK'.out _ _ trivial (fun _=>Q7) ?_
 clear hK' K'
 refine tG 17 15 48 (v:=?_) trivial Q7 ?_ ?_
 rotate_left
 ·(intro w' hw';(try dsimp only at hw');go_simp;try with_reducible rfl)
 simp only [List.set_cons_zero,List.set_cons_succ]
 refine wpAnyG_step 16 rfl (by kernel_rfl) (fun K' hK'=>?_)
 rw [if_pos (by rfl)]
 go_simp
 refine hK'.out _ _ trivial (fun h=>absurd h (by decide)) ?_
 clear hK' K'
 refine wpAnyG_done (by kernel_rfl) ?_ _
 go_end0
 have hW8:=W6.out.downPush HF.out.vd HF.out.hd hg7 hloc7 rfl hown7
 have K8:=(Kp.below (F:=l.N g) hb5).trans hb5.size ((Kp.below hb6).trans hb6.size (kpDs HF.out.vd HF.out.hd (w':=w7.setCell ⟨gd,k,none⟩ (.slice la (L.length+1) lc)) ⟨fun j hl h1 h2=>(heap_setCell_other _ _ j _ h1).trans (hg7.block j hl (Ne.symm h2)),hloc7⟩))
 exact ⟨rfl,⟨_,hW8,K8⟩,(((hb5.mono hBs).trans (hb6.mono (by have:=hb5.size;omega))).trans hB7).setCell (p:=⟨gd,k,none⟩) hBd _⟩
set_option maxRecDepth 100000 in
set_option maxHeartbeats 4000000 in
theorem wdDown_any (B g:Nat) (l:Lay) (w:World) (W:Wd) (k:Nat) (m:Msg) (ov:Value) (h:WAt B g l w W) (hk:k < W.cl.length) (hul:W.up.length=W.cl.length) (hdl:W.down.length=W.cl.length) (ho:ROp (l.N g) w ov m.e.o) (hsm:opSm m.e.o) :
  Calls Tryz.prog 160 #[.pointer (some ⟨g,0,none⟩),.int .i64 k,.agg #[.int .i64 m.rev,.int .i64 m.e.client,.int .i64 m.e.seq,ov]] w fun e w'=>e=.returned (.tuple #[])∧(∃ l',WAt B g l' w' (downW W k m)∧Kp (l.N g) (l'.N g) w w')∧Below B w w':=by
 obtain ⟨gc,gu,gd,cc,cu,cd,c,b,n,s,hh,uq,dq,H⟩:=h.facts hk hul hdl
 have ec:clAt W k=c:=getD_some H.hc
 obtain ⟨L,hL⟩:∃ L,W.down[k]?=some L:=⟨_,List.getElem?_eq_getElem (by omega)⟩
 have eL:downAt W k=L:=getD_some hL
 have hBs:B≤w.heap.size:=by have:=h.gB;obtain ⟨_,kg⟩:=H.kg;have:=lt_of_heap kg;omega
 obtain ⟨ua,uc,rfl,_⟩:=RdS.len (h.qd k dq L H.hd hL).rd
 obtain ⟨oa,oc,rfl,_⟩:=RdS.len ho
 by_cases hj:c.joined=true
 ·by_cases h90:90≤L.length
  ·have eW:downW W k m=cutW W k:=by unfold downW;rw [ec,if_neg (by simp [hj]),eL,if_pos h90]
   rw [eW]
   have HF:=Lib.hid H
   have h:=Lib.hid h
   clear H hL eL ec eW
   go_enter Tryz.func160,Tryz.ntmps160
   go_upto_region 1 with fail
   refine name_world ?_
   intro w1 hw1
   have hb1:Below w.heap.size w w1:=by rw [← hw1];exact bal (brf w) _
   clear hw1
   have H1:=HF.out.below hb1
   have C:=Lib.hid (wdCut_any B g l w1 W k (h.out.below hb1) hk hul hdl)
   have x3:=H1.b3
   have x5:=H1.b5
   have xd:=H1.d
   have x6:=H1.c6
   rw [hj] at x6
   have h90':decide ((90:Int)≤(L.length:Int))=true:=by simp;omega
   clear H1 hj h90
   go_wp2_with fail
   refine C.out.mono ?_
   rintro e w' ⟨rfl,hl,hb⟩
   go_wp2_with fail
   refine bodyPost_ret (results_none rfl _ _ _) rfl ?_
   exact ⟨rfl,hl.imp fun _ h=>⟨h.1,(Kp.below hb1).trans hb1.size h.2⟩,(hb1.mono hBs).trans hb⟩
  ·have eW:downW W k m={ W with down:=W.down.set k (L ++ [m]) }:=by unfold downW;rw [ec,if_neg (by simp [hj]),eL,if_neg h90,modL_set _ k W.down hL]
   rw [eW]
   exact wdDown_send B g l w W k m _ gc gu gd cc cu cd c b n s hh uq _ L h H hk ho hsm hj hL (by omega)
 ·have hj:c.joined=false:=by simpa using hj
  have eW:downW W k m=W:=by unfold downW;rw [ec,if_pos hj]
  rw [eW]
  have HF:=Lib.hid H
  have h:=Lib.hid h
  clear H hL eL ec eW
  go_enter Tryz.func160,Tryz.ntmps160
  go_upto_region 1 with fail
  refine name_world ?_
  intro w1 hw1
  have hb1:Below w.heap.size w w1:=by rw [← hw1];exact bal (brf w) _
  clear hw1
  have H1:=HF.out.below hb1
  have x3:=H1.b3
  have x6:=H1.c6
  rw [hj] at x6
  clear H1 hj
  go_wp2_with fail
  refine bodyPost_ret (results_none rfl _ _ _) rfl ?_
  exact ⟨rfl,⟨_,h.out.below hb1,Kp.below hb1⟩,hb1.mono hBs⟩
end Go.Proofs.YteikncnldbdfmaaGreatDoor
