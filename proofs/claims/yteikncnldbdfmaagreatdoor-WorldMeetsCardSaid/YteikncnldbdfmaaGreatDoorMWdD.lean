import Derived.Test.YteikncnldbdfmaaGreatDoorMWdC
import Derived.Test.YteikncnldbdfmaaGreatDoorMClN
import Derived.Test.YteikncnldbdfmaaGreatDoorMPl
namespace Go.Proofs.YteikncnldbdfmaaGreatDoor
open Go.RowKit Go.Mh
theorem setC_at {W:Wd} {k:Nat} (hk:k < W.cl.length) (c:Cl):clAt (setC W k c) k=c:=by simp only [clAt,setC];rw [getD_modL _ _ _ _ _ hk,if_pos rfl]
theorem setC_len (W:Wd) (k:Nat) (c:Cl):(setC W k c).cl.length=W.cl.length:=by simp [setC,modL_len]
theorem cell7 {w:World} {b:Nat} {a0 a1 a2 a3 a4 a5 a6:Value} {e:TypeId} {fr:Nat × Nat} (h:w.heap[b]?=some (.cells #[a0,a1,a2,a3,a4,a5,a6] e fr)):w.cell? ⟨b,0,none⟩=some a0∧w.cell? ⟨b,1,none⟩=some a1∧w.cell? ⟨b,2,none⟩=some a2∧w.cell? ⟨b,3,none⟩=some a3∧w.cell? ⟨b,4,none⟩=some a4∧w.cell? ⟨b,5,none⟩=some a5∧w.cell? ⟨b,6,none⟩=some a6:=
 ⟨cellOf (i:=0) h rfl,cellOf (i:=1) h rfl,cellOf (i:=2) h rfl,cellOf (i:=3) h rfl,cellOf (i:=4) h rfl,cellOf (i:=5) h rfl,cellOf (i:=6) h rfl⟩
theorem WF.there {g:Nat} {l:Lay} {w:World} {W:Wd} {k gc gu gd cc cu cd:Nat} {c:Cl} {b n s hh uq dq:Value} (H:WF g l w W k gc gu gd cc cu cd c b n s hh uq dq):w.there gc (k * 7) 7:=fun j hj=>by
 refine ⟨?_,H.fc _⟩
 match j,hj with
 | 0,_=>show (w.cell? ⟨gc,k * 7,none⟩).isSome=true;rw [H.c0];rfl
 | 1,_=>rw [H.c1];rfl
 | 2,_=>rw [H.c2];rfl
 | 3,_=>rw [H.c3];rfl
 | 4,_=>rw [H.c4];rfl
 | 5,_=>rw [H.c5];rfl
 | 6,_=>rw [H.c6];rfl
set_option maxRecDepth 100000 in
set_option maxHeartbeats 4000000 in
theorem wdEdit_any (B g:Nat) (l:Lay) (w:World) (W:Wd) (k:Nat) (u:Value) (o:List Pt) (h:WAt B g l w W) (hk:k < W.cl.length) (hul:W.up.length=W.cl.length) (hdl:W.down.length=W.cl.length) (ho:ROp (l.N g) w u o) :
  Calls Tryz.prog 95 #[.pointer (some ⟨g,0,none⟩),.int .i64 k,u] w fun e w'=>e=.returned (.int .i64 (editW W k o).2)∧(∃ l',WAt B g l' w' (editW W k o).1∧Kp (l.N g) (l'.N g) w w')∧Below B w w':=by
 obtain ⟨gc,gu,gd,cc,cu,cd,c,b,n,s,hh,uq,dq,H⟩:=h.facts hk hul hdl
 have ec:clAt W k=c:=getD_some H.hc
 have hBs:B≤w.heap.size:=by have:=h.gB;obtain ⟨_,kg⟩:=H.kg;have:=lt_of_heap kg;omega
 have hBc:B≤gc:=(h.cl.cells (k:=gc) (by rw [H.vc];rfl)).1
 have C:=clDo_N (l.N g) (.agg #[.int .i64 c.rev,b,n,.int .i64 c.seq,s,hh,.bool c.joined]) u c o w ⟨b,n,s,hh,rfl,H.rb,H.rn,H.rs,H.rh⟩ ho h.new h.not
 obtain ⟨⟨x,bb,er⟩,hr⟩:∃ r,doC c o=r:=⟨_,rfl⟩
 rw [hr] at C
 have eW:editW W k o=if er≠0 then (W,er) else (if bb=true then upW (setC W k x) k else setC W k x,0):=by unfold editW;rw [ec,hr]
 obtain ⟨⟨V,E⟩,hV⟩:∃ r,editW W k o=r:=⟨_,rfl⟩
 rw [hV]
 rw [hV] at eW
 have eW:=Lib.hid eW
 clear hV
 have C:=Lib.hid C
 have HF:=Lib.hid H
 have h:=Lib.hid h
 have x3:=H.b3
 have x0:=H.c0
 have x1:=H.c1
 have x2:=H.c2
 have x4:=H.c3
 have x5:=H.c4
 have x6:=H.c5
 have x7:=H.c6
 clear H ec ho
 have hr:=Lib.hid hr
 go_enter Tryz.func95,Tryz.ntmps95
 go_wp2_with fail
 refine C.out.mono ?_
 rintro e w1 ⟨v',rfl,⟨b',n',s',h',rfl,r1,r2,r3,r4⟩,hb1⟩
 obtain ⟨ba',bc',rfl,_⟩:=RdS.len r1
 obtain ⟨na',nc',rfl,_⟩:=RdS.len r2
 obtain ⟨sa',sc',rfl,_⟩:=RdS.len r3
 obtain ⟨ha',hc',rfl,_⟩:=RdS.len r4
 have R1:=Lib.hid r1
 have R2:=Lib.hid r2
 have R3:=Lib.hid r3
 have R4:=Lib.hid r4
 clear r1 r2 r3 r4 x0 x1 x2 x3 x4 x5 x6 x7
 go_upto_region 2 with fail
 refine name_world ?_
 intro w2 hw2
 have hN2:=heap_new w1 (.cells #[.int .i64 x.rev,.slice ba' x.base.length bc',.slice na' x.now.length nc',.int .i64 x.seq,.slice sa' x.sent.length sc',.slice ha' x.held.length hc',.bool x.joined] 52)
 rw [hw2] at hN2
 have hN2:=Lib.hid hN2
 have hb2:Below w1.heap.size w1 w2:=by rw [← hw2];exact bal (brf w1) _
 have hB2:Below w.heap.size w w2:=hb1.trans (hb2.mono hb1.size)
 clear hw2
 by_cases he:er=0
 ·subst he
  have eV:=eW.out
  rw [if_neg (by simp)] at eV
  simp only [Prod.mk.injEq] at eV
  obtain ⟨eV,rfl⟩:=eV
  have hsm:opSm x.sent:=by have:=(law_do hr.out).2.2.1.sm;exact ⟨this.s,this.si⟩
  have eV:=Lib.hid eV
  clear eW hr C
  go_upto_region 4 with fail
  obtain ⟨w3,hw3⟩:∃ w3,w2.drew=w3:=⟨_,rfl⟩
  have hb3:Below w2.heap.size w2 w3:=by rw [← hw3];exact Go.below_drewN (Below.refl _ _) 1
  have hB3:Below w.heap.size w w3:=hB2.trans (hb3.mono hB2.size)
  have hN3:=(hb3.block _ (lt_of_heap hN2.out)).trans hN2.out
  have W3:=Lib.hid (h.out.below hB3)
  have HF3:=Lib.hid (HF.out.below hB3)
  have kp3:Kp (l.N g) (l.N g) w1 w3:=Kp.below (hb2.trans (hb3.mono hb2.size))
  have RC:=Lib.hid (show RClc (l.N g) w3 [.int .i64 x.rev,.slice ba' x.base.length bc',.slice na' x.now.length nc',.int .i64 x.seq,.slice sa' x.sent.length sc',.slice ha' x.held.length hc',.bool x.joined] x from ⟨_,_,_,_,rfl,RItems.to R1.out kp3,RItems.to R2.out kp3,ROp.to R3.out kp3,ROp.to R4.out kp3⟩)
  have Q3:w3.cell? ⟨g,3,none⟩=some (.slice (some ⟨gc,0,none⟩) W.cl.length cc)∧w3.cell? ⟨w1.heap.size,0,none⟩=some (.int .i64 x.rev)∧w3.cell? ⟨w1.heap.size,1,none⟩=some (.slice ba' x.base.length bc')∧w3.cell? ⟨w1.heap.size,2,none⟩=some (.slice na' x.now.length nc')∧w3.cell? ⟨w1.heap.size,3,none⟩=some (.int .i64 x.seq)∧w3.cell? ⟨w1.heap.size,4,none⟩=some (.slice sa' x.sent.length sc')∧w3.cell? ⟨w1.heap.size,5,none⟩=some (.slice ha' x.held.length hc')∧w3.cell? ⟨w1.heap.size,6,none⟩=some (.bool x.joined):=⟨HF3.out.b3,(cell7 hN3).1,(cell7 hN3).2.1,(cell7 hN3).2.2.1,(cell7 hN3).2.2.2.1,(cell7 hN3).2.2.2.2.1,(cell7 hN3).2.2.2.2.2.1,(cell7 hN3).2.2.2.2.2.2⟩
  have hN3:=Lib.hid hN3
  clear hN2
  refine wp_region_G 7 (fun w'=>w'.cell? ⟨g,3,none⟩=some (.slice (some ⟨gc,0,none⟩) W.cl.length cc)∧w'.cell? ⟨w1.heap.size,0,none⟩=some (.int .i64 x.rev)∧w'.cell? ⟨w1.heap.size,1,none⟩=some (.slice ba' x.base.length bc')∧w'.cell? ⟨w1.heap.size,2,none⟩=some (.slice na' x.now.length nc')∧w'.cell? ⟨w1.heap.size,3,none⟩=some (.int .i64 x.seq)∧w'.cell? ⟨w1.heap.size,4,none⟩=some (.slice sa' x.sent.length sc')∧w'.cell? ⟨w1.heap.size,5,none⟩=some (.slice ha' x.held.length hc')∧w'.cell? ⟨w1.heap.size,6,none⟩=some (.bool x.joined)) (fun w'=>True) (by kernel_rfl) ?_
  show wpAnyG _ _ _ _ _ _ _ _ _ _ (World.drew _)
  rw [hw3]
  refine tG 8 0 26 (v:=?_) trivial Q3 ?_ ?_
  rotate_left
  ·(intro w' hw';(try dsimp only at hw');go_simp;try with_reducible rfl)
  simp only [List.set_cons_zero,List.set_cons_succ]
  refine tG 8 1 27 (v:=?_) trivial Q3 ?_ ?_
  rotate_left
  ·(intro w' hw';(try dsimp only at hw');go_simp;try with_reducible rfl)
  simp only [List.set_cons_zero,List.set_cons_succ]
  refine tG 8 2 28 (v:=?_) trivial Q3 ?_ ?_
  rotate_left
  ·(intro w' hw';(try dsimp only at hw');go_simp;try with_reducible rfl)
  simp only [List.set_cons_zero,List.set_cons_succ]
  refine tG 8 3 29 (v:=?_) trivial Q3 ?_ ?_
  rotate_left
  ·(intro w' hw';obtain ⟨p5,p0,p1,p2,p3,p4,p5',p6⟩:=hw';go_simp;try with_reducible rfl)
  simp only [List.set_cons_zero,List.set_cons_succ]
  refine tG 8 4 30 (v:=?_) trivial Q3 ?_ ?_
  rotate_left
  ·(intro w' hw';(try dsimp only at hw');go_simp;try with_reducible rfl)
  simp only [List.set_cons_zero,List.set_cons_succ]
  refine tG 8 5 31 (v:=?_) trivial Q3 ?_ ?_
  rotate_left
  ·(intro w' hw';obtain ⟨p5,p0,p1,p2,p3,p4,p5',p6⟩:=hw';go_simp;try with_reducible rfl)
  simp only [List.set_cons_zero,List.set_cons_succ]
  refine tG 8 6 32 (v:=?_) trivial Q3 ?_ ?_
  rotate_left
  ·(intro w' hw';(try dsimp only at hw');go_simp;try with_reducible rfl)
  simp only [List.set_cons_zero,List.set_cons_succ]
  refine wpAnyG_step 7 rfl (by kernel_rfl) (fun K' hK'=>?_)
  rw [if_pos (by rfl)]
  clear hw3
  refine wp_store_mid 52 (.tmp 32) (.tmp 31) rfl gc (k * 7) #[.int .i64 x.rev,.slice ba' x.base.length bc',.slice na' x.now.length nc',.int .i64 x.seq,.slice sa' x.sent.length sc',.slice ha' x.held.length hc',.bool x.joined] rfl rfl HF3.out.there (by kernel_rfl) (by simp [Value.oneCell']) ?_
  show K' _ _
  refine hK'.out _ _ trivial (fun h=>absurd h (by decide)) ?_
  clear hK' K'
  refine wpAnyG_done (by kernel_rfl) ?_ _
  have W4:=Lib.hid (W3.out.putClient HF3.out.vc HF3.out.hc _ RC.out)
  have hB4:=below_setCells hBc [.int .i64 x.rev,.slice ba' x.base.length bc',.slice na' x.now.length nc',.int .i64 x.seq,.slice sa' x.sent.length sc',.slice ha' x.held.length hc',.bool x.joined] (k * 7) w3 (hB3.mono hBs)
  obtain ⟨w4,hw4⟩:∃ w4,w3.setCells gc (k * 7) [.int .i64 x.rev,.slice ba' x.base.length bc',.slice na' x.now.length nc',.int .i64 x.seq,.slice sa' x.sent.length sc',.slice ha' x.held.length hc',.bool x.joined]=w4:=⟨_,rfl⟩
  have K4:Kp (l.N g) (l.N g) w (w3.setCells gc (k * 7) [.int .i64 x.rev,.slice ba' x.base.length bc',.slice na' x.now.length nc',.int .i64 x.seq,.slice sa' x.sent.length sc',.slice ha' x.held.length hc',.bool x.joined]):=Kp.trans (Kp.below hB3) hB3.size (kpClient HF3.out.vc _)
  rw [hw4] at W4 hB4 K4
  have K4:=Lib.hid K4
  have C2:=Lib.hid (wdUp_any B g l w4 (setC W k x) k W4.out (by rw [setC_len];exact hk) (by rw [setC_len];exact hul) (by rw [setC_len];exact hdl) (by rw [setC_at hk];exact hsm))
  have eV:=eV.out
  cases bb with
  | true =>
   rw [if_pos rfl] at eV
   subst eV
   go_wp2_with fail
   refine C2.out.mono ?_
   rintro e w5 ⟨rfl,⟨l5,hl5,hk5⟩,hb5⟩
   go_wp2_with fail
   go_ret
   exact ⟨rfl,⟨l5,hl5,Kp.trans K4.out hB4.size hk5⟩,hB4.trans hb5⟩
  | false =>
   rw [if_neg (by simp)] at eV
   subst eV
   go_wp2_with fail
   go_ret
   exact ⟨rfl,⟨_,W4.out,K4.out⟩,hB4⟩
 ·have eV:=eW.out
  rw [if_pos he] at eV
  cases eV
  have he':(er == 0)=false:=by simpa using he
  clear eW hr C
  go_wp2_with fail
  go_ret
  exact ⟨rfl,⟨_,h.out.below hB2,Kp.below hB2⟩,hB2.mono hBs⟩
end Go.Proofs.YteikncnldbdfmaaGreatDoor
