import Derived.Test.YteikncnldbdfmaaGreatDoorMPl
import Derived.Test.YteikncnldbdfmaaGreatDoorMDoc
import Derived.Test.YteikncnldbdfmaaGreatDoorMMem
import Derived.Test.YteikncnldbdfmaaGreatDoorMSanP
import Derived.Test.YteikncnldbdfmaaGreatDoorMWdR
import Derived.Test.YteikncnldbdfmaaGreatDoorMWdM
namespace Go.Mh
def hapZ (k c:Int):Hap:=⟨k,c,0,[],[]⟩
def metL:List Hap:=[⟨1,0,0,putsP 120 1 5,[]⟩,⟨1,1,0,putsP 121 1 5,[]⟩,hapZ 3 1,hapZ 3 0,hapZ 4 0,hapZ 4 0,hapZ 4 1,hapZ 4 1,hapZ 6 0]
end Go.Mh
namespace Go.Proofs.YteikncnldbdfmaaGreatDoor
open Go.RowKit Go.Mh
theorem met_chk:chkWd (newW smallL 2)=0:=by decide +kernel
theorem met_run:(runW sanP (newW smallL 2) metL).2=[0,0,0,0,0,0,0,0,7]∧(runW sanP (newW smallL 2) metL).1.cl.map Cl.now=[(runW sanP (newW smallL 2) metL).1.s.now,(runW sanP (newW smallL 2) metL).1.s.now] ∧
  (runW sanP (newW smallL 2) metL).1.s.now.length=7∧((runW sanP (newW smallL 2) metL).1.s.now[1]?).map It.c=some 121:=by decide +kernel
end Go.Proofs.YteikncnldbdfmaaGreatDoor
namespace Go.Mh
open Go Go.RowKit
theorem RHaps.lit {F:Nat→Prop} {w:World} {g n cap:Nat} {L:List Hap} {xs:Array Value} {e:TypeId} {fr:Nat × Nat} (hg:w.heap[g]?=some (.cells xs e fr)) (hn:n=L.length) (hc:n≤cap) (hm:cap≤maxLen) (hF:F g)
  (hx:∀ i x,L[i]?=some x→∃ oa oc ba bc,ROp F w (.slice oa x.o.length oc) x.o∧RBytes F w (.slice ba x.b.length bc) x.b∧xs[i * 5]?=some (.int .i64 x.kind)∧xs[i * 5+1]?=some (.int .i64 x.client)∧xs[i * 5+2]?=some (.int .i64 x.n)∧xs[i * 5+3]?=some (.slice oa x.o.length oc)∧xs[i * 5+4]?=some (.slice ba x.b.length bc)):RHaps F w (.slice (some ⟨g,0,none⟩) n cap) L:=by
 subst hn
 refine ⟨_,cap,rfl,hc,hm,fun h=>by simp at h,fun i x hi=>?_⟩
 obtain ⟨oa,oc,ba,bc,h1,h2,a0,a1,a2,a3,a4⟩:=hx i x hi
 refine ⟨g,0,[.int .i64 x.kind,.int .i64 x.client,.int .i64 x.n,.slice oa x.o.length oc,.slice ba x.b.length bc],rfl,hF,rfl,fun j u hj=>?_,oa,oc,ba,bc,rfl,h1,h2⟩
 unfold World.cell?
 rw [hg]
 match j,hj with
 | 0,hj=>simp at hj;subst hj;simpa using a0
 | 1,hj=>simp at hj;subst hj;simpa using a1
 | 2,hj=>simp at hj;subst hj;simpa using a2
 | 3,hj=>simp at hj;subst hj;simpa using a3
 | 4,hj=>simp at hj;subst hj;simpa using a4
end Go.Mh
namespace Go.Proofs.YteikncnldbdfmaaGreatDoor
open Go Go.RowKit Go.Mh
theorem met_haps {w:World} {g e:Nat} {pa pb:Option Addr} {ca' cb':Nat} (hg:w.heap[g]?=some (.cells #[.int .i64 1,.int .i64 0,.int .i64 0,.slice pa (putsP 120 1 5).length ca',.slice none 0 0,.int .i64 1,.int .i64 1,.int .i64 0,.slice pb (putsP 121 1 5).length cb',.slice none 0 0,.int .i64 3,.int .i64 1,.int .i64 0,.slice none 0 0,.slice none 0 0,.int .i64 3,.int .i64 0,.int .i64 0,.slice none 0 0,.slice none 0 0,.int .i64 4,.int .i64 0,.int .i64 0,.slice none 0 0,.slice none 0 0,.int .i64 4,.int .i64 0,.int .i64 0,.slice none 0 0,.slice none 0 0,.int .i64 4,.int .i64 1,.int .i64 0,.slice none 0 0,.slice none 0 0,.int .i64 4,.int .i64 1,.int .i64 0,.slice none 0 0,.slice none 0 0,.int .i64 6,.int .i64 0,.int .i64 0,.slice none 0 0,.slice none 0 0] e (0,0))) (h1:ROp (fun _=>True) w (.slice pa (putsP 120 1 5).length ca') (putsP 120 1 5)) (h2:ROp (fun _=>True) w (.slice pb (putsP 121 1 5).length cb') (putsP 121 1 5)):RHaps (fun _=>True) w (.slice (some ⟨g,0,none⟩) 9 9) metL:=by
 refine RHaps.lit hg rfl (by decide) (by simp [maxLen]) trivial (fun i x hi=>?_)
 match i,hi with
 | 0,hi=>cases hi;exact ⟨_,_,_,_,h1,RdS.nil,rfl,rfl,rfl,rfl,rfl⟩
 | 1,hi=>cases hi;exact ⟨_,_,_,_,h2,RdS.nil,rfl,rfl,rfl,rfl,rfl⟩
 | 2,hi=>cases hi;exact ⟨_,_,_,_,RdS.nil,RdS.nil,rfl,rfl,rfl,rfl,rfl⟩
 | 3,hi=>cases hi;exact ⟨_,_,_,_,RdS.nil,RdS.nil,rfl,rfl,rfl,rfl,rfl⟩
 | 4,hi=>cases hi;exact ⟨_,_,_,_,RdS.nil,RdS.nil,rfl,rfl,rfl,rfl,rfl⟩
 | 5,hi=>cases hi;exact ⟨_,_,_,_,RdS.nil,RdS.nil,rfl,rfl,rfl,rfl,rfl⟩
 | 6,hi=>cases hi;exact ⟨_,_,_,_,RdS.nil,RdS.nil,rfl,rfl,rfl,rfl,rfl⟩
 | 7,hi=>cases hi;exact ⟨_,_,_,_,RdS.nil,RdS.nil,rfl,rfl,rfl,rfl,rfl⟩
 | 8,hi=>cases hi;exact ⟨_,_,_,_,RdS.nil,RdS.nil,rfl,rfl,rfl,rfl,rfl⟩
set_option maxRecDepth 1000000 in
set_option maxHeartbeats 8000000 in
theorem met_any (w:World) (hm:∃ m,w.cell? ⟨2,0,none⟩=some (.int .i64 m)) :
  Calls Tryz.prog 11 #[] w fun e w'=>e=.returned (.bool true)∧Below w.heap.size w w':=by
 replace hm:=Lib.hid hm
 have hnw:newWd smallL 2=(newW smallL 2,0):=by
  unfold newWd newS
  rw [if_neg (by simp [small_chk]),if_neg (by omega)]
  rfl
 obtain ⟨W1,hW1⟩:∃ W1,newW smallL 2=W1:=⟨_,rfl⟩
 obtain ⟨⟨V,S⟩,hR⟩:∃ r,runW sanP W1 metL=r:=⟨_,rfl⟩
 have hrun:runP sanP W1 metL=(V,S,0):=by
  unfold runP
  rw [if_neg (by rw [← hW1,met_chk];simp),if_neg (by decide),hR]
 obtain ⟨f1,f2,f3,f4⟩:=met_run
 rw [hW1,hR] at f1 f2 f3 f4
 rw [hW1] at hnw
 replace f1:=Lib.hid f1
 replace f2:=Lib.hid f2
 replace f3:=Lib.hid f3
 replace f4:=Lib.hid f4
 replace hnw:=Lib.hid hnw
 replace hrun:=Lib.hid hrun
 clear hW1 hR
 go_enter Tryz.func11,Tryz.ntmps11
 go_wp2_with fail
 refine (small_any w).mono ?_
 rintro e w1 ⟨v1,rfl,hr1,hb1⟩
 have CN:=wdNew_any _ v1 smallL 2 w1 hr1
 rw [hnw.out] at CN
 replace CN:=Lib.hid CN
 clear hr1
 go_wp2_with fail
 refine CN.out.mono ?_
 rintro e w2 ⟨v2,rfl,hr2,hb2⟩
 have hB2:=hb1.trans (hb2.mono hb1.size)
 obtain ⟨aa,ac,la,lc,na,nc,ca,cc,ua,uc,da,dc,rfl⟩:=RWd.shape hr2
 replace hr2:=Lib.hid (RWd.to hr2 (Kp.lt w2))
 clear CN hb1 hb2
 obtain ⟨w3,hw3⟩:∃ w3,w3=w2.alloc (.cells #[.slice aa W1.s.first.length ac,.slice la W1.s.log.length lc,.slice na W1.s.now.length nc,.slice ca W1.cl.length cc,.slice ua W1.up.length uc,.slice da W1.down.length dc] 30):=⟨_,rfl⟩
 have hb3:Below w2.heap.size w2 w3:=by rw [hw3];exact bal (brf w2) _
 have E3:=heap_new w2 (.cells #[.slice aa W1.s.first.length ac,.slice la W1.s.log.length lc,.slice na W1.s.now.length nc,.slice ca W1.cl.length cc,.slice ua W1.up.length uc,.slice da W1.down.length dc] 30)
 rw [← hw3] at E3
 obtain ⟨wd,hwd⟩:∃ wd,w3.drew=wd:=⟨_,rfl⟩
 have hbd':Below w3.heap.size w3 wd:=by rw [← hwd];exact Go.below_drewN (Below.refl _ _) 1
 have hbd:Below w2.heap.size w2 wd:=hb3.trans (hbd'.mono hb3.size)
 have Q0:wd.cell? ⟨w2.heap.size,0,none⟩=some (.slice aa W1.s.first.length ac)∧wd.cell? ⟨w2.heap.size,1,none⟩=some (.slice la W1.s.log.length lc)∧wd.cell? ⟨w2.heap.size,2,none⟩=some (.slice na W1.s.now.length nc)∧wd.cell? ⟨w2.heap.size,3,none⟩=some (.slice ca W1.cl.length cc)∧wd.cell? ⟨w2.heap.size,4,none⟩=some (.slice ua W1.up.length uc)∧wd.cell? ⟨w2.heap.size,5,none⟩=some (.slice da W1.down.length dc):=P6.of ((hbd'.block _ (lt_of_heap E3)).trans E3)
 have E0:=Lib.hid ((hbd'.block _ (lt_of_heap E3)).trans E3)
 clear hbd' hb3 E3
 go_upto_region 2 with fail
 rw [← hw3]
 clear hw3
 refine wp_region_G 18 (fun w'=>w'.cell? ⟨w2.heap.size,0,none⟩=some (.slice aa W1.s.first.length ac)∧w'.cell? ⟨w2.heap.size,1,none⟩=some (.slice la W1.s.log.length lc)∧w'.cell? ⟨w2.heap.size,2,none⟩=some (.slice na W1.s.now.length nc)∧w'.cell? ⟨w2.heap.size,3,none⟩=some (.slice ca W1.cl.length cc)∧w'.cell? ⟨w2.heap.size,4,none⟩=some (.slice ua W1.up.length uc)∧w'.cell? ⟨w2.heap.size,5,none⟩=some (.slice da W1.down.length dc)) (fun w'=>True) (by kernel_rfl) ?_
 show wpAnyG _ _ _ _ _ _ _ _ _ _ (World.drew _)
 rw [hwd]
 clear hwd
 refine tG 21 0 11 (v:=?_) trivial Q0 ?_ ?_
 rotate_left
 ·(intro w' hw';obtain ⟨_,t0,t1,t2,t3,t4,t5⟩:=hw';go_simp;try with_reducible rfl)
 simp only [List.set_cons_zero,List.set_cons_succ]
 refine tG 21 5 16 (v:=?_) trivial Q0 ?_ ?_
 rotate_left
 ·(intro w' hw';(try dsimp only at hw');go_simp;try with_reducible rfl)
 simp only [List.set_cons_zero,List.set_cons_succ]
 refine tG 21 6 17 (v:=?_) trivial Q0 ?_ ?_
 rotate_left
 ·(intro w' hw';(try dsimp only at hw');go_simp;try with_reducible rfl)
 simp only [List.set_cons_zero,List.set_cons_succ]
 refine tG 21 7 18 (v:=?_) trivial Q0 ?_ ?_
 rotate_left
 ·(intro w' hw';(try dsimp only at hw');go_simp;try with_reducible rfl)
 simp only [List.set_cons_zero,List.set_cons_succ]
 refine tG 21 8 19 (v:=?_) trivial Q0 ?_ ?_
 rotate_left
 ·(intro w' hw';(try dsimp only at hw');go_simp;try with_reducible rfl)
 simp only [List.set_cons_zero,List.set_cons_succ]
 refine tG 21 9 20 (v:=?_) trivial Q0 ?_ ?_
 rotate_left
 ·(intro w' hw';(try dsimp only at hw');go_simp;try with_reducible rfl)
 simp only [List.set_cons_zero,List.set_cons_succ]
 refine tG 21 10 21 (v:=?_) trivial Q0 ?_ ?_
 rotate_left
 ·(intro w' hw';(try dsimp only at hw');go_simp;try with_reducible rfl)
 simp only [List.set_cons_zero,List.set_cons_succ]
 refine tG 21 11 22 (v:=?_) trivial Q0 ?_ ?_
 rotate_left
 ·(intro w' hw';(try dsimp only at hw');go_simp;try with_reducible rfl)
 simp only [List.set_cons_zero,List.set_cons_succ]
 refine wpAnyG_step 1 rfl (by kernel_rfl) (fun K' hK'=>?_)
 rw [if_pos (by rfl)]
 go_simp
 refine (puts_any 120 1 5 (by decide) _).mono ?_
 rintro e wa ⟨ra,rfl,hra,hba⟩
 obtain ⟨pa,ca',rfl,_⟩:=RdS.len hra
 have Q1:wa.cell? ⟨w2.heap.size,0,none⟩=some (.slice aa W1.s.first.length ac)∧wa.cell? ⟨w2.heap.size,1,none⟩=some (.slice la W1.s.log.length lc)∧wa.cell? ⟨w2.heap.size,2,none⟩=some (.slice na W1.s.now.length nc)∧wa.cell? ⟨w2.heap.size,3,none⟩=some (.slice ca W1.cl.length cc)∧wa.cell? ⟨w2.heap.size,4,none⟩=some (.slice ua W1.up.length uc)∧wa.cell? ⟨w2.heap.size,5,none⟩=some (.slice da W1.down.length dc):=by
   obtain ⟨t0,t1,t2,t3,t4,t5⟩:=Q0
   exact ⟨(hba.cell (lt_of_cell t0)).trans t0,(hba.cell (lt_of_cell t1)).trans t1,(hba.cell (lt_of_cell t2)).trans t2,(hba.cell (lt_of_cell t3)).trans t3,(hba.cell (lt_of_cell t4)).trans t4,(hba.cell (lt_of_cell t5)).trans t5⟩
 replace hra:=Lib.hid hra
 have E1:=Lib.hid ((hba.block _ (lt_of_heap E0.out)).trans E0.out)
 refine hK'.out _ _ trivial (fun _=>Q1) ?_
 clear hK' K'
 refine tG 21 2 13 (v:=?_) trivial Q1 ?_ ?_
 rotate_left
 ·(intro w' hw';(try dsimp only at hw');go_simp;try with_reducible rfl)
 simp only [List.set_cons_zero,List.set_cons_succ]
 refine wpAnyG_step 3 rfl (by kernel_rfl) (fun K' hK'=>?_)
 rw [if_pos (by rfl)]
 go_simp
 refine (puts_any 121 1 5 (by decide) _).mono ?_
 rintro e wb ⟨rb,rfl,hrb,hbb⟩
 obtain ⟨pb,cb',rfl,_⟩:=RdS.len hrb
 have Q2:wb.cell? ⟨w2.heap.size,0,none⟩=some (.slice aa W1.s.first.length ac)∧wb.cell? ⟨w2.heap.size,1,none⟩=some (.slice la W1.s.log.length lc)∧wb.cell? ⟨w2.heap.size,2,none⟩=some (.slice na W1.s.now.length nc)∧wb.cell? ⟨w2.heap.size,3,none⟩=some (.slice ca W1.cl.length cc)∧wb.cell? ⟨w2.heap.size,4,none⟩=some (.slice ua W1.up.length uc)∧wb.cell? ⟨w2.heap.size,5,none⟩=some (.slice da W1.down.length dc):=by
   obtain ⟨t0,t1,t2,t3,t4,t5⟩:=Q1
   exact ⟨(hbb.cell (lt_of_cell t0)).trans t0,(hbb.cell (lt_of_cell t1)).trans t1,(hbb.cell (lt_of_cell t2)).trans t2,(hbb.cell (lt_of_cell t3)).trans t3,(hbb.cell (lt_of_cell t4)).trans t4,(hbb.cell (lt_of_cell t5)).trans t5⟩
 replace hrb:=Lib.hid hrb
 have E2:=Lib.hid ((hbb.block _ (lt_of_heap E1.out)).trans E1.out)
 refine hK'.out _ _ trivial (fun _=>Q2) ?_
 clear hK' K'
 refine tG 21 4 15 (v:=?_) trivial Q2 ?_ ?_
 rotate_left
 ·(intro w' hw';(try dsimp only at hw');go_simp;try with_reducible rfl)
 simp only [List.set_cons_zero,List.set_cons_succ]
 refine wpAnyG_step 12 rfl (by kernel_rfl) (fun K' hK'=>?_)
 rw [if_pos (by rfl)]
 go_simp
 obtain ⟨wc,hwc⟩:∃ wc,wb.alloc (.cells #[.int .i64 1,.int .i64 0,.int .i64 0,.slice pa (putsP 120 1 5).length ca',.slice none 0 0,.int .i64 1,.int .i64 1,.int .i64 0,.slice pb (putsP 121 1 5).length cb',.slice none 0 0,.int .i64 3,.int .i64 1,.int .i64 0,.slice none 0 0,.slice none 0 0,.int .i64 3,.int .i64 0,.int .i64 0,.slice none 0 0,.slice none 0 0,.int .i64 4,.int .i64 0,.int .i64 0,.slice none 0 0,.slice none 0 0,.int .i64 4,.int .i64 0,.int .i64 0,.slice none 0 0,.slice none 0 0,.int .i64 4,.int .i64 1,.int .i64 0,.slice none 0 0,.slice none 0 0,.int .i64 4,.int .i64 1,.int .i64 0,.slice none 0 0,.slice none 0 0,.int .i64 6,.int .i64 0,.int .i64 0,.slice none 0 0,.slice none 0 0] 43)=wc:=⟨_,rfl⟩
 have hbc:Below wb.heap.size wb wc:=by rw [← hwc];exact bal (brf wb) _
 have hNc:=heap_new wb (.cells #[.int .i64 1,.int .i64 0,.int .i64 0,.slice pa (putsP 120 1 5).length ca',.slice none 0 0,.int .i64 1,.int .i64 1,.int .i64 0,.slice pb (putsP 121 1 5).length cb',.slice none 0 0,.int .i64 3,.int .i64 1,.int .i64 0,.slice none 0 0,.slice none 0 0,.int .i64 3,.int .i64 0,.int .i64 0,.slice none 0 0,.slice none 0 0,.int .i64 4,.int .i64 0,.int .i64 0,.slice none 0 0,.slice none 0 0,.int .i64 4,.int .i64 0,.int .i64 0,.slice none 0 0,.slice none 0 0,.int .i64 4,.int .i64 1,.int .i64 0,.slice none 0 0,.slice none 0 0,.int .i64 4,.int .i64 1,.int .i64 0,.slice none 0 0,.slice none 0 0,.int .i64 6,.int .i64 0,.int .i64 0,.slice none 0 0,.slice none 0 0] 43)
 rw [hwc] at hNc
 have Q3:wc.cell? ⟨w2.heap.size,0,none⟩=some (.slice aa W1.s.first.length ac)∧wc.cell? ⟨w2.heap.size,1,none⟩=some (.slice la W1.s.log.length lc)∧wc.cell? ⟨w2.heap.size,2,none⟩=some (.slice na W1.s.now.length nc)∧wc.cell? ⟨w2.heap.size,3,none⟩=some (.slice ca W1.cl.length cc)∧wc.cell? ⟨w2.heap.size,4,none⟩=some (.slice ua W1.up.length uc)∧wc.cell? ⟨w2.heap.size,5,none⟩=some (.slice da W1.down.length dc):=by
   obtain ⟨t0,t1,t2,t3,t4,t5⟩:=Q2
   exact ⟨(hbc.cell (lt_of_cell t0)).trans t0,(hbc.cell (lt_of_cell t1)).trans t1,(hbc.cell (lt_of_cell t2)).trans t2,(hbc.cell (lt_of_cell t3)).trans t3,(hbc.cell (lt_of_cell t4)).trans t4,(hbc.cell (lt_of_cell t5)).trans t5⟩
 have E3:=Lib.hid ((hbc.block _ (lt_of_heap E2.out)).trans E2.out)
 have hHc:=met_haps hNc (ROp.to (ROp.to hra.out (Kp.below hbb)) fun k hk hl=>⟨trivial,hbc.block k hl⟩) (ROp.to hrb.out fun k hk hl=>⟨trivial,hbc.block k hl⟩)
 have hBc:Below w2.heap.size w2 wc:=hbd.trans ((hba.mono hbd.size).trans ((hbb.mono (Nat.le_trans hbd.size hba.size)).trans (hbc.mono (Nat.le_trans hbd.size (Nat.le_trans hba.size hbb.size)))))
 have CR:=wdRun_any _ _ (.agg #[.slice aa W1.s.first.length ac,.slice la W1.s.log.length lc,.slice na W1.s.now.length nc,.slice ca W1.cl.length cc,.slice ua W1.up.length uc,.slice da W1.down.length dc]) _ W1 metL wc (RWd.to hr2.out fun k hk hl=>⟨hk,hBc.block k hl⟩) hHc (max_keep hm.out (hB2.trans (hBc.mono hB2.size)))
 rw [hrun.out] at CR
 replace CR:=Lib.hid CR
 rw [hwc]
 clear hHc hNc hwc
 refine hK'.out _ _ trivial (fun _=>Q3) ?_
 clear hK' K'
 refine wpAnyG_step 13 rfl (by kernel_rfl) (fun K' hK'=>?_)
 rw [if_pos (by rfl)]
 go_simp
 refine CR.out.mono ?_
 rintro e we ⟨vr,su,rfl,hvr,hsu,hbe⟩
 have Q4:we.cell? ⟨w2.heap.size,0,none⟩=some (.slice aa W1.s.first.length ac)∧we.cell? ⟨w2.heap.size,1,none⟩=some (.slice la W1.s.log.length lc)∧we.cell? ⟨w2.heap.size,2,none⟩=some (.slice na W1.s.now.length nc)∧we.cell? ⟨w2.heap.size,3,none⟩=some (.slice ca W1.cl.length cc)∧we.cell? ⟨w2.heap.size,4,none⟩=some (.slice ua W1.up.length uc)∧we.cell? ⟨w2.heap.size,5,none⟩=some (.slice da W1.down.length dc):=by
   obtain ⟨t0,t1,t2,t3,t4,t5⟩:=Q3
   exact ⟨(hbe.cell (lt_of_cell t0)).trans t0,(hbe.cell (lt_of_cell t1)).trans t1,(hbe.cell (lt_of_cell t2)).trans t2,(hbe.cell (lt_of_cell t3)).trans t3,(hbe.cell (lt_of_cell t4)).trans t4,(hbe.cell (lt_of_cell t5)).trans t5⟩
 have E4:=Lib.hid ((hbe.block _ (lt_of_heap E3.out)).trans E3.out)
 obtain ⟨a1,a2,l1,l2,n1,n2,c1,c2,u1,u2,d1,d2,rfl⟩:=RWd.shape hvr
 obtain ⟨sa,sc,rfl,_⟩:=RdS.len hsu
 have hBe:=hBc.trans (hbe.mono hBc.size)
 replace hvr:=Lib.hid hvr
 replace hsu:=Lib.hid hsu
 clear CR
 refine hK'.out _ _ trivial (fun _=>Q4) ?_
 clear hK' K'
 refine tG 21 14 10 (v:=?_) trivial Q4 ?_ ?_
 rotate_left
 ·(intro w' hw';(try dsimp only at hw');go_simp;try with_reducible rfl)
 simp only [List.set_cons_zero,List.set_cons_succ]
 refine tG 21 15 25 (v:=?_) trivial Q4 ?_ ?_
 rotate_left
 ·(intro w' hw';(try dsimp only at hw');go_simp;try with_reducible rfl)
 simp only [List.set_cons_zero,List.set_cons_succ]
 refine wpAnyG_takeS 16 26 (v:=?_) rfl rfl (by kernel_rfl) (by kernel_rfl) (by kernel_rfl) (by decide) (fun _ _ _ h=>h) (Or.inl ⟨by rfl, ?_⟩) trivial (fun _=>Q4) ?_
 rotate_left
 ·(intro w' hw';(try dsimp only at hw');go_simp;try with_reducible rfl)
 simp only [List.set_cons_zero,List.set_cons_succ]
 refine wpAnyG_takeS 17 27 (v:=?_) rfl rfl (by kernel_rfl) (by kernel_rfl) (by kernel_rfl) (by decide) (fun _ _ _ h=>h) (Or.inl ⟨by rfl, ?_⟩) trivial (fun _=>Q4) ?_
 rotate_left
 ·(intro w' hw';(try dsimp only at hw');go_simp;try with_reducible rfl)
 simp only [List.set_cons_zero,List.set_cons_succ]
 refine wpAnyG_step 18 rfl (by kernel_rfl) (fun K' hK'=>?_)
 rw [if_pos (by rfl)]
 obtain ⟨t0,t1,t2,t3,t4,t5⟩:=Q4
 refine wp_store_mid 30 (.tmp 1) (.tmp 25) rfl w2.heap.size 0 #[.slice a1 V.s.first.length a2,.slice l1 V.s.log.length l2,.slice n1 V.s.now.length n2,.slice c1 V.cl.length c2,.slice u1 V.up.length u2,.slice d1 V.down.length d2] rfl rfl (fun j hj=>⟨by
  match j,hj with
  | 0,_=>rw [t0];rfl
  | 1,_=>rw [t1];rfl
  | 2,_=>rw [t2];rfl
  | 3,_=>rw [t3];rfl
  | 4,_=>rw [t4];rfl
  | 5,_=>rw [t5];rfl,Lib.frozen_of_heap E4.out _⟩) (by kernel_rfl) (by simp [Value.oneCell']) ?_
 show K' _ _
 refine hK'.out _ _ trivial (fun h=>absurd h (by decide)) ?_
 clear hK' K'
 refine wpAnyG_takeS 19 3 (v:=?_) rfl rfl (by kernel_rfl) (by kernel_rfl) (by kernel_rfl) (by decide) (fun _ _ _ h=>h) (Or.inl ⟨by rfl, ?_⟩) trivial (fun h=>absurd h (by decide)) ?_
 rotate_left
 ·(intro w' hw';(try dsimp only at hw');go_simp;try with_reducible rfl)
 simp only [List.set_cons_zero,List.set_cons_succ]
 refine wpAnyG_takeS 20 4 (v:=?_) rfl rfl (by kernel_rfl) (by kernel_rfl) (by kernel_rfl) (by decide) (fun _ _ _ h=>h) (Or.inl ⟨by rfl, ?_⟩) trivial (fun h=>absurd h (by decide)) ?_
 rotate_left
 ·(intro w' hw';(try dsimp only at hw');go_simp;try with_reducible rfl)
 simp only [List.set_cons_zero,List.set_cons_succ]
 refine wpAnyG_done (by kernel_rfl) ?_ _
 obtain ⟨wf,hwf⟩:∃ wf,we.setCells w2.heap.size 0 [.slice a1 V.s.first.length a2,.slice l1 V.s.log.length l2,.slice n1 V.s.now.length n2,.slice c1 V.cl.length c2,.slice u1 V.up.length u2,.slice d1 V.down.length d2]=wf:=⟨_,rfl⟩
 have Ef:wf.heap[w2.heap.size]?=some (.cells #[.slice a1 V.s.first.length a2,.slice l1 V.s.log.length l2,.slice n1 V.s.now.length n2,.slice c1 V.cl.length c2,.slice u1 V.up.length u2,.slice d1 V.down.length d2] TW (0,0)):=by rw [← hwf];exact (set6 E4.out rfl _ _ _ _ _ _).1
 have Kf:∀ k,k≠w2.heap.size→wf.heap[k]?=we.heap[k]?:=fun k hk=>by rw [← hwf];exact heap_setCells_other _ _ _ _ _ hk
 have Bf:Below w2.heap.size w2 wf:=by rw [← hwf];exact below_setCells (Nat.le_refl _) _ _ _ hBe
 have NX:∀ z,z=w2.heap.size→NoX we z:=fun z e=>by rw [e];exact NoX.six E4.out
 have ne6:∀ b o k m,we.cell? ⟨b,o,none⟩=some (.int k m)→b≠w2.heap.size:=fun b o k m h e=>by
  subst e
  obtain ⟨t0,t1,t2,t3,t4,t5⟩:=P6.of E4.out
  match o,h with
  | 0,h=>rw [t0] at h;cases h
  | 1,h=>rw [t1] at h;cases h
  | 2,h=>rw [t2] at h;cases h
  | 3,h=>rw [t3] at h;cases h
  | 4,h=>rw [t4] at h;cases h
  | 5,h=>rw [t5] at h;cases h
  | n+6,h =>
   unfold World.cell? at h
   rw [E4.out] at h
   simp at h
 have kf:∀ b o v,b≠w2.heap.size→we.cell? ⟨b,o,none⟩=some v→wf.cell? ⟨b,o,none⟩=some v:=fun b o v hb h=>(World.cell?_of_block (Kf b hb)).trans h
 obtain ⟨x0,x1,hcl,h0,h1⟩:∃ x0 x1,V.cl=[x0,x1]∧x0.now=V.s.now∧x1.now=V.s.now:=by
  have hf2:=f2.out
  match hv:V.cl,hf2 with
  | [],hf2=>simp at hf2
  | [_],hf2=>simp at hf2
  | [y0,y1],hf2=>exact ⟨y0,y1,rfl,by simp at hf2;exact hf2⟩
  | _ :: _ :: _ :: _,hf2=>simp at hf2
 obtain ⟨_,_,_,_,_,_,ev,hsv,hcv,_,_⟩:=hvr.out
 simp only [Value.agg.injEq,Array.mk.injEq,List.cons.injEq,and_true] at ev
 obtain ⟨rfl,rfl,rfl,rfl,rfl,rfl⟩:=ev
 obtain ⟨_,_,_,es,_,_,hnow⟩:=hsv
 simp only [Value.agg.injEq,Array.mk.injEq,List.cons.injEq,and_true] at es
 obtain ⟨rfl,rfl,rfl⟩:=es
 obtain ⟨cb,co,p0,p1,p2,p3,p4,p5,p6,e1,hcl0,y0,_,y2,_,_,_,_⟩:=RClcs.at hcv (Below.refl _ _) (k:=0) (x:=x0) (by rw [hcl];rfl)
 obtain ⟨cb',co',p0',p1',p2',p3',p4',p5',p6',e1',hcl1,_,_,y2',_,_,_,_⟩:=RClcs.at hcv (Below.refl _ _) (k:=1) (x:=x1) (by rw [hcl];rfl)
 subst e1
 cases e1'
 obtain ⟨_,_,m1,m2,_,_,_,_,rfl,rfl,rfl,rfl,rfl,rfl,rfl⟩:=RCl.shape hcl0
 obtain ⟨_,_,m1',m2',_,_,_,_,rfl,rfl,rfl,rfl,rfl,rfl,rfl⟩:=RCl.shape hcl1
 obtain ⟨_,_,_,_,ec,_,hn0,_,_⟩:=hcl0
 simp only [Value.agg.injEq,Array.mk.injEq,List.cons.injEq,and_true] at ec
 obtain ⟨_,rfl,rfl,_,rfl,rfl,_⟩:=ec
 obtain ⟨_,_,_,_,ec,_,hn1,_,_⟩:=hcl1
 simp only [Value.agg.injEq,Array.mk.injEq,List.cons.injEq,and_true] at ec
 obtain ⟨_,rfl,rfl,_,rfl,rfl,_⟩:=ec
 have hcb:=ne6 _ _ _ _ y0
 have N0:=RItems.to (RItems.nx hn0 NX) (F':=fun _=>True) (w':=wf) fun k hk _=>⟨trivial,Kf k hk.2⟩
 have N1:=RItems.to (RItems.nx hn1 NX) (F':=fun _=>True) (w':=wf) fun k hk _=>⟨trivial,Kf k hk.2⟩
 have N2:=RItems.to (RItems.nx hnow NX) (F':=fun _=>True) (w':=wf) fun k hk _=>⟨trivial,Kf k hk.2⟩
 obtain ⟨i1,hi1,hc121⟩:=get_map' f4.out
 obtain ⟨nb,no,en,z0,_,_⟩:=RItems.at N2 (Below.refl _ _) hi1
 subst en
 rw [hc121] at z0
 have ef1:=f1.out
 subst ef1
 obtain ⟨sb,so,es,s7⟩:=RInts.at hsu.out (Below.refl _ _) (k:=7) (x:=0) rfl
 obtain ⟨_,_,es',s8⟩:=RInts.at hsu.out (Below.refl _ _) (k:=8) (x:=7) rfl
 subst es
 cases es'
 have hsb:=ne6 _ _ _ _ s7
 have hl2:V.cl.length=2:=by rw [hcl];rfl
 have hl7:V.s.now.length=7:=f3.out
 have S1:=fun (w':World) (hb:Below wf.heap.size wf w')=>same_any _ _ _ _ x0.now x1.now w' (RItems.to N0 (Kp.below hb)) (RItems.to N1 (Kp.below hb))
 have S2:=fun (w':World) (hb:Below wf.heap.size wf w')=>same_any _ _ _ _ x0.now V.s.now w' (RItems.to N0 (Kp.below hb)) (RItems.to N2 (Kp.below hb))
 rw [decide_eq_true (h0.trans h1.symm)] at S1
 rw [decide_eq_true h0] at S2
 obtain ⟨_,_,t2,t3,_,_⟩:=P6.of Ef
 have u0:=kf _ _ _ hcb y2
 have u1:=kf _ _ _ hcb y2'
 have u7:=kf _ _ _ hsb s7
 have u8:=kf _ _ _ hsb s8
 rw [h0] at u0
 rw [h1] at u1
 rw [h0,h1] at S1
 rw [h0] at S2
 simp only [hl7] at S1 S2
 replace S1:=Lib.hid S1
 replace S2:=Lib.hid S2
 simp only [hl2,hl7,Nat.zero_mul,Nat.one_mul,Nat.add_zero] at t2 t3 u0 u1 u7 u8 z0
 obtain ⟨wh,hwh⟩:∃ wh,wf.drew=wh:=⟨_,rfl⟩
 have hbh:Below wf.heap.size wf wh:=by rw [← hwh];exact Go.below_drewN (Below.refl _ _) 1
 have P0:wh.cell? ⟨w2.heap.size,2,none⟩=some (.slice (some ⟨nb,no,none⟩) 7 n2)∧wh.cell? ⟨w2.heap.size,3,none⟩=some (.slice (some ⟨cb,co,none⟩) 2 c2)∧wh.cell? ⟨cb,co+2,none⟩=some (.slice m1 7 m2)∧wh.cell? ⟨cb,co+7+2,none⟩=some (.slice m1' 7 m2')∧wh.cell? ⟨sb,so+7,none⟩=some (.int .i64 0)∧wh.cell? ⟨sb,so+8,none⟩=some (.int .i64 7)∧wh.cell? ⟨nb,no+3,none⟩=some (.int .u8 121):=⟨(hbh.cell (lt_of_cell t2)).trans t2,(hbh.cell (lt_of_cell t3)).trans t3,(hbh.cell (lt_of_cell u0)).trans u0,(hbh.cell (lt_of_cell u1)).trans u1,(hbh.cell (lt_of_cell u7)).trans u7,(hbh.cell (lt_of_cell u8)).trans u8,(hbh.cell (lt_of_cell z0)).trans z0⟩
 replace hbh:=Lib.hid hbh
 replace h0:=Lib.hid h0
 replace h1:=Lib.hid h1
 clear t2 t3 u0 u1 u7 u8 z0 y0 y2 y2' s7 s8 hn0 hn1 hnow hcv hc121 hi1 f1 f2 f3 f4 kf ne6 NX hcl
 go_upto_region 3 with fail
 rw [hwf]
 clear hwf
 refine wp_region_held (S:=fun w'=>w'.cell? ⟨w2.heap.size,2,none⟩=some (.slice (some ⟨nb,no,none⟩) 7 n2)∧w'.cell? ⟨w2.heap.size,3,none⟩=some (.slice (some ⟨cb,co,none⟩) 2 c2)∧w'.cell? ⟨cb,co+2,none⟩=some (.slice m1 7 m2)∧w'.cell? ⟨cb,co+7+2,none⟩=some (.slice m1' 7 m2')∧w'.cell? ⟨sb,so+7,none⟩=some (.int .i64 0)∧w'.cell? ⟨sb,so+8,none⟩=some (.int .i64 7)∧w'.cell? ⟨nb,no+3,none⟩=some (.int .u8 121)) (by kernel_rfl) ?_
 show wpAnyH _ _ _ _ _ _ _ _ (World.drew _)
 rw [hwh]
 clear hwh
 refine tD 0 28 (v:=?_) P0 ?_ ?_
 rotate_left
 ·(intro w' hw';obtain ⟨r0,r1,r2,r3,r4,r5,r6⟩:=hw';go_simp;try with_reducible rfl)
 simp only [List.set_cons_zero,List.set_cons_succ]
 refine tD 1 29 (v:=?_) P0 ?_ ?_
 rotate_left
 ·(intro w' hw';obtain ⟨r0,r1,r2,r3,r4,r5,r6⟩:=hw';go_simp;try with_reducible rfl)
 simp only [List.set_cons_zero,List.set_cons_succ]
 refine tD 2 30 (v:=?_) P0 ?_ ?_
 rotate_left
 ·(intro w' hw';obtain ⟨r0,r1,r2,r3,r4,r5,r6⟩:=hw';go_simp;try with_reducible rfl)
 simp only [List.set_cons_zero,List.set_cons_succ]
 refine tD 3 31 (v:=?_) P0 ?_ ?_
 rotate_left
 ·(intro w' hw';obtain ⟨r0,r1,r2,r3,r4,r5,r6⟩:=hw';go_simp;try with_reducible rfl)
 simp only [List.set_cons_zero,List.set_cons_succ]
 refine tD 4 32 (v:=?_) P0 ?_ ?_
 rotate_left
 ·(intro w' hw';obtain ⟨r0,r1,r2,r3,r4,r5,r6⟩:=hw';go_simp;try with_reducible rfl)
 simp only [List.set_cons_zero,List.set_cons_succ]
 refine tD 5 33 (v:=?_) P0 ?_ ?_
 rotate_left
 ·(intro w' hw';obtain ⟨r0,r1,r2,r3,r4,r5,r6⟩:=hw';go_simp;try with_reducible rfl)
 simp only [List.set_cons_zero,List.set_cons_succ]
 refine tD 6 34 (v:=?_) P0 ?_ ?_
 rotate_left
 ·(intro w' hw';obtain ⟨r0,r1,r2,r3,r4,r5,r6⟩:=hw';go_simp;try with_reducible rfl)
 simp only [List.set_cons_zero,List.set_cons_succ]
 refine tD 7 35 (v:=?_) P0 ?_ ?_
 rotate_left
 ·(intro w' hw';obtain ⟨r0,r1,r2,r3,r4,r5,r6⟩:=hw';go_simp;try with_reducible rfl)
 simp only [List.set_cons_zero,List.set_cons_succ]
 refine tD 8 36 (v:=?_) P0 ?_ ?_
 rotate_left
 ·(intro w' hw';obtain ⟨r0,r1,r2,r3,r4,r5,r6⟩:=hw';go_simp;try with_reducible rfl)
 simp only [List.set_cons_zero,List.set_cons_succ]
 refine tD 9 37 (v:=?_) P0 ?_ ?_
 rotate_left
 ·(intro w' hw';obtain ⟨r0,r1,r2,r3,r4,r5,r6⟩:=hw';go_simp;try with_reducible rfl)
 simp only [List.set_cons_zero,List.set_cons_succ]
 refine tD 10 38 (v:=?_) P0 ?_ ?_
 rotate_left
 ·(intro w' hw';obtain ⟨r0,r1,r2,r3,r4,r5,r6⟩:=hw';go_simp;try with_reducible rfl)
 simp only [List.set_cons_zero,List.set_cons_succ]
 refine tD 11 39 (v:=?_) P0 ?_ ?_
 rotate_left
 ·(intro w' hw';obtain ⟨r0,r1,r2,r3,r4,r5,r6⟩:=hw';go_simp;try with_reducible rfl)
 simp only [List.set_cons_zero,List.set_cons_succ]
 refine tD 12 40 (v:=?_) P0 ?_ ?_
 rotate_left
 ·(intro w' hw';obtain ⟨r0,r1,r2,r3,r4,r5,r6⟩:=hw';go_simp;try with_reducible rfl)
 simp only [List.set_cons_zero,List.set_cons_succ]
 refine tD 13 41 (v:=?_) P0 ?_ ?_
 rotate_left
 ·(intro w' hw';obtain ⟨r0,r1,r2,r3,r4,r5,r6⟩:=hw';go_simp;try with_reducible rfl)
 simp only [List.set_cons_zero,List.set_cons_succ]
 refine tD 14 42 (v:=?_) P0 ?_ ?_
 rotate_left
 ·(intro w' hw';obtain ⟨r0,r1,r2,r3,r4,r5,r6⟩:=hw';go_simp;try with_reducible rfl)
 simp only [List.set_cons_zero,List.set_cons_succ]
 refine tD 15 43 (v:=?_) P0 ?_ ?_
 rotate_left
 ·(intro w' hw';obtain ⟨r0,r1,r2,r3,r4,r5,r6⟩:=hw';go_simp;try with_reducible rfl)
 simp only [List.set_cons_zero,List.set_cons_succ]
 refine tD 16 44 (v:=?_) P0 ?_ ?_
 rotate_left
 ·(intro w' hw';obtain ⟨r0,r1,r2,r3,r4,r5,r6⟩:=hw';go_simp;try with_reducible rfl)
 simp only [List.set_cons_zero,List.set_cons_succ]
 refine tD 17 45 (v:=?_) P0 ?_ ?_
 rotate_left
 ·(intro w' hw';obtain ⟨r0,r1,r2,r3,r4,r5,r6⟩:=hw';go_simp;try with_reducible rfl)
 simp only [List.set_cons_zero,List.set_cons_succ]
 refine tD 18 46 (v:=?_) P0 ?_ ?_
 rotate_left
 ·(intro w' hw';obtain ⟨r0,r1,r2,r3,r4,r5,r6⟩:=hw';go_simp;try with_reducible rfl)
 simp only [List.set_cons_zero,List.set_cons_succ]
 refine tD 19 47 (v:=?_) P0 ?_ ?_
 rotate_left
 ·(intro w' hw';obtain ⟨r0,r1,r2,r3,r4,r5,r6⟩:=hw';go_simp;try with_reducible rfl)
 simp only [List.set_cons_zero,List.set_cons_succ]
 refine tD 20 48 (v:=?_) P0 ?_ ?_
 rotate_left
 ·(intro w' hw';obtain ⟨r0,r1,r2,r3,r4,r5,r6⟩:=hw';go_simp;try with_reducible rfl)
 simp only [List.set_cons_zero,List.set_cons_succ]
 refine tD 21 49 (v:=?_) P0 ?_ ?_
 rotate_left
 ·(intro w' hw';obtain ⟨r0,r1,r2,r3,r4,r5,r6⟩:=hw';go_simp;try with_reducible rfl)
 simp only [List.set_cons_zero,List.set_cons_succ]
 refine tD 22 50 (v:=?_) P0 ?_ ?_
 rotate_left
 ·(intro w' hw';obtain ⟨r0,r1,r2,r3,r4,r5,r6⟩:=hw';go_simp;try with_reducible rfl)
 simp only [List.set_cons_zero,List.set_cons_succ]
 refine tD 23 51 (v:=?_) P0 ?_ ?_
 rotate_left
 ·(intro w' hw';obtain ⟨r0,r1,r2,r3,r4,r5,r6⟩:=hw';go_simp;try with_reducible rfl)
 simp only [List.set_cons_zero,List.set_cons_succ]
 refine tD 24 52 (v:=?_) P0 ?_ ?_
 rotate_left
 ·(intro w' hw';obtain ⟨r0,r1,r2,r3,r4,r5,r6⟩:=hw';go_simp;try with_reducible rfl)
 simp only [List.set_cons_zero,List.set_cons_succ]
 refine tD 25 53 (v:=?_) P0 ?_ ?_
 rotate_left
 ·(intro w' hw';obtain ⟨r0,r1,r2,r3,r4,r5,r6⟩:=hw';go_simp;try with_reducible rfl)
 simp only [List.set_cons_zero,List.set_cons_succ]
 refine tD 26 54 (v:=?_) P0 ?_ ?_
 rotate_left
 ·(intro w' hw';obtain ⟨r0,r1,r2,r3,r4,r5,r6⟩:=hw';go_simp;try with_reducible rfl)
 simp only [List.set_cons_zero,List.set_cons_succ]
 refine tD 27 55 (v:=?_) P0 ?_ ?_
 rotate_left
 ·(intro w' hw';obtain ⟨r0,r1,r2,r3,r4,r5,r6⟩:=hw';go_simp;try with_reducible rfl)
 simp only [List.set_cons_zero,List.set_cons_succ]
 refine tD 28 56 (v:=?_) P0 ?_ ?_
 rotate_left
 ·(intro w' hw';obtain ⟨r0,r1,r2,r3,r4,r5,r6⟩:=hw';go_simp;try with_reducible rfl)
 simp only [List.set_cons_zero,List.set_cons_succ]
 refine tD 29 57 (v:=?_) P0 ?_ ?_
 rotate_left
 ·(intro w' hw';obtain ⟨r0,r1,r2,r3,r4,r5,r6⟩:=hw';go_simp;try with_reducible rfl)
 simp only [List.set_cons_zero,List.set_cons_succ]
 refine tD 30 58 (v:=?_) P0 ?_ ?_
 rotate_left
 ·(intro w' hw';obtain ⟨r0,r1,r2,r3,r4,r5,r6⟩:=hw';go_simp;try with_reducible rfl)
 simp only [List.set_cons_zero,List.set_cons_succ]
 refine tD 31 59 (v:=?_) P0 ?_ ?_
 rotate_left
 ·(intro w' hw';obtain ⟨r0,r1,r2,r3,r4,r5,r6⟩:=hw';go_simp;try with_reducible rfl)
 simp only [List.set_cons_zero,List.set_cons_succ]
 refine tD 32 60 (v:=?_) P0 ?_ ?_
 rotate_left
 ·(intro w' hw';obtain ⟨r0,r1,r2,r3,r4,r5,r6⟩:=hw';go_simp;try with_reducible rfl)
 simp only [List.set_cons_zero,List.set_cons_succ]
 refine tD 33 61 (v:=?_) P0 ?_ ?_
 rotate_left
 ·(intro w' hw';obtain ⟨r0,r1,r2,r3,r4,r5,r6⟩:=hw';go_simp;try with_reducible rfl)
 simp only [List.set_cons_zero,List.set_cons_succ]
 refine tD 34 62 (v:=?_) P0 ?_ ?_
 rotate_left
 ·(intro w' hw';obtain ⟨r0,r1,r2,r3,r4,r5,r6⟩:=hw';go_simp;try with_reducible rfl)
 simp only [List.set_cons_zero,List.set_cons_succ]
 refine tD 35 63 (v:=?_) P0 ?_ ?_
 rotate_left
 ·(intro w' hw';obtain ⟨r0,r1,r2,r3,r4,r5,r6⟩:=hw';go_simp;try with_reducible rfl)
 simp only [List.set_cons_zero,List.set_cons_succ]
 refine tD 36 64 (v:=?_) P0 ?_ ?_
 rotate_left
 ·(intro w' hw';obtain ⟨r0,r1,r2,r3,r4,r5,r6⟩:=hw';go_simp;try with_reducible rfl)
 simp only [List.set_cons_zero,List.set_cons_succ]
 refine tD 37 65 (v:=?_) P0 ?_ ?_
 rotate_left
 ·(intro w' hw';obtain ⟨r0,r1,r2,r3,r4,r5,r6⟩:=hw';go_simp;try with_reducible rfl)
 simp only [List.set_cons_zero,List.set_cons_succ]
 refine tD 38 66 (v:=?_) P0 ?_ ?_
 rotate_left
 ·(intro w' hw';obtain ⟨r0,r1,r2,r3,r4,r5,r6⟩:=hw';go_simp;try with_reducible rfl)
 simp only [List.set_cons_zero,List.set_cons_succ]
 refine tD 39 67 (v:=?_) P0 ?_ ?_
 rotate_left
 ·(intro w' hw';obtain ⟨r0,r1,r2,r3,r4,r5,r6⟩:=hw';go_simp;try with_reducible rfl)
 simp only [List.set_cons_zero,List.set_cons_succ]
 refine wpAnyH_step 40 rfl (by kernel_rfl) (fun K' hK'=>?_)
 rw [if_pos (by rfl)]
 go_simp
 refine (S1.out _ hbh.out).mono ?_
 rintro e wi ⟨rfl,hbi⟩
 have P1:wi.cell? ⟨w2.heap.size,2,none⟩=some (.slice (some ⟨nb,no,none⟩) 7 n2)∧wi.cell? ⟨w2.heap.size,3,none⟩=some (.slice (some ⟨cb,co,none⟩) 2 c2)∧wi.cell? ⟨cb,co+2,none⟩=some (.slice m1 7 m2)∧wi.cell? ⟨cb,co+7+2,none⟩=some (.slice m1' 7 m2')∧wi.cell? ⟨sb,so+7,none⟩=some (.int .i64 0)∧wi.cell? ⟨sb,so+8,none⟩=some (.int .i64 7)∧wi.cell? ⟨nb,no+3,none⟩=some (.int .u8 121):=by
  obtain ⟨r0,r1,r2,r3,r4,r5,r6⟩:=P0
  exact ⟨(hbi.cell (lt_of_cell r0)).trans r0,(hbi.cell (lt_of_cell r1)).trans r1,(hbi.cell (lt_of_cell r2)).trans r2,(hbi.cell (lt_of_cell r3)).trans r3,(hbi.cell (lt_of_cell r4)).trans r4,(hbi.cell (lt_of_cell r5)).trans r5,(hbi.cell (lt_of_cell r6)).trans r6⟩
 refine hK'.out _ _ P1 ?_
 clear hK' K'
 refine tD 41 69 (v:=?_) P1 ?_ ?_
 rotate_left
 ·(intro w' hw';obtain ⟨r0,r1,r2,r3,r4,r5,r6⟩:=hw';go_simp;try with_reducible rfl)
 simp only [List.set_cons_zero,List.set_cons_succ]
 refine tD 42 70 (v:=?_) P1 ?_ ?_
 rotate_left
 ·(intro w' hw';obtain ⟨r0,r1,r2,r3,r4,r5,r6⟩:=hw';go_simp;try with_reducible rfl)
 simp only [List.set_cons_zero,List.set_cons_succ]
 refine tD 43 71 (v:=?_) P1 ?_ ?_
 rotate_left
 ·(intro w' hw';obtain ⟨r0,r1,r2,r3,r4,r5,r6⟩:=hw';go_simp;try with_reducible rfl)
 simp only [List.set_cons_zero,List.set_cons_succ]
 refine tD 44 72 (v:=?_) P1 ?_ ?_
 rotate_left
 ·(intro w' hw';obtain ⟨r0,r1,r2,r3,r4,r5,r6⟩:=hw';go_simp;try with_reducible rfl)
 simp only [List.set_cons_zero,List.set_cons_succ]
 refine tD 45 73 (v:=?_) P1 ?_ ?_
 rotate_left
 ·(intro w' hw';obtain ⟨r0,r1,r2,r3,r4,r5,r6⟩:=hw';go_simp;try with_reducible rfl)
 simp only [List.set_cons_zero,List.set_cons_succ]
 refine tD 46 74 (v:=?_) P1 ?_ ?_
 rotate_left
 ·(intro w' hw';obtain ⟨r0,r1,r2,r3,r4,r5,r6⟩:=hw';go_simp;try with_reducible rfl)
 simp only [List.set_cons_zero,List.set_cons_succ]
 refine tD 47 75 (v:=?_) P1 ?_ ?_
 rotate_left
 ·(intro w' hw';obtain ⟨r0,r1,r2,r3,r4,r5,r6⟩:=hw';go_simp;try with_reducible rfl)
 simp only [List.set_cons_zero,List.set_cons_succ]
 refine tD 48 76 (v:=?_) P1 ?_ ?_
 rotate_left
 ·(intro w' hw';obtain ⟨r0,r1,r2,r3,r4,r5,r6⟩:=hw';go_simp;try with_reducible rfl)
 simp only [List.set_cons_zero,List.set_cons_succ]
 refine tD 49 77 (v:=?_) P1 ?_ ?_
 rotate_left
 ·(intro w' hw';obtain ⟨r0,r1,r2,r3,r4,r5,r6⟩:=hw';go_simp;try with_reducible rfl)
 simp only [List.set_cons_zero,List.set_cons_succ]
 refine tD 50 78 (v:=?_) P1 ?_ ?_
 rotate_left
 ·(intro w' hw';obtain ⟨r0,r1,r2,r3,r4,r5,r6⟩:=hw';go_simp;try with_reducible rfl)
 simp only [List.set_cons_zero,List.set_cons_succ]
 refine wpAnyH_step 51 rfl (by kernel_rfl) (fun K' hK'=>?_)
 rw [if_pos (by rfl)]
 go_simp
 refine (S2.out _ (hbh.out.trans (hbi.mono hbh.out.size))).mono ?_
 rintro e wj ⟨rfl,hbj⟩
 have P2:wj.cell? ⟨w2.heap.size,2,none⟩=some (.slice (some ⟨nb,no,none⟩) 7 n2)∧wj.cell? ⟨w2.heap.size,3,none⟩=some (.slice (some ⟨cb,co,none⟩) 2 c2)∧wj.cell? ⟨cb,co+2,none⟩=some (.slice m1 7 m2)∧wj.cell? ⟨cb,co+7+2,none⟩=some (.slice m1' 7 m2')∧wj.cell? ⟨sb,so+7,none⟩=some (.int .i64 0)∧wj.cell? ⟨sb,so+8,none⟩=some (.int .i64 7)∧wj.cell? ⟨nb,no+3,none⟩=some (.int .u8 121):=by
  obtain ⟨r0,r1,r2,r3,r4,r5,r6⟩:=P1
  exact ⟨(hbj.cell (lt_of_cell r0)).trans r0,(hbj.cell (lt_of_cell r1)).trans r1,(hbj.cell (lt_of_cell r2)).trans r2,(hbj.cell (lt_of_cell r3)).trans r3,(hbj.cell (lt_of_cell r4)).trans r4,(hbj.cell (lt_of_cell r5)).trans r5,(hbj.cell (lt_of_cell r6)).trans r6⟩
 refine hK'.out _ _ P2 ?_
 clear hK' K'
 refine tD 52 80 (v:=?_) P2 ?_ ?_
 rotate_left
 ·(intro w' hw';obtain ⟨r0,r1,r2,r3,r4,r5,r6⟩:=hw';go_simp;try with_reducible rfl)
 simp only [List.set_cons_zero,List.set_cons_succ]
 refine tD 53 81 (v:=?_) P2 ?_ ?_
 rotate_left
 ·(intro w' hw';obtain ⟨r0,r1,r2,r3,r4,r5,r6⟩:=hw';go_simp;try with_reducible rfl)
 simp only [List.set_cons_zero,List.set_cons_succ]
 refine tD 54 82 (v:=?_) P2 ?_ ?_
 rotate_left
 ·(intro w' hw';obtain ⟨r0,r1,r2,r3,r4,r5,r6⟩:=hw';go_simp;try with_reducible rfl)
 simp only [List.set_cons_zero,List.set_cons_succ]
 refine tD 55 83 (v:=?_) P2 ?_ ?_
 rotate_left
 ·(intro w' hw';obtain ⟨r0,r1,r2,r3,r4,r5,r6⟩:=hw';go_simp;try with_reducible rfl)
 simp only [List.set_cons_zero,List.set_cons_succ]
 refine tD 56 84 (v:=?_) P2 ?_ ?_
 rotate_left
 ·(intro w' hw';obtain ⟨r0,r1,r2,r3,r4,r5,r6⟩:=hw';go_simp;try with_reducible rfl)
 simp only [List.set_cons_zero,List.set_cons_succ]
 refine tD 57 85 (v:=?_) P2 ?_ ?_
 rotate_left
 ·(intro w' hw';obtain ⟨r0,r1,r2,r3,r4,r5,r6⟩:=hw';go_simp;try with_reducible rfl)
 simp only [List.set_cons_zero,List.set_cons_succ]
 refine tD 58 86 (v:=?_) P2 ?_ ?_
 rotate_left
 ·(intro w' hw';obtain ⟨r0,r1,r2,r3,r4,r5,r6⟩:=hw';go_simp;try with_reducible rfl)
 simp only [List.set_cons_zero,List.set_cons_succ]
 refine tD 59 87 (v:=?_) P2 ?_ ?_
 rotate_left
 ·(intro w' hw';obtain ⟨r0,r1,r2,r3,r4,r5,r6⟩:=hw';go_simp;try with_reducible rfl)
 simp only [List.set_cons_zero,List.set_cons_succ]
 refine tD 60 88 (v:=?_) P2 ?_ ?_
 rotate_left
 ·(intro w' hw';obtain ⟨r0,r1,r2,r3,r4,r5,r6⟩:=hw';go_simp;try with_reducible rfl)
 simp only [List.set_cons_zero,List.set_cons_succ]
 refine tD 61 89 (v:=?_) P2 ?_ ?_
 rotate_left
 ·(intro w' hw';obtain ⟨r0,r1,r2,r3,r4,r5,r6⟩:=hw';go_simp;try with_reducible rfl)
 simp only [List.set_cons_zero,List.set_cons_succ]
 refine tD 62 90 (v:=?_) P2 ?_ ?_
 rotate_left
 ·(intro w' hw';obtain ⟨r0,r1,r2,r3,r4,r5,r6⟩:=hw';go_simp;try with_reducible rfl)
 simp only [List.set_cons_zero,List.set_cons_succ]
 refine tD 63 91 (v:=?_) P2 ?_ ?_
 rotate_left
 ·(intro w' hw';obtain ⟨r0,r1,r2,r3,r4,r5,r6⟩:=hw';go_simp;try with_reducible rfl)
 simp only [List.set_cons_zero,List.set_cons_succ]
 refine tD 64 92 (v:=?_) P2 ?_ ?_
 rotate_left
 ·(intro w' hw';obtain ⟨r0,r1,r2,r3,r4,r5,r6⟩:=hw';go_simp;try with_reducible rfl)
 simp only [List.set_cons_zero,List.set_cons_succ]
 refine tD 65 93 (v:=?_) P2 ?_ ?_
 rotate_left
 ·(intro w' hw';obtain ⟨r0,r1,r2,r3,r4,r5,r6⟩:=hw';go_simp;try with_reducible rfl)
 simp only [List.set_cons_zero,List.set_cons_succ]
 refine tD 66 94 (v:=?_) P2 ?_ ?_
 rotate_left
 ·(intro w' hw';obtain ⟨r0,r1,r2,r3,r4,r5,r6⟩:=hw';go_simp;try with_reducible rfl)
 simp only [List.set_cons_zero,List.set_cons_succ]
 refine tD 67 95 (v:=?_) P2 ?_ ?_
 rotate_left
 ·(intro w' hw';obtain ⟨r0,r1,r2,r3,r4,r5,r6⟩:=hw';go_simp;try with_reducible rfl)
 simp only [List.set_cons_zero,List.set_cons_succ]
 refine tD 68 96 (v:=?_) P2 ?_ ?_
 rotate_left
 ·(intro w' hw';obtain ⟨r0,r1,r2,r3,r4,r5,r6⟩:=hw';go_simp;try with_reducible rfl)
 simp only [List.set_cons_zero,List.set_cons_succ]
 refine tD 69 0 (v:=?_) P2 ?_ ?_
 rotate_left
 ·(intro w' hw';obtain ⟨r0,r1,r2,r3,r4,r5,r6⟩:=hw';go_simp;try with_reducible rfl)
 simp only [List.set_cons_zero]
 refine wpAnyH_done (by kernel_rfl) ?_ _
 go_wp2_with fail
 go_ret
 exact ⟨rfl,((hB2.trans (Bf.mono hB2.size)).trans ((hbh.out.trans (hbi.mono hbh.out.size)).mono (Nat.le_trans hB2.size Bf.size))).trans (hbj.mono (Nat.le_trans hB2.size (Nat.le_trans Bf.size (Nat.le_trans hbh.out.size hbi.size))))⟩
end Go.Proofs.YteikncnldbdfmaaGreatDoor
