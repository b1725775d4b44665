import Derived.Test.YteikncnldbdfmaaGreatDoorMWd
import Derived.Test.YteikncnldbdfmaaGreatDoorMDoc
import Derived.Test.YteikncnldbdfmaaGreatDoorMRegT
namespace Go.Mh
open Go.RowKit
theorem OwnS.at {α:Type} {base e sz:Nat} {R:World→List Value→α→Prop} {w:World} {g n cap:Nat} {L:List α} (h:OwnS base e sz R w (.slice (some ⟨g,0,none⟩) n cap) L) {k:Nat} {x:α} (hx:L[k]?=some x) :
  ∃ cs,R w cs x∧cs.length=sz∧∀ (j:Nat) u,cs[j]?=some u→w.cell? ⟨g,k * sz+j,none⟩=some u:=by
 obtain ⟨a,cp,e1,_,_,_,hel⟩:=h.rd
 cases e1
 obtain ⟨b,off,cs,e2,_,hl,hat,hR⟩:=hel k x hx
 cases e2
 refine ⟨cs,hR,hl,fun j u hj=>?_⟩
 have:=hat j u hj
 rw [Nat.zero_add] at this
 exact this
end Go.Mh
namespace Go.Proofs.YteikncnldbdfmaaGreatDoor
open Go.RowKit Go.Mh
theorem cellOf {w:World} {b i:Nat} {cs:Array Value} {e:TypeId} {fr:Nat × Nat} {v:Value} (h:w.heap[b]?=some (.cells cs e fr)) (hi:cs[i]?=some v):w.cell? ⟨b,i,none⟩=some v:=by
 unfold World.cell?
 rw [h]
 exact hi
structure WF (g:Nat) (l:Lay) (w:World) (W:Wd) (k gc gu gd cc cu cd:Nat) (c:Cl) (b n s hh uq dq:Value):Prop where
 vc:l.vc=.slice (some ⟨gc,0,none⟩) W.cl.length cc
 vu:l.vu=.slice (some ⟨gu,0,none⟩) W.cl.length cu
 vd:l.vd=.slice (some ⟨gd,0,none⟩) W.cl.length cd
 b3:w.cell? ⟨g,3,none⟩=some (.slice (some ⟨gc,0,none⟩) W.cl.length cc)
 b4:w.cell? ⟨g,4,none⟩=some (.slice (some ⟨gu,0,none⟩) W.cl.length cu)
 b5:w.cell? ⟨g,5,none⟩=some (.slice (some ⟨gd,0,none⟩) W.cl.length cd)
 c0:w.cell? ⟨gc,k * 7,none⟩=some (.int .i64 c.rev)
 c1:w.cell? ⟨gc,k * 7+1,none⟩=some b
 c2:w.cell? ⟨gc,k * 7+2,none⟩=some n
 c3:w.cell? ⟨gc,k * 7+3,none⟩=some (.int .i64 c.seq)
 c4:w.cell? ⟨gc,k * 7+4,none⟩=some s
 c5:w.cell? ⟨gc,k * 7+5,none⟩=some hh
 c6:w.cell? ⟨gc,k * 7+6,none⟩=some (.bool c.joined)
 u:w.cell? ⟨gu,k,none⟩=some uq
 d:w.cell? ⟨gd,k,none⟩=some dq
 fg:∀ i,w.frozen? ⟨g,i,none⟩=false
 fc:∀ i,w.frozen? ⟨gc,i,none⟩=false
 fu:∀ i,w.frozen? ⟨gu,i,none⟩=false
 fd:∀ i,w.frozen? ⟨gd,i,none⟩=false
 hc:W.cl[k]?=some c
 hu:l.us[k]?=some uq
 hd:l.ds[k]?=some dq
 rb:RItems (l.N g) w b c.base
 rn:RItems (l.N g) w n c.now
 rs:ROp (l.N g) w s c.sent
 rh:ROp (l.N g) w hh c.held
 ne:gc≠gu∧gc≠gd∧gu≠gd∧g≠gc∧g≠gu∧g≠gd
 kg:∃ xs,w.heap[g]?=some (.cells xs TW (0,0))
 kc:∃ xs,w.heap[gc]?=some (.cells xs TC (0,0))
 ku:∃ xs,w.heap[gu]?=some (.cells xs TS (0,0))
 kd:∃ xs,w.heap[gd]?=some (.cells xs TS (0,0))
theorem WAt.facts {B g:Nat} {l:Lay} {w:World} {W:Wd} (h:WAt B g l w W) {k:Nat} (hk:k < W.cl.length) (hul:W.up.length=W.cl.length) (hdl:W.down.length=W.cl.length) :
  ∃ gc gu gd cc cu cd c b n s hh uq dq,WF g l w W k gc gu gd cc cu cd c b n s hh uq dq:=by
 obtain ⟨c,hc⟩:∃ c,W.cl[k]?=some c:=⟨_,List.getElem?_eq_getElem hk⟩
 obtain ⟨uq,huq⟩:∃ u,l.us[k]?=some u:=⟨_,List.getElem?_eq_getElem (by rw [h.ul,hul];exact hk)⟩
 obtain ⟨dq,hdq⟩:∃ u,l.ds[k]?=some u:=⟨_,List.getElem?_eq_getElem (by rw [h.dl,hdl];exact hk)⟩
 obtain ⟨gc,cc,ccur,hvc,_,hhc⟩:=h.cl.shape (fun e=>by rw [e] at hk;simp at hk)
 obtain ⟨gu,cu,ucur,hvu,_,hhu⟩:=h.uR.shape (fun e=>by rw [e] at huq;simp at huq)
 obtain ⟨gd,cd,dcur,hvd,_,hhd⟩:=h.dR.shape (fun e=>by rw [e] at hdq;simp at hdq)
 rw [h.ul,hul] at hvu
 rw [h.dl,hdl] at hvd
 have hap:=h.ap
 obtain ⟨a,lg,nn,hb,_⟩:=h.box
 have hcl:=h.cl
 have hu:=h.uR
 have hd:=h.dR
 rw [hvc] at hcl
 rw [hvu] at hu
 rw [hvd] at hd
 obtain ⟨cs,⟨b,n,s,hh,rfl,r1,r2,r3,r4⟩,_,hcell⟩:=hcl.at hc
 obtain ⟨us,rfl,_,ucell⟩:=hu.at huq
 obtain ⟨ds,rfl,_,dcell⟩:=hd.at hdq
 have hne:∀ j xs T fr,w.heap[j]?=some (.cells xs T fr)→T≠TW→g≠j:=fun j xs T fr e1 e2 e3=>by
  subst e3
  rw [hb] at e1
  cases e1
  exact e2 rfl
 have h1:gc≠gu:=fun e=>by rw [e,hhu] at hhc;cases hhc
 have h2:gc≠gd:=fun e=>by rw [e,hhd] at hhc;cases hhc
 have h3:gu≠gd:=fun e=>by
  rw [List.pairwise_cons,List.pairwise_cons] at hap
  exact hap.2.1 l.vd (by simp) gu (by rw [hvu];rfl) (by rw [hvd,e];rfl)
 rw [hvc,hvu,hvd] at hb
 refine ⟨gc,gu,gd,cc,cu,cd,c,b,n,s,hh,uq,dq,⟨hvc,hvu,hvd,cellOf (i:=3) hb rfl,cellOf (i:=4) hb rfl,cellOf (i:=5) hb rfl,by simpa using hcell 0 _ rfl,hcell 1 _ rfl,hcell 2 _ rfl,hcell 3 _ rfl,hcell 4 _ rfl,hcell 5 _ rfl,hcell 6 _ rfl,by simpa using ucell 0 _ rfl,by simpa using dcell 0 _ rfl,fun i=>Lib.frozen_of_heap hb _,fun i=>Lib.frozen_of_heap hhc _,fun i=>Lib.frozen_of_heap hhu _,fun i=>Lib.frozen_of_heap hhd _,hc,huq,hdq,r1,r2,r3,r4,⟨h1,h2,h3,hne gc _ _ _ hhc (by decide),hne gu _ _ _ hhu (by decide),hne gd _ _ _ hhd (by decide)⟩,⟨_,hb⟩,⟨_,hhc⟩,⟨_,hhu⟩,⟨_,hhd⟩⟩⟩
theorem WAt.setJoined {B g:Nat} {l:Lay} {w:World} {W:Wd} (h:WAt B g l w W) {k gc cap n:Nat} {c:Cl} (hv:l.vc=.slice (some ⟨gc,0,none⟩) n cap) (hc:W.cl[k]?=some c) (j:Bool):WAt B g l (w.setCell ⟨gc,k * 7+6,none⟩ (.bool j)) { W with cl:=W.cl.set k { c with joined:=j } }:=by
 have hcl:=h.cl
 rw [hv] at hcl
 have hm:Man g l.rows gc:=Or.inr ⟨l.vc,by simp,by rw [hv];rfl⟩
 have kp:Kp (l.N g) (l.N g) w (w.setCell ⟨gc,k * 7+6,none⟩ (.bool j)):=fun i hN _=>⟨hN,heap_setCell_other _ _ i _ (fun e=>hN (by rw [e];exact hm))⟩
 refine h.clients hv (fun i _ hne=>heap_setCell_other _ _ i _ hne) ?_
 rw [hv]
 refine hcl.set hc (by decide) (.bool j) rfl (fun cs y _ r=>RClc.to r kp) (fun cs _ r=>?_)
 obtain ⟨b,n,s,hh,rfl,r1,r2,r3,r4⟩:=r
 exact ⟨b,n,s,hh,rfl,RItems.to r1 kp,RItems.to r2 kp,ROp.to r3 kp,ROp.to r4 kp⟩
theorem WAt.noUp {B g gu n cap k:Nat} {l:Lay} {w:World} {W:Wd} (h:WAt B g l w W) (hv:l.vu=.slice (some ⟨gu,0,none⟩) n cap) {q:Value} (hq:l.us[k]?=some q) :
  WAt B g { l with us:=l.us.set k (.slice none 0 0) } (w.setCell ⟨gu,k,none⟩ (.slice none 0 0)) { W with up:=W.up.set k [] }:=by
 have hu:=h.uR
 rw [hv] at hu
 refine h.upSet hv hq ⟨fun j _ h1 _=>heap_setCell_other _ _ j _ h1,fun j e=>by simp [Value.ownBlock] at e⟩ ?_ OwnS.nil
 rw [hv]
 have:=hu.set hq (j:=0) (x':=.slice none 0 0) (R':=RVal) (by decide) (.slice none 0 0) rfl (fun _ _ _ r=>r) (fun cs _ r=>by rw [show cs=[q] from r];rfl)
 simpa using this
theorem WAt.noDown {B g gu n cap k:Nat} {l:Lay} {w:World} {W:Wd} (h:WAt B g l w W) (hv:l.vd=.slice (some ⟨gu,0,none⟩) n cap) {q:Value} (hq:l.ds[k]?=some q) :
  WAt B g { l with ds:=l.ds.set k (.slice none 0 0) } (w.setCell ⟨gu,k,none⟩ (.slice none 0 0)) { W with down:=W.down.set k [] }:=by
 have hu:=h.dR
 rw [hv] at hu
 refine h.downSet hv hq ⟨fun j _ h1 _=>heap_setCell_other _ _ j _ h1,fun j e=>by simp [Value.ownBlock] at e⟩ ?_ OwnS.nil
 rw [hv]
 have:=hu.set hq (j:=0) (x':=.slice none 0 0) (R':=RVal) (by decide) (.slice none 0 0) rfl (fun _ _ _ r=>r) (fun cs _ r=>by rw [show cs=[q] from r];rfl)
 simpa using this
theorem nDs {l:Lay} {g i B0 j:Nat} {q q':Value} (hi:l.ds[i]?=some q) (ho:∀ k,q'.ownBlock=some k→q.ownBlock=some k∨B0≤k) (hN:l.N g j) (hj:j < B0):({ l with ds:=l.ds.set i q' }:Lay).N g j:=fun hm=>hN (by
 rcases hm with e | ⟨r,hr,hk⟩
 ·exact Or.inl e
 ·simp only [List.mem_cons,List.mem_append] at hr
  rcases hr with rfl | rfl | rfl | hr | hr
  ·exact Or.inr ⟨_,by simp,hk⟩
  ·exact Or.inr ⟨_,by simp,hk⟩
  ·exact Or.inr ⟨_,by simp,hk⟩
  ·exact Or.inr ⟨r,by simp [hr],hk⟩
  ·rcases List.mem_or_eq_of_mem_set hr with hr | rfl
   ·exact Or.inr ⟨r,by simp [hr],hk⟩
   ·rcases ho j hk with e | e
    ·exact Or.inr ⟨q,by simp [List.mem_of_getElem? hi],e⟩
    ·omega)
theorem nUs {l:Lay} {g i B0 j:Nat} {q q':Value} (hi:l.us[i]?=some q) (ho:∀ k,q'.ownBlock=some k→q.ownBlock=some k∨B0≤k) (hN:l.N g j) (hj:j < B0):({ l with us:=l.us.set i q' }:Lay).N g j:=fun hm=>hN (by
 rcases hm with e | ⟨r,hr,hk⟩
 ·exact Or.inl e
 ·simp only [List.mem_cons,List.mem_append] at hr
  rcases hr with rfl | rfl | rfl | hr | hr
  ·exact Or.inr ⟨_,by simp,hk⟩
  ·exact Or.inr ⟨_,by simp,hk⟩
  ·exact Or.inr ⟨_,by simp,hk⟩
  ·rcases List.mem_or_eq_of_mem_set hr with hr | rfl
   ·exact Or.inr ⟨r,by simp [hr],hk⟩
   ·rcases ho j hk with e | e
    ·exact Or.inr ⟨q,by simp [List.mem_of_getElem? hi],e⟩
    ·omega
  ·exact Or.inr ⟨r,by simp [hr],hk⟩)
theorem kpUs {g gu n cap i:Nat} {l:Lay} {w w':World} {q q':Value} (hv:l.vu=.slice (some ⟨gu,0,none⟩) n cap) (hi:l.us[i]?=some q) (hs:QStep w w' gu q q'):Kp (l.N g) (({ l with us:=l.us.set i q' }:Lay).N g) w w':=fun j hN hl =>
 ⟨nUs hi hs.own hN hl,hs.same j hl (fun e=>hN (Or.inr ⟨l.vu,by simp,by rw [hv,e];rfl⟩)) (fun e=>hN (Or.inr ⟨q,by simp [List.mem_of_getElem? hi],e⟩))⟩
theorem kpDs {g gu n cap i:Nat} {l:Lay} {w w':World} {q q':Value} (hv:l.vd=.slice (some ⟨gu,0,none⟩) n cap) (hi:l.ds[i]?=some q) (hs:QStep w w' gu q q'):Kp (l.N g) (({ l with ds:=l.ds.set i q' }:Lay).N g) w w':=fun j hN hl =>
 ⟨nDs hi hs.own hN hl,hs.same j hl (fun e=>hN (Or.inr ⟨l.vd,by simp,by rw [hv,e];rfl⟩)) (fun e=>hN (Or.inr ⟨q,by simp [List.mem_of_getElem? hi],e⟩))⟩
theorem qsNone {w:World} {gr k:Nat} {q:Value}:QStep w (w.setCell ⟨gr,k,none⟩ (.slice none 0 0)) gr q (.slice none 0 0):=⟨fun j _ h1 _=>heap_setCell_other _ _ j _ h1,fun j e=>by simp [Value.ownBlock] at e⟩
theorem cell_ne {w:World} {b o:Nat} {v:Value} {a:Addr} (h:b≠a.block) (_:True):(w.setCell ⟨b,o,none⟩ v).cell? a=w.cell? a:=World.cell?_of_block (w:=w) (heap_setCell_other _ _ _ _ (Ne.symm h))
set_option maxRecDepth 100000 in
set_option maxHeartbeats 4000000 in
theorem wdCut_any (B g:Nat) (l:Lay) (w:World) (W:Wd) (k:Nat) (h:WAt B g l w W) (hk:k < W.cl.length) (hul:W.up.length=W.cl.length) (hdl:W.down.length=W.cl.length) :
  Calls Tryz.prog 99 #[.pointer (some ⟨g,0,none⟩),.int .i64 k] w fun e w'=>e=.returned (.tuple #[])∧(∃ l',WAt B g l' w' (cutW W k)∧Kp (l.N g) (l'.N g) w w')∧Below B w w':=by
 obtain ⟨gc,gu,gd,cc,cu,cd,c,b,n,s,hh,uq,dq,H⟩:=h.facts hk hul hdl
 have x3:=H.b3
 have x6:=H.c6
 have f6:=H.fc (k * 7+6)
 have HW:=Lib.hid (h.setJoined H.vc H.hc false)
 have HF:=Lib.hid H
 have hlen:=Lib.hid (show ({ W with cl:=W.cl.set k { c with joined:=false } }:Wd).cl.length=W.cl.length by simp)
 have hgcB:B≤gc:=(h.cl.cells (k:=gc) (by rw [H.vc];rfl)).1
 have hguB:B≤gu:=(h.uR.cells (k:=gu) (by rw [H.vu];rfl)).1
 have hgdB:B≤gd:=(h.dR.cells (k:=gd) (by rw [H.vd];rfl)).1
 have hBl:Hid (Below B w (w.setCell ⟨gc,k * 7+6,none⟩ (.bool false))):=Lib.hid ((Below.refl B w).setCell (p:=⟨gc,k * 7+6,none⟩) hgcB _)
 clear h H
 go_enter Tryz.func99,Tryz.ntmps99
 go_upto_region 1 with fail
 refine name_world ?_
 intro w1 hw1
 have hkp1:Kp (l.N g) (l.N g) w w1:=fun j hN _=>⟨hN,by rw [← hw1];exact heap_setCell_other _ _ j _ (fun e=>hN (Or.inr ⟨l.vc,by simp,by rw [HF.out.vc,show j=gc from e];rfl⟩))⟩
 have hsz1:w1.heap.size=w.heap.size:=by rw [← hw1];simp
 rw [hw1] at HW hBl
 clear x3 x6 f6 hw1
 have hk1:k < ({ W with cl:=W.cl.set k { c with joined:=false } }:Wd).cl.length:=by rw [hlen.out];exact hk
 obtain ⟨gc',gu',gd',cc',cu',cd',c',b',n',s',hh',uq',dq',H1⟩:=HW.out.facts hk1 (by rw [hlen.out];exact hul) (by rw [hlen.out];exact hdl)
 have evu:=HF.out.vu.symm.trans H1.vu
 have evd:=HF.out.vd.symm.trans H1.vd
 simp at evu evd
 obtain ⟨rfl,rfl⟩:=evu
 obtain ⟨rfl,rfl⟩:=evd
 have y4:=H1.b4
 have y5:=H1.b5
 have yu:=H1.u
 have yd:=H1.d
 have fu:=H1.fu k
 have fd:=H1.fd k
 rw [hlen.out] at y4 y5
 obtain ⟨_,_,n3,_,n5,n6⟩:=H1.ne
 have hU:=H1.hu
 have hD:=H1.hd
 have hVU:=H1.vu
 have hVD:=H1.vd
 clear H1
 obtain ⟨w2,hw2⟩:∃ w2,w1.drew=w2:=⟨_,rfl⟩
 refine wp_region_held (S:=fun w'=>w'.cell? ⟨g,4,none⟩=some (.slice (some ⟨gu,0,none⟩) W.cl.length cu)∧w'.cell? ⟨g,5,none⟩=some (.slice (some ⟨gd,0,none⟩) W.cl.length cd)) (by kernel_rfl) ?_
 have hd2:WAt B g l w2 { W with cl:=W.cl.set k { c with joined:=false } }:=by rw [← hw2];exact HW.out.below (Go.below_drewN (Below.refl _ _) 1)
 have hB2:Below B w w2:=by rw [← hw2];exact Go.below_drewN hBl.out 1
 have hkp2:Kp (l.N g) (l.N g) w w2:=by rw [← hw2];exact hkp1
 have hsz2:w2.heap.size=w.heap.size:=by rw [← hw2];exact hsz1
 replace y4:w2.cell? ⟨g,4,none⟩=some (.slice (some ⟨gu,0,none⟩) W.cl.length cu):=by rw [← hw2];exact y4
 replace y5:w2.cell? ⟨g,5,none⟩=some (.slice (some ⟨gd,0,none⟩) W.cl.length cd):=by rw [← hw2];exact y5
 replace yu:w2.cell? ⟨gu,k,none⟩=some uq':=by rw [← hw2];exact yu
 replace yd:w2.cell? ⟨gd,k,none⟩=some dq':=by rw [← hw2];exact yd
 replace fu:w2.frozen? ⟨gu,k,none⟩=false:=by rw [← hw2];exact fu
 replace fd:w2.frozen? ⟨gd,k,none⟩=false:=by rw [← hw2];exact fd
 show wpAnyH _ _ _ _ _ _ _ _ (World.drew w1)
 rw [hw2]
 have HD2:=Lib.hid hd2
 have hB2':=Lib.hid hB2
 clear hd2 hB2 hw2 HW
 have hcu:(w2.setCell ⟨gu,k,none⟩ (.slice none 0 0)).cell? ⟨gd,k,none⟩=some dq':=(cell_ne n3 trivial).trans yd
 have hfu:(w2.setCell ⟨gu,k,none⟩ (.slice none 0 0)).frozen? ⟨gd,k,none⟩=false:=by
  unfold World.frozen?
  rw [heap_setCell_other _ _ _ _ (Ne.symm n3)]
  exact fd
 refine tD 0 11 (v:=?_) ⟨y4,y5⟩ ?_ ?_
 rotate_left
 ·(intro w' hw';(try dsimp only at hw');go_simp;try with_reducible rfl)
 simp only [List.set_cons_zero,List.set_cons_succ]
 refine tD 1 12 (v:=?_) ⟨y4,y5⟩ ?_ ?_
 rotate_left
 ·(intro w' hw';(try dsimp only at hw');go_simp;try with_reducible rfl)
 simp only [List.set_cons_zero,List.set_cons_succ]
 refine tD 2 13 (v:=?_) ⟨y4,y5⟩ ?_ ?_
 rotate_left
 ·(intro w' hw';(try dsimp only at hw');go_simp;try with_reducible rfl)
 simp only [List.set_cons_zero,List.set_cons_succ]
 refine tD 3 14 (v:=?_) ⟨y4,y5⟩ ?_ ?_
 rotate_left
 ·(intro w' hw';obtain ⟨p4,p5⟩:=hw';go_simp;try with_reducible rfl)
 simp only [List.set_cons_zero,List.set_cons_succ]
 refine tD 4 15 (v:=?_) ⟨y4,y5⟩ ?_ ?_
 rotate_left
 ·(intro w' hw';(try dsimp only at hw');go_simp;try with_reducible rfl)
 simp only [List.set_cons_zero,List.set_cons_succ]
 refine tD 5 16 (v:=?_) ⟨y4,y5⟩ ?_ ?_
 rotate_left
 ·(intro w' hw';(try dsimp only at hw');go_simp;try with_reducible rfl)
 simp only [List.set_cons_zero,List.set_cons_succ]
 refine tD 6 17 (v:=?_) ⟨y4,y5⟩ ?_ ?_
 rotate_left
 ·(intro w' hw';(try dsimp only at hw');go_simp;try with_reducible rfl)
 simp only [List.set_cons_zero,List.set_cons_succ]
 refine tD 7 18 (v:=?_) ⟨y4,y5⟩ ?_ ?_
 rotate_left
 ·(intro w' hw';(try dsimp only at hw');go_simp;try with_reducible rfl)
 simp only [List.set_cons_zero,List.set_cons_succ]
 refine tD 8 19 (v:=?_) ⟨y4,y5⟩ ?_ ?_
 rotate_left
 ·(intro w' hw';obtain ⟨p4,p5⟩:=hw';go_simp;try with_reducible rfl)
 simp only [List.set_cons_zero,List.set_cons_succ]
 refine tD 9 20 (v:=?_) ⟨y4,y5⟩ ?_ ?_
 rotate_left
 ·(intro w' hw';(try dsimp only at hw');go_simp;try with_reducible rfl)
 simp only [List.set_cons_zero,List.set_cons_succ]
 refine tD 10 21 (v:=?_) ⟨y4,y5⟩ ?_ ?_
 rotate_left
 ·(intro w' hw';(try dsimp only at hw');go_simp;try with_reducible rfl)
 simp only [List.set_cons_zero,List.set_cons_succ]
 refine wpAnyH_step 11 rfl (by kernel_rfl) (fun K' hK'=>?_)
 rw [if_pos (by rfl)]
 go_simp
 refine hK'.out _ _ ⟨(cell_ne (Ne.symm n5) trivial).trans y4,(cell_ne (Ne.symm n5) trivial).trans y5⟩ ?_
 clear hK' K'
 refine tD 12 22 (v:=?_) ⟨(cell_ne (Ne.symm n5) trivial).trans y4,(cell_ne (Ne.symm n5) trivial).trans y5⟩ ?_ ?_
 rotate_left
 ·(intro w' hw';(try dsimp only at hw');go_simp;try with_reducible rfl)
 simp only [List.set_cons_zero,List.set_cons_succ]
 refine wpAnyH_step 13 rfl (by kernel_rfl) (fun K' hK'=>?_)
 rw [if_pos (by rfl)]
 go_simp
 refine hK'.out _ _ ⟨(cell_ne (Ne.symm n6) trivial).trans ((cell_ne (Ne.symm n5) trivial).trans y4),(cell_ne (Ne.symm n6) trivial).trans ((cell_ne (Ne.symm n5) trivial).trans y5)⟩ ?_
 clear hK' K'
 refine wpAnyH_done (by kernel_rfl) ?_ _
 go_end0
 have A:=HD2.out.noUp hVU hU
 have A2:=A.noDown (k:=k) hVD hD
 have e:cutW W k={ W with cl:=W.cl.set k { c with joined:=false },up:=W.up.set k [],down:=W.down.set k [] }:=by
  obtain ⟨uu,huu⟩:∃ u,W.up[k]?=some u:=⟨_,List.getElem?_eq_getElem (by rw [hul];exact hk)⟩
  obtain ⟨dd,hdd⟩:∃ u,W.down[k]?=some u:=⟨_,List.getElem?_eq_getElem (by rw [hdl];exact hk)⟩
  unfold cutW
  rw [modL_set _ k W.cl HF.out.hc,modL_set _ k W.up huu,modL_set _ k W.down hdd]
 rw [e]
 have K3:=hkp2.trans (by omega) ((kpUs hVU hU (qsNone (w:=w2) (gr:=gu) (k:=k))).trans (by simp) (kpDs (g:=g) (l:={ l with us:=l.us.set k (.slice none 0 0) }) hVD hD (qsNone (w:=w2.setCell ⟨gu,k,none⟩ (.slice none 0 0)) (gr:=gd) (k:=k))))
 exact ⟨rfl,⟨_,A2,K3⟩,(hB2'.out.setCell (p:=⟨gu,k,none⟩) hguB _).setCell (p:=⟨gd,k,none⟩) hgdB _⟩
theorem RMsg_one (F:Nat→Prop):∀ (w:World) (cs:List Value) (x:Msg),RMsg F w cs x→∀ u ∈ cs,u.oneCell'=true:=by
 rintro _ _ _ ⟨ov,rfl,ho⟩ u hu
 have:=ROp_one ho
 simp at hu
 rcases hu with rfl | rfl | rfl | rfl <;> first | rfl | assumption
theorem elMsg:El Tryz.prog 65 79 4 48 (.agg #[.int .i64 0,.int .i64 0,.int .i64 0,.slice none 0 0]):=⟨Tryz.underlying65,by kernel_rfl,rfl,by decide⟩
theorem RM_src {F:Nat→Prop} {e:TypeId} {fr:Nat × Nat} {w:World} {g:Nat} {m:Msg} {ov:Value} (h:w.heap[g]?=some (.cells #[.int .i64 m.rev,.int .i64 m.e.client,.int .i64 m.e.seq,ov] e fr)) (ho:ROp F w ov m.e.o):RdS 4 (RMsg F) (fun _=>True) w (.slice (some ⟨g,0,none⟩) 1 1) [m]:=by
 refine ⟨_,1,rfl,by simp,by simp [maxLen],fun h=>by simp at h,fun i y hy=>?_⟩
 cases i with
 | succ i=>simp at hy
 | zero =>
  simp at hy
  subst hy
  refine ⟨g,0,_,rfl,trivial,rfl,fun j u hj=>?_,ov,rfl,ho⟩
  have e:(w.cell? ⟨g,0+0 * 4+j,none⟩)=w.cell? ⟨g,j,none⟩:=by simp
  rw [e]
  unfold World.cell?
  rw [h]
  match j,hj with
  | 0,hj=>exact hj
  | 1,hj=>exact hj
  | 2,hj=>exact hj
  | 3,hj=>exact hj
theorem WAt.qne {B g:Nat} {l:Lay} {w:World} {W:Wd} (h:WAt B g l w W) {i:Nat} {q:Value} (hq:l.us[i]?=some q∨l.ds[i]?=some q) {j:Nat} {xs:Array Value} {T:TypeId} (hj:w.heap[j]?=some (.cells xs T (0,0))) (hT:T≠TM):some j≠q.ownBlock:=fun e=>by
 have key:∃ ys,w.heap[j]?=some (.cells ys TM (0,0)):=by
  rcases hq with hq | hq
  ·have hlt:i < W.up.length:=by rw [← h.ul];exact (List.getElem?_eq_some_iff.1 hq).1
   exact ((h.qu i q _ hq (List.getElem?_eq_getElem hlt)).cells e.symm).2
  ·have hlt:i < W.down.length:=by rw [← h.dl];exact (List.getElem?_eq_some_iff.1 hq).1
   exact ((h.qd i q _ hq (List.getElem?_eq_getElem hlt)).cells e.symm).2
 obtain ⟨ys,e1⟩:=key
 rw [hj] at e1
 cases e1
 exact hT rfl
theorem WAt.upPush {B g gu n cap i:Nat} {l:Lay} {w w1:World} {W:Wd} {q q':Value} {L':List Msg} (h:WAt B g l w W) (hv:l.vu=.slice (some ⟨gu,0,none⟩) n cap) (hi:l.us[i]?=some q) (hg:w.grownBy w1 q.ownBlock)
  (ho:∀ k,q'.ownBlock=some k→q.ownBlock=some k∨w.heap.size≤k) (h1:q'.oneCell'=true) (hL:OwnS B TM 4 (RMsg (fun j=>l.N g j∧j < w.heap.size)) w1 q' L'):WAt B g { l with us:=l.us.set i q' } (w1.setCell ⟨gu,i,none⟩ q') { W with up:=W.up.set i L' }:=by
 have hu:=h.uR
 rw [hv] at hu
 obtain ⟨_,xs,hgu⟩:=hu.cells (k:=gu) rfl
 have hgu1:w1.heap[gu]?=some (.cells xs TS (0,0)):=(hg.block gu (lt_of_heap hgu) (h.qne (Or.inl hi) hgu (by decide))).trans hgu
 have hu1:OwnS B TS 1 RVal w1 (.slice (some ⟨gu,0,none⟩) n cap) l.us:=hu.to (fun k hk _=>by cases hk;exact hgu1.trans hgu.symm) (fun _ _ _ r=>r)
 have hm:l.vu.ownBlock=some gu:=by rw [hv];rfl
 have mu:l.vu ∈ l.rows:=by simp
 have mq:q ∈ l.rows:=by simp;exact Or.inr (Or.inr (Or.inr (Or.inl (List.mem_of_getElem? hi))))
 refine h.upSet hv hi ⟨fun j hl h1 h2=>(heap_setCell_other _ _ j _ h1).trans (hg.block j hl (Ne.symm h2)),ho⟩ ?_ ?_
 ·rw [hv]
  have:=hu1.set hi (j:=0) (x':=q') (R':=RVal) (by decide) q' h1 (fun _ _ _ r=>r) (fun cs _ r=>by rw [show cs=[q] from r];rfl)
  simpa using this
 ·refine hL.to (fun j hj _=>heap_setCell_other _ _ j _ (fun e=>?_)) (fun cs y _ r=>RMsg.to r (fun j hj hl=>⟨fun hm'=>hj.1 ?_,heap_setCell_other _ _ j _ (fun e=>hj.1 (Or.inr ⟨_,mu,by rw [show j=gu from e];exact hm⟩))⟩))
  ·obtain ⟨_,ys,e1⟩:=hL.cells hj
   rw [show j=gu from e,hgu1] at e1
   cases e1
  ·rcases hm' with e | ⟨r,hr,hk⟩
   ·exact Or.inl e
   ·simp only [List.mem_cons,List.mem_append] at hr
    rcases hr with rfl | rfl | rfl | hr | hr
    ·exact Or.inr ⟨_,by simp,hk⟩
    ·exact Or.inr ⟨_,by simp,hk⟩
    ·exact Or.inr ⟨_,by simp,hk⟩
    ·rcases List.mem_or_eq_of_mem_set hr with hr | rfl
     ·exact Or.inr ⟨r,by simp [hr],hk⟩
     ·rcases ho j hk with e | e
      ·exact Or.inr ⟨q,mq,e⟩
      ·exact absurd hj.2 (by omega)
    ·exact Or.inr ⟨r,by simp [hr],hk⟩
theorem WAt.downPush {B g gu n cap i:Nat} {l:Lay} {w w1:World} {W:Wd} {q q':Value} {L':List Msg} (h:WAt B g l w W) (hv:l.vd=.slice (some ⟨gu,0,none⟩) n cap) (hi:l.ds[i]?=some q) (hg:w.grownBy w1 q.ownBlock)
  (ho:∀ k,q'.ownBlock=some k→q.ownBlock=some k∨w.heap.size≤k) (h1:q'.oneCell'=true) (hL:OwnS B TM 4 (RMsg (fun j=>l.N g j∧j < w.heap.size)) w1 q' L'):WAt B g { l with ds:=l.ds.set i q' } (w1.setCell ⟨gu,i,none⟩ q') { W with down:=W.down.set i L' }:=by
 have hu:=h.dR
 rw [hv] at hu
 obtain ⟨_,xs,hgu⟩:=hu.cells (k:=gu) rfl
 have hgu1:w1.heap[gu]?=some (.cells xs TS (0,0)):=(hg.block gu (lt_of_heap hgu) (h.qne (Or.inr hi) hgu (by decide))).trans hgu
 have hu1:OwnS B TS 1 RVal w1 (.slice (some ⟨gu,0,none⟩) n cap) l.ds:=hu.to (fun k hk _=>by cases hk;exact hgu1.trans hgu.symm) (fun _ _ _ r=>r)
 have hm:l.vd.ownBlock=some gu:=by rw [hv];rfl
 have mu:l.vd ∈ l.rows:=by simp
 have mq:q ∈ l.rows:=by simp;exact Or.inr (Or.inr (Or.inr (Or.inr (List.mem_of_getElem? hi))))
 refine h.downSet hv hi ⟨fun j hl h1 h2=>(heap_setCell_other _ _ j _ h1).trans (hg.block j hl (Ne.symm h2)),ho⟩ ?_ ?_
 ·rw [hv]
  have:=hu1.set hi (j:=0) (x':=q') (R':=RVal) (by decide) q' h1 (fun _ _ _ r=>r) (fun cs _ r=>by rw [show cs=[q] from r];rfl)
  simpa using this
 ·refine hL.to (fun j hj _=>heap_setCell_other _ _ j _ (fun e=>?_)) (fun cs y _ r=>RMsg.to r (fun j hj hl=>⟨fun hm'=>hj.1 ?_,heap_setCell_other _ _ j _ (fun e=>hj.1 (Or.inr ⟨_,mu,by rw [show j=gu from e];exact hm⟩))⟩))
  ·obtain ⟨_,ys,e1⟩:=hL.cells hj
   rw [show j=gu from e,hgu1] at e1
   cases e1
  ·rcases hm' with e | ⟨r,hr,hk⟩
   ·exact Or.inl e
   ·simp only [List.mem_cons,List.mem_append] at hr
    rcases hr with rfl | rfl | rfl | hr | hr
    ·exact Or.inr ⟨_,by simp,hk⟩
    ·exact Or.inr ⟨_,by simp,hk⟩
    ·exact Or.inr ⟨_,by simp,hk⟩
    ·exact Or.inr ⟨r,by simp [hr],hk⟩
    ·rcases List.mem_or_eq_of_mem_set hr with hr | rfl
     ·exact Or.inr ⟨r,by simp [hr],hk⟩
     ·rcases ho j hk with e | e
      ·exact Or.inr ⟨q,mq,e⟩
      ·exact absurd hj.2 (by omega)
theorem step_msg {o:Oper} {a:Act} {w:World} {K:Act→World→Prop} {Q:Exit→Act→World→Prop} (s x:Operand)
  (hop:o.op=Op.call { callee:=Callee.builtin Builtin.append,args:=#[s,x],argTypes:=#[65,65] })
  (B gm:Nat) (N:Nat→Prop) (v:Value) (L:List Msg) (m:Msg) (ov:Value) (hs:a.eval s=v) (hown:OwnS B TM 4 (RMsg N) w v L) (hx:a.eval x=.slice (some ⟨gm,0,none⟩) 1 1) (hb:w.heap[gm]?=some (.cells #[.int .i64 m.rev,.int .i64 m.e.client,.int .i64 m.e.seq,ov] TM (0,0))) (ho:ROp N w ov m.e.o)
  (hN:∀ k,N k→v.ownBlock≠some k) (hL:L.length≤100000) (hB:B≤w.heap.size)
  (hK:∀ la lc w',OwnS B TM 4 (RMsg (fun j=>N j∧j < w.heap.size)) w' (.slice la (L.length+1) lc) (L ++ [m])→w.grownBy w' v.ownBlock→Below B w w'→(∀ k,(Value.slice la (L.length+1) lc).ownBlock=some k→v.ownBlock=some k∨w.heap.size≤k)→K (a.put o.dst (.slice la (L.length+1) lc)) w') :
  Oper.wp Tryz.prog o a w K Q:=by
 have kN:Kp N (fun j=>N j∧j < w.heap.size) w w:=Kp.lt w
 obtain ⟨v',w',hrun,h1,h2,h3,h4⟩:=run_app (P:=Tryz.prog) (w:=w) 65 o.type B TM 4 48 _ elMsg (RMsg (fun j=>N j∧j < w.heap.size)) v L [m] (hown.to (fun _ _ _=>rfl) (fun _ _ _ r=>RMsg.to r kN)) (fun _=>True) _ (RM_src hb (ROp.to ho kN)) (RMsg_one _) (by simp [maxLen];omega) (by simp;omega) hB (fun w' hgr cs y _ r=>RMsg.to r (fun k hk hl=>⟨hk,hgr.block k hl (Ne.symm (hN k hk.1))⟩))
 obtain ⟨la,lc,rfl,_⟩:=RdS.len h1.rd
 have hln:(L ++ [m]).length=L.length+1:=by simp
 rw [hln] at h1 h4 hrun
 unfold Oper.wp
 simp [execOp,hop,resolve,invoke,builtin,hs,hx,hrun,Result.andThen]
 refine hK _ _ _ h1 h2 h3 (fun k hk=>?_)
 rcases h4 with h4 | h4
 ·exact Or.inl (h4 ▸ hk)
 ·rw [h4] at hk
  cases hk
  exact Or.inr (Nat.le_refl _)
set_option maxRecDepth 100000 in
set_option maxHeartbeats 4000000 in
theorem wdUp_send (B g:Nat) (l:Lay) (w:World) (W:Wd) (k gc gu gd cc cu cd:Nat) (c:Cl) (b n s hh uq dq:Value) (L:List Msg) (h:WAt B g l w W) (H:WF g l w W k gc gu gd cc cu cd c b n s hh uq dq) (hk:k < W.cl.length) (hj:c.joined=true) (hs:c.sent≠[]) (hsm:c.sent.length≤100000∧∀ p ∈ c.sent,p.its.length≤100000) (hL:W.up[k]?=some L) (h30:L.length < 30) :
  Calls Tryz.prog 158 #[.pointer (some ⟨g,0,none⟩),.int .i64 k] w fun e w'=>e=.returned (.tuple #[])∧(∃ l',WAt B g l' w' { W with up:=W.up.set k (L ++ [⟨c.rev,⟨k,c.seq,c.sent⟩⟩]) }∧Kp (l.N g) (l'.N g) w w')∧Below B w w':=by
 have hq:=h.qu k uq L H.hu hL
 obtain ⟨ua,uc,rfl,_⟩:=RdS.len hq.rd
 obtain ⟨sa,sc,rfl,_⟩:=RdS.len H.rs
 have y3:=H.b3
 have y:_∧_∧_∧_∧_:=⟨H.b4,H.u,H.c0,H.c3,H.c4⟩
 have z6:=H.c6
 rw [hj] at z6
 have HF:=Lib.hid H
 have HW0:=Lib.hid h
 have hq':=Lib.hid hq
 have mq:Value.slice ua L.length uc ∈ l.rows:=by
  simp only [List.mem_cons,List.mem_append]
  exact Or.inr (Or.inr (Or.inr (Or.inl (List.mem_of_getElem? H.hu))))
 have hBs:B≤w.heap.size:=by have:=h.gB;obtain ⟨_,kg⟩:=H.kg;have:=lt_of_heap kg;omega
 have hBu:B≤gu:=(h.uR.cells (k:=gu) (by rw [H.vu];rfl)).1
 have hs0:((c.sent.length:Int) == 0)=false:=by
  rw [beq_eq_false_iff_ne]
  cases hc:c.sent with
  | nil=>exact absurd hc hs
  | cons _ _=>simp;omega
 have h30':decide ((30:Int)≤(L.length:Int))=false:=by simp;omega
 have hsm':=Lib.hid hsm
 clear h H hq hj hs hsm
 obtain ⟨y4,yu,y0,yq,ys⟩:=y
 go_enter Tryz.func158,Tryz.ntmps158
 go_upto_region 4 with fail
 have kcC:∀ {w1 w2:World},(w1.cell? ⟨g,4,none⟩=some (.slice (some ⟨gu,0,none⟩) W.cl.length cu)∧w1.cell? ⟨gu,k,none⟩=some (.slice ua L.length uc)∧w1.cell? ⟨gc,k * 7,none⟩=some (.int .i64 c.rev)∧w1.cell? ⟨gc,k * 7+3,none⟩=some (.int .i64 c.seq)∧w1.cell? ⟨gc,k * 7+4,none⟩=some (.slice sa c.sent.length sc))→Below w1.heap.size w1 w2→(w2.cell? ⟨g,4,none⟩=some (.slice (some ⟨gu,0,none⟩) W.cl.length cu)∧w2.cell? ⟨gu,k,none⟩=some (.slice ua L.length uc)∧w2.cell? ⟨gc,k * 7,none⟩=some (.int .i64 c.rev)∧w2.cell? ⟨gc,k * 7+3,none⟩=some (.int .i64 c.seq)∧w2.cell? ⟨gc,k * 7+4,none⟩=some (.slice sa c.sent.length sc)):=fun h hb =>
  ⟨(hb.cell (lt_of_cell h.1)).trans h.1,(hb.cell (lt_of_cell h.2.1)).trans h.2.1,(hb.cell (lt_of_cell h.2.2.1)).trans h.2.2.1,(hb.cell (lt_of_cell h.2.2.2.1)).trans h.2.2.2.1,(hb.cell (lt_of_cell h.2.2.2.2)).trans h.2.2.2.2⟩
 obtain ⟨w2,hw2⟩:∃ w2,w.drew=w2:=⟨_,rfl⟩
 have hb2:Below w.heap.size w w2:=by rw [← hw2];exact Go.below_drewN (Below.refl _ _) 1
 have y:=kcC ⟨y4,yu,y0,yq,ys⟩ hb2
 have HW:=Lib.hid (HW0.out.below hb2)
 have CC:=Lib.hid (opCopy_any (l.N g) _ c.sent w2 (ROp.to HF.out.rs (Kp.below hb2)) hsm'.out.1 hsm'.out.2)
 clear y4 yu y0 yq ys y3 z6 hs0 h30'
 refine wp_region_G 31 (fun w'=>w'.cell? ⟨g,4,none⟩=some (.slice (some ⟨gu,0,none⟩) W.cl.length cu)∧w'.cell? ⟨gu,k,none⟩=some (.slice ua L.length uc)∧w'.cell? ⟨gc,k * 7,none⟩=some (.int .i64 c.rev)∧w'.cell? ⟨gc,k * 7+3,none⟩=some (.int .i64 c.seq)∧w'.cell? ⟨gc,k * 7+4,none⟩=some (.slice sa c.sent.length sc)) (fun w'=>True) (by kernel_rfl) ?_
 show wpAnyG _ _ _ _ _ _ _ _ _ _ (World.drew w)
 rw [hw2]
 clear hw2
 refine tG 32 0 36 (v:=?_) trivial y ?_ ?_
 rotate_left
 ·(intro w' hw';(try dsimp only at hw');go_simp;try with_reducible rfl)
 simp only [List.set_cons_zero,List.set_cons_succ]
 refine tG 32 1 37 (v:=?_) trivial y ?_ ?_
 rotate_left
 ·(intro w' hw';(try dsimp only at hw');go_simp;try with_reducible rfl)
 simp only [List.set_cons_zero,List.set_cons_succ]
 refine tG 32 2 38 (v:=?_) trivial y ?_ ?_
 rotate_left
 ·(intro w' hw';(try dsimp only at hw');go_simp;try with_reducible rfl)
 simp only [List.set_cons_zero,List.set_cons_succ]
 refine tG 32 3 39 (v:=?_) trivial y ?_ ?_
 rotate_left
 ·(intro w' hw';obtain ⟨_,p4,pu,p0,p3,ps⟩:=hw';go_simp;try with_reducible rfl)
 simp only [List.set_cons_zero,List.set_cons_succ]
 refine tG 32 4 40 (v:=?_) trivial y ?_ ?_
 rotate_left
 ·(intro w' hw';(try dsimp only at hw');go_simp;try with_reducible rfl)
 simp only [List.set_cons_zero,List.set_cons_succ]
 refine tG 32 5 41 (v:=?_) trivial y ?_ ?_
 rotate_left
 ·(intro w' hw';(try dsimp only at hw');go_simp;try with_reducible rfl)
 simp only [List.set_cons_zero,List.set_cons_succ]
 refine tG 32 6 42 (v:=?_) trivial y ?_ ?_
 rotate_left
 ·(intro w' hw';(try dsimp only at hw');go_simp;try with_reducible rfl)
 simp only [List.set_cons_zero,List.set_cons_succ]
 refine tG 32 7 43 (v:=?_) trivial y ?_ ?_
 rotate_left
 ·(intro w' hw';(try dsimp only at hw');go_simp;try with_reducible rfl)
 simp only [List.set_cons_zero,List.set_cons_succ]
 refine tG 32 8 44 (v:=?_) trivial y ?_ ?_
 rotate_left
 ·(intro w' hw';obtain ⟨_,p4,pu,p0,p3,ps⟩:=hw';go_simp;try with_reducible rfl)
 simp only [List.set_cons_zero,List.set_cons_succ]
 refine tG 32 9 45 (v:=?_) trivial y ?_ ?_
 rotate_left
 ·(intro w' hw';(try dsimp only at hw');go_simp;try with_reducible rfl)
 simp only [List.set_cons_zero,List.set_cons_succ]
 refine tG 32 10 46 (v:=?_) trivial y ?_ ?_
 rotate_left
 ·(intro w' hw';(try dsimp only at hw');go_simp;try with_reducible rfl)
 simp only [List.set_cons_zero,List.set_cons_succ]
 refine tG 32 11 47 (v:=?_) trivial y ?_ ?_
 rotate_left
 ·(intro w' hw';obtain ⟨_,p4,pu,p0,p3,ps⟩:=hw';go_simp;try with_reducible rfl)
 simp only [List.set_cons_zero,List.set_cons_succ]
 refine tG 32 12 48 (v:=?_) trivial y ?_ ?_
 rotate_left
 ·(intro w' hw';(try dsimp only at hw');go_simp;try with_reducible rfl)
 simp only [List.set_cons_zero,List.set_cons_succ]
 refine tG 32 13 49 (v:=?_) trivial y ?_ ?_
 rotate_left
 ·(intro w' hw';(try dsimp only at hw');go_simp;try with_reducible rfl)
 simp only [List.set_cons_zero,List.set_cons_succ]
 refine tG 32 14 50 (v:=?_) trivial y ?_ ?_
 rotate_left
 ·(intro w' hw';(try dsimp only at hw');go_simp;try with_reducible rfl)
 simp only [List.set_cons_zero,List.set_cons_succ]
 refine tG 32 15 51 (v:=?_) trivial y ?_ ?_
 rotate_left
 ·(intro w' hw';obtain ⟨_,p4,pu,p0,p3,ps⟩:=hw';go_simp;try with_reducible rfl)
 simp only [List.set_cons_zero,List.set_cons_succ]
 refine tG 32 16 52 (v:=?_) trivial y ?_ ?_
 rotate_left
 ·(intro w' hw';(try dsimp only at hw');go_simp;try with_reducible rfl)
 simp only [List.set_cons_zero,List.set_cons_succ]
 refine tG 32 17 53 (v:=?_) trivial y ?_ ?_
 rotate_left
 ·(intro w' hw';(try dsimp only at hw');go_simp;try with_reducible rfl)
 simp only [List.set_cons_zero,List.set_cons_succ]
 refine tG 32 18 54 (v:=?_) trivial y ?_ ?_
 rotate_left
 ·(intro w' hw';(try dsimp only at hw');go_simp;try with_reducible rfl)
 simp only [List.set_cons_zero,List.set_cons_succ]
 refine tG 32 19 55 (v:=?_) trivial y ?_ ?_
 rotate_left
 ·(intro w' hw';(try dsimp only at hw');go_simp;try with_reducible rfl)
 simp only [List.set_cons_zero,List.set_cons_succ]
 refine tG 32 20 56 (v:=?_) trivial y ?_ ?_
 rotate_left
 ·(intro w' hw';obtain ⟨_,p4,pu,p0,p3,ps⟩:=hw';go_simp;try with_reducible rfl)
 simp only [List.set_cons_zero,List.set_cons_succ]
 refine tG 32 21 57 (v:=?_) trivial y ?_ ?_
 rotate_left
 ·(intro w' hw';(try dsimp only at hw');go_simp;try with_reducible rfl)
 simp only [List.set_cons_zero,List.set_cons_succ]
 refine tG 32 22 58 (v:=?_) trivial y ?_ ?_
 rotate_left
 ·(intro w' hw';(try dsimp only at hw');go_simp;try with_reducible rfl)
 simp only [List.set_cons_zero,List.set_cons_succ]
 refine tG 32 23 59 (v:=?_) trivial y ?_ ?_
 rotate_left
 ·(intro w' hw';(try dsimp only at hw');go_simp;try with_reducible rfl)
 simp only [List.set_cons_zero,List.set_cons_succ]
 refine tG 32 24 60 (v:=?_) trivial y ?_ ?_
 rotate_left
 ·(intro w' hw';obtain ⟨_,p4,pu,p0,p3,ps⟩:=hw';go_simp;try with_reducible rfl)
 simp only [List.set_cons_zero,List.set_cons_succ]
 refine wpAnyG_step 25 rfl (by kernel_rfl) (fun K' hK'=>?_)
 rw [if_pos (by rfl)]
 go_simp
 refine CC.out.mono ?_
 rintro e w3 ⟨cv,rfl,hcv,hb3⟩
 obtain ⟨xa,xc,rfl,_⟩:=RdS.len hcv
 have W3:=Lib.hid (HW.out.below hb3)
 have Q3:=kcC y hb3
 have hcv3:=Lib.hid (ROp.to hcv (fun j hj _=>⟨(by rcases hj with hj | hj;exact HW.out.new j hj;exact hj:l.N g j),rfl⟩))
 refine hK'.out _ _ trivial (fun _=>Q3) ?_
 clear hK' K'
 refine tG 32 26 62 (v:=?_) trivial Q3 ?_ ?_
 rotate_left
 ·(intro w' hw';(try dsimp only at hw');go_simp;try with_reducible rfl)
 simp only [List.set_cons_zero,List.set_cons_succ]
 refine tG 32 27 63 (v:=?_) trivial Q3 ?_ ?_
 rotate_left
 ·(intro w' hw';(try dsimp only at hw');go_simp;try with_reducible rfl)
 simp only [List.set_cons_zero,List.set_cons_succ]
 refine wpAnyG_step 28 rfl (by kernel_rfl) (fun K' hK'=>?_)
 rw [if_pos (by rfl)]
 go_simp
 obtain ⟨w4,hw4⟩:∃ w4,w3.alloc (.cells #[.int .i64 c.rev,.int .i64 (k:Int),.int .i64 c.seq,.slice xa c.sent.length xc] 79)=w4:=⟨_,rfl⟩
 have hb4:Below w3.heap.size w3 w4:=by rw [← hw4];exact bal (brf w3) _
 have hN4:=heap_new w3 (.cells #[.int .i64 c.rev,.int .i64 (k:Int),.int .i64 c.seq,.slice xa c.sent.length xc] 79)
 rw [hw4] at hN4
 try rw [hw4]
 have W4:=Lib.hid (W3.out.below hb4)
 have Q4:=kcC Q3 hb4
 have hcv4:=Lib.hid (ROp.to hcv3.out (Kp.below hb4))
 refine hK'.out _ _ trivial (fun _=>Q4) ?_
 clear hK' K'
 refine wpAnyG_step 29 rfl (by kernel_rfl) (fun K' hK'=>?_)
 rw [if_pos (by rfl)]
 clear hw4
 have kb:∀ (j:Nat) (xs:Array Value) (T:TypeId),w.heap[j]?=some (Obj.cells xs T (0,0))→w4.heap[j]?=some (Obj.cells xs T (0,0)):=fun j xs T e=>by
  have e2:=(hb2.block j (lt_of_heap e)).trans e
  have e3:=(hb3.block j (lt_of_heap e2)).trans e2
  exact (hb4.block j (lt_of_heap e3)).trans e3
 refine step_msg (.tmp 47) (.tmp 64) rfl B w3.heap.size (l.N g) (.slice ua L.length uc) L ⟨c.rev,⟨k,c.seq,c.sent⟩⟩ _ rfl (W4.out.qu k _ L HF.out.hu hL) rfl hN4 hcv4.out (fun j hj e=>hj (Or.inr ⟨_,mq,e⟩)) (by omega) (by have:=hb4.size;have:=hb3.size;have:=hb2.size;omega) ?_
 intro la lc w5 hown5 hg5 hB5 hloc5
 have kp:∀ (j:Nat) (xs:Array Value) (T:TypeId),w.heap[j]?=some (Obj.cells xs T (0,0))→T≠TM→w5.heap[j]?=w4.heap[j]?:=fun j xs T e1 e2=>hg5.block j (lt_of_heap (kb j xs T e1)) (W4.out.qne (Or.inl HF.out.hu) (kb j xs T e1) e2)
 obtain ⟨xg,kg⟩:=HF.out.kg
 obtain ⟨xc',kc⟩:=HF.out.kc
 obtain ⟨xu,ku⟩:=HF.out.ku
 have eg:=kp g _ _ kg (by decide)
 have ec:=kp gc _ _ kc (by decide)
 have eu:=kp gu _ _ ku (by decide)
 have fu5:w5.frozen? ⟨gu,k,none⟩=false:=Lib.frozen_of_heap (eu.trans (kb gu _ _ ku)) _
 have Q5:w5.cell? ⟨g,4,none⟩=some (.slice (some ⟨gu,0,none⟩) W.cl.length cu)∧w5.cell? ⟨gu,k,none⟩=some (.slice ua L.length uc)∧w5.cell? ⟨gc,k * 7,none⟩=some (.int .i64 c.rev)∧w5.cell? ⟨gc,k * 7+3,none⟩=some (.int .i64 c.seq)∧w5.cell? ⟨gc,k * 7+4,none⟩=some (.slice sa c.sent.length sc):=
  ⟨(World.cell?_of_block eg).trans Q4.1,(World.cell?_of_block eu).trans Q4.2.1,(World.cell?_of_block ec).trans Q4.2.2.1,(World.cell?_of_block ec).trans Q4.2.2.2.1,(World.cell?_of_block ec).trans Q4.2.2.2.2⟩
 have yu5:=Q5.2.1
 clear eg ec eu kg kc ku kp kb
 refine hK'.out _ _ trivial (fun _=>Q5) ?_
 clear hK' K'
 refine tG 32 30 66 (v:=?_) trivial Q5 ?_ ?_
 rotate_left
 ·(intro w' hw';(try dsimp only at hw');go_simp;try with_reducible rfl)
 simp only [List.set_cons_zero,List.set_cons_succ]
 refine wpAnyG_step 31 rfl (by kernel_rfl) (fun K' hK'=>?_)
 rw [if_pos (by rfl)]
 go_simp
 refine hK'.out _ _ trivial (fun h=>absurd h (by decide)) ?_
 clear hK' K'
 refine wpAnyG_done (by kernel_rfl) ?_ _
 go_end0
 have hW6:=W4.out.upPush HF.out.vu HF.out.hu hg5 hloc5 rfl hown5
 have hb24:Below w.heap.size w w4:=(hb2.trans (hb3.mono hb2.size)).trans (hb4.mono (Nat.le_trans hb2.size hb3.size))
 exact ⟨rfl,⟨_,hW6,Kp.trans (Kp.below hb24) hb24.size (kpUs HF.out.vu HF.out.hu ⟨fun j hl h1 h2=>(heap_setCell_other _ _ j _ h1).trans (hg5.block j hl (Ne.symm h2)),hloc5⟩)⟩,((((hb2.mono hBs).trans (hb3.mono (by have:=hb2.size;omega))).trans (hb4.mono (by have:=hb2.size;have:=hb3.size;omega))).trans hB5).setCell (p:=⟨gu,k,none⟩) hBu _⟩
end Go.Proofs.YteikncnldbdfmaaGreatDoor
