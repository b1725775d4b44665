import Derived.Test.YteikncnldbdfmaaGreatDoorMWdF
namespace Go.Proofs.YteikncnldbdfmaaGreatDoor
open Go.RowKit Go.Mh
set_option maxRecDepth 100000 in
set_option maxHeartbeats 4000000 in
theorem wdJoin_any (B g:Nat) (l:Lay) (w:World) (W:Wd) (k:Nat) (h:WAt B g l w W) (hk:k < W.cl.length) (hul:W.up.length=W.cl.length) (hdl:W.down.length=W.cl.length) (hrev:0≤(clAt W k).rev) (hsm:opSm (clAt W k).sent) (hlog:W.s.log.length≤60∧∀ x ∈ W.s.log,opSm x.o) :
  Calls Tryz.prog 100 #[.pointer (some ⟨g,0,none⟩),.int .i64 k] w fun e w'=>e=.returned (.int .i64 (joinW W k).2)∧(∃ l',WAt B g l' w' (joinW W k).1∧Kp (l.N g) (l'.N g) w w')∧Below B w w':=by
 obtain ⟨gc,gu,gd,cc,cu,cd,c,b,n,s,hh,uq,dq,H⟩:=h.facts hk hul hdl
 have ec:clAt W k=c:=getD_some H.hc
 have hBc:B≤gc:=(h.cl.cells (k:=gc) (by rw [H.vc];rfl)).1
 obtain ⟨⟨V,E⟩,hV⟩:∃ r,joinW W k=r:=⟨_,rfl⟩
 rw [hV]
 rw [ec] at hrev hsm
 unfold joinW at hV
 rw [ec] at hV
 have x3:=H.b3
 have x6:=H.c6
 have f6:=H.fc (k * 7+6)
 cases hj:c.joined with
 | true =>
  rw [hj] at x6 hV
  rw [if_pos rfl] at hV
  cases hV
  have h:=Lib.hid h
  clear H hj
  go_enter Tryz.func100,Tryz.ntmps100
  go_wp2_with fail
  go_ret
  exact ⟨rfl,⟨_,h.out,Kp.weak w fun _ h=>h⟩,Below.refl _ _⟩
 | false =>
 rw [hj] at x6 hV
 rw [if_neg (by simp)] at hV
 have HF:=Lib.hid H
 have hV:=Lib.hid hV
 have e1:setC W k { c with joined:=true }={ W with cl:=W.cl.set k { c with joined:=true } }:=by unfold setC;rw [modL_set _ k W.cl H.hc]
 have HW1:=Lib.hid (h.setJoined H.vc H.hc true)
 have h:=Lib.hid h
 have hB1:Below B w (w.setCell ⟨gc,k * 7+6,none⟩ (.bool true)):=(Below.refl B w).setCell (p:=⟨gc,k * 7+6,none⟩) hBc _
 have hlog:=Lib.hid hlog
 have hsm:=Lib.hid hsm
 clear H
 go_enter Tryz.func100,Tryz.ntmps100
 go_upto_region 4 with fail
 refine name_world ?_
 intro w1 hw1
 have K1:Hid (Kp (l.N g) (l.N g) w w1):=Lib.hid (by rw [← hw1];exact fun i hN _=>⟨hN,heap_setCell_other _ _ i _ (fun e=>hN (by rw [e];exact Or.inr ⟨l.vc,by simp,by rw [HF.out.vc];rfl⟩))⟩)
 rw [hw1] at HW1 hB1
 clear hw1 x3 x6 f6
 rw [← e1] at HW1
 obtain ⟨w2,hw2⟩:∃ w2,w1.drew=w2:=⟨_,rfl⟩
 have hb2:Below w1.heap.size w1 w2:=by rw [← hw2];exact Go.below_drewN (Below.refl _ _) 1
 have HW2:=Lib.hid (HW1.out.below hb2)
 have K2:=Lib.hid (Kp.trans K1.out hB1.size (Kp.below hb2))
 have hshp:Shp (setC W k { c with joined:=true }) W.cl.length:=⟨setC_len _ _ _,hul,hdl⟩
 obtain ⟨gc',gu',gd',cc',cu',cd',c',b',n',s',hh',uq',dq',H2⟩:=HW2.out.facts (k:=k) (by rw [hshp.cl];exact hk) (by rw [hshp.ul,hshp.cl]) (by rw [hshp.dl,hshp.cl])
 have evc:=HF.out.vc.symm.trans H2.vc
 simp [setC_len] at evc
 obtain ⟨rfl,rfl⟩:=evc
 have ec':c'={ c with joined:=true }:=by have e:=getD_some (d:=cl0) H2.hc;rw [← e];exact setC_at hk _
 subst ec'
 obtain ⟨aa,ac,la,lc,na,nc,_,s1,_,_⟩:=HW2.out.srv
 have y3:=H2.b3
 rw [setC_len] at y3
 have Q2:w2.cell? ⟨g,1,none⟩=some (.slice la W.s.log.length lc)∧w2.cell? ⟨g,3,none⟩=some (.slice (some ⟨gc,0,none⟩) W.cl.length cc)∧w2.cell? ⟨gc,k * 7,none⟩=some (.int .i64 c.rev):=⟨s1,y3,H2.c0⟩
 have hBs:B≤w1.heap.size:=by have:=h.out.gB;obtain ⟨_,kg⟩:=HF.out.kg;have:=lt_of_heap kg;have:=hB1.size;omega
 have hB2:=Lib.hid (hB1.trans (hb2.mono hBs))
 have hmin:min c.rev (W.s.log.length:Int)=((min c.rev.toNat W.s.log.length:Nat):Int):=by omega
 clear H2 s1 y3
 obtain ⟨i0,hi0⟩:∃ i0,min c.rev.toNat W.s.log.length=i0:=⟨_,rfl⟩
 rw [hi0] at hmin
 have hi0l:i0≤W.s.log.length:=by omega
 rw [hi0] at hV
 refine wp_region_held (S:=fun w'=>w'.cell? ⟨g,1,none⟩=some (.slice la W.s.log.length lc)∧w'.cell? ⟨g,3,none⟩=some (.slice (some ⟨gc,0,none⟩) W.cl.length cc)∧w'.cell? ⟨gc,k * 7,none⟩=some (.int .i64 c.rev)) (by kernel_rfl) ?_
 show wpAnyH _ _ _ _ _ _ _ _ (World.drew _)
 rw [hw2]
 clear hw2
 refine tD 0 21 (v:=?_) Q2 ?_ ?_
 rotate_left
 ·(intro w' hw';obtain ⟨p1,p3,p0⟩:=hw';go_simp;try with_reducible rfl)
 simp only [List.set_cons_zero,List.set_cons_succ]
 refine tD 1 22 (v:=?_) Q2 ?_ ?_
 rotate_left
 ·(intro w' hw';obtain ⟨p1,p3,p0⟩:=hw';go_simp;try with_reducible rfl)
 simp only [List.set_cons_zero,List.set_cons_succ]
 refine tD 2 23 (v:=?_) Q2 ?_ ?_
 rotate_left
 ·(intro w' hw';obtain ⟨p1,p3,p0⟩:=hw';go_simp;try with_reducible rfl)
 simp only [List.set_cons_zero,List.set_cons_succ]
 refine tD 3 24 (v:=?_) Q2 ?_ ?_
 rotate_left
 ·(intro w' hw';obtain ⟨p1,p3,p0⟩:=hw';go_simp;try with_reducible rfl)
 simp only [List.set_cons_zero,List.set_cons_succ]
 refine tD 4 25 (v:=?_) Q2 ?_ ?_
 rotate_left
 ·(intro w' hw';obtain ⟨p1,p3,p0⟩:=hw';go_simp;try with_reducible rfl)
 simp only [List.set_cons_zero,List.set_cons_succ]
 refine tD 5 26 (v:=?_) Q2 ?_ ?_
 rotate_left
 ·(intro w' hw';obtain ⟨p1,p3,p0⟩:=hw';go_simp;try with_reducible rfl)
 simp only [List.set_cons_zero,List.set_cons_succ]
 refine tD 6 27 (v:=?_) Q2 ?_ ?_
 rotate_left
 ·(intro w' hw';obtain ⟨p1,p3,p0⟩:=hw';go_simp;try with_reducible rfl)
 simp only [List.set_cons_zero,List.set_cons_succ]
 refine tD 7 28 (v:=?_) Q2 ?_ ?_
 rotate_left
 ·(intro w' hw';obtain ⟨p1,p3,p0⟩:=hw';go_simp;try with_reducible rfl)
 simp only [List.set_cons_zero,List.set_cons_succ]
 refine tD 8 29 (v:=?_) Q2 ?_ ?_
 rotate_left
 ·(intro w' hw';obtain ⟨p1,p3,p0⟩:=hw';go_simp;try with_reducible rfl)
 simp only [List.set_cons_zero,List.set_cons_succ]
 refine tD 9 30 (v:=?_) Q2 ?_ ?_
 rotate_left
 ·(intro w' hw';obtain ⟨p1,p3,p0⟩:=hw';go_simp;try with_reducible rfl)
 simp only [List.set_cons_zero,List.set_cons_succ]
 refine tD 10 31 (v:=?_) Q2 ?_ ?_
 rotate_left
 ·(intro w' hw';obtain ⟨p1,p3,p0⟩:=hw';go_simp;try with_reducible rfl)
 simp only [List.set_cons_zero,List.set_cons_succ]
 refine tD 11 32 (v:=?_) Q2 ?_ ?_
 rotate_left
 ·(intro w' hw';obtain ⟨p1,p3,p0⟩:=hw';go_simp;try with_reducible rfl)
 simp only [List.set_cons_zero,List.set_cons_succ]
 refine tD 12 33 (v:=?_) Q2 ?_ ?_
 rotate_left
 ·(intro w' hw';obtain ⟨p1,p3,p0⟩:=hw';go_simp;try with_reducible rfl)
 simp only [List.set_cons_zero,List.set_cons_succ]
 refine tD 13 34 (v:=?_) Q2 ?_ ?_
 rotate_left
 ·(intro w' hw';obtain ⟨p1,p3,p0⟩:=hw';go_simp;try with_reducible rfl)
 simp only [List.set_cons_zero,List.set_cons_succ]
 refine tD 14 35 (v:=?_) Q2 ?_ ?_
 rotate_left
 ·(intro w' hw';obtain ⟨p1,p3,p0⟩:=hw';go_simp;try with_reducible rfl)
 simp only [List.set_cons_zero,List.set_cons_succ]
 refine tD 15 5 (v:=?_) Q2 ?_ ?_
 rotate_left
 ·(intro w' hw';obtain ⟨p1,p3,p0⟩:=hw';go_simp;try with_reducible rfl)
 simp only [List.set_cons_zero,List.set_cons_succ]
 refine wpAnyH_done (by kernel_rfl) ?_ _
 clear Q2 hmin
 have hI0:=Lib.hid (show (∃ l',WAt B g l' w2 (setC W k { c with joined:=true })∧Kp (l.N g) (l'.N g) w w2)∧Shp (setC W k { c with joined:=true }) W.cl.length∧(setC W k { c with joined:=true }).s=W.s∧opSm (clAt (setC W k { c with joined:=true }) k).sent∧Below B w2 w2 from ⟨⟨_,HW2.out,K2.out⟩,hshp,rfl,by rw [setC_at hk];exact hsm.out,Below.refl _ _⟩)
 clear hi0 hshp
 go_wp2_with fail
 go_loopw [5] (fun i wr=>∃ (j:Nat) (V':Wd),j≤W.s.log.length∧i=.int .i64 j∧Hid (tell V' k j (W.s.log.drop j)=tell (setC W k { c with joined:=true }) k i0 (W.s.log.drop i0))∧Hid ((∃ l',WAt B g l' wr V'∧Kp (l.N g) (l'.N g) w wr)∧Shp V' W.cl.length∧V'.s=W.s∧opSm (clAt V' k).sent∧Below B w2 wr)) (fun i _=>W.s.log.length - (intOf i).toNat)
 case atStart=>exact ⟨i0,_,hi0l,rfl,Lib.hid rfl,hI0⟩
 case round =>
  obtain ⟨j,V',hj',rfl,hd,hI⟩:=hrel
  obtain ⟨⟨l',hW',hkp⟩,hsh,hs,hsm',hBr⟩:=hI.out
  have hkp:=Lib.hid hkp
  have hszr:=Nat.le_trans hB2.out.size hBr.size
  obtain ⟨aa',ac',la',lc',na',nc',_,s1,_,hsr⟩:=hW'.srv
  rw [hs] at s1
  by_cases hlt:j < W.s.log.length
  ·obtain ⟨x,hx⟩:∃ x,W.s.log[j]?=some x:=⟨_,List.getElem?_eq_getElem hlt⟩
   obtain ⟨_,_,_,e0,_,r2,_⟩:=hsr
   cases e0
   rw [hs] at r2
   obtain ⟨b1,o1,ov,e1',hr1,c0,c1,c2⟩:=RLog.at r2 (Below.refl _ _) hx
   subst e1'
   obtain ⟨oa',oc',rfl,_⟩:=RdS.len hr1
   have C:=Lib.hid (wdDown_any B g l' _ V' k ⟨(j:Int)+1,x⟩ (.slice oa' x.o.length oc') hW' (by rw [hsh.cl];exact hk) (by rw [hsh.ul,hsh.cl]) (by rw [hsh.dl,hsh.cl]) hr1 (hlog.out.2 x (List.mem_of_getElem? hx)))
   have hst:=Lib.hid (show tell V' k j (W.s.log.drop j)=tell (downW V' k ⟨(j:Int)+1,x⟩) k (j+1) (W.s.log.drop (j+1)) by
    rw [List.drop_eq_getElem_cons hlt,show W.s.log[j]=x by rw [List.getElem?_eq_getElem hlt] at hx;simpa using hx]
    rfl)
   have hsh2:=Lib.hid (downW_shp (k:=k) hsh ⟨(j:Int)+1,x⟩)
   have hsm2:=Lib.hid (show opSm (clAt (downW V' k ⟨(j:Int)+1,x⟩) k).sent by
    have e:{ clAt (downW V' k ⟨(j:Int)+1,x⟩) k with joined:=(clAt V' k).joined }=clAt V' k:=(downW_J (w:=V') (k:=k) ⟨(j:Int)+1,x⟩).cl k
    have e1:=congrArg Cl.sent e
    have e2:(clAt (downW V' k ⟨(j:Int)+1,x⟩) k).sent=(clAt V' k).sent:=e1
    rw [e2];exact hsm')
   have hB':=Lib.hid hBr
   have hs':=Lib.hid hs
   have h60:=hlog.out.1
   clear hW' r2 hr1 hx hsm' hI hsh hs hBr
   go_wp2_with fail
   refine C.out.mono ?_
   rintro e w11 ⟨rfl,⟨l3,hW3,hkp3⟩,hb11⟩
   have hI3:=Lib.hid (show (∃ l',WAt B g l' w11 (downW V' k ⟨(j:Int)+1,x⟩)∧Kp (l.N g) (l'.N g) w w11)∧Shp (downW V' k ⟨(j:Int)+1,x⟩) W.cl.length∧(downW V' k ⟨(j:Int)+1,x⟩).s=W.s∧opSm (clAt (downW V' k ⟨(j:Int)+1,x⟩) k).sent∧Below B w2 w11 from ⟨⟨l3,hW3,Kp.trans hkp.out hszr hkp3⟩,hsh2.out.1,hsh2.out.2.trans hs'.out,hsm2.out,hB'.out.trans hb11⟩)
   have hd3:=Lib.hid (hst.out.symm.trans hd.out)
   clear C hW3 hb11 hkp3 c0 c1 c2 s1
   go_wp2
   go_roundw
   case rel=>exact ⟨j+1,_,by omega,by go_num,hd3,hI3⟩
   case measure=>simp [intOf];omega
  ·obtain rfl:j=W.s.log.length:=by omega
   have hV2:(V,E)=(upW V' k,0):=by
    rw [← hV.out,← hd.out,List.drop_length]
    rfl
   cases hV2
   have C:=Lib.hid (wdUp_any B g l' _ V' k hW' (by rw [hsh.cl];exact hk) (by rw [hsh.ul,hsh.cl]) (by rw [hsh.dl,hsh.cl]) hsm')
   have hB':=Lib.hid hBr
   clear hW' hsr hd hI hsh hs hsm' hBr
   go_wp2_with fail
   refine C.out.mono ?_
   rintro e w11 ⟨rfl,⟨l3,hl,hkp3⟩,hb11⟩
   go_wp2_with fail
   go_ret
   exact ⟨rfl,⟨l3,hl,Kp.trans hkp.out hszr hkp3⟩,(hB2.out.trans hB'.out).trans hb11⟩
end Go.Proofs.YteikncnldbdfmaaGreatDoor
