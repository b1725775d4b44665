import Derived.Test.YteikncnldbdfmaaGreatDoorMBr
namespace Go.Mh
open Go.RowKit
def kdOf:Nat→Int
 | 0=>6
 | 1=>3
 | _=>4
def pw (pg:Bs→List It × Int) (k:Nat):Nat→Wd→Wd
 | 0,w=>w
 | j+1,w=>rep (doW pg · (hapK (kdOf j) k)) 70 (pw pg k j w)
theorem pw3 (pg:Bs→List It × Int) (k:Nat) (w:Wd):pw pg k 3 w=passW pg k w:=rfl
end Go.Mh
namespace Go.Proofs.YteikncnldbdfmaaGreatDoor
open Go Go.RowKit Go.Mh
structure CAtW (Z:Nat→Prop) (w wr:World) (V:Wd):Prop where
 ex:∃ (a1:Option Addr) (a2:Nat) (l1:Option Addr) (l2:Nat) (n1:Option Addr) (n2:Nat) (c1:Option Addr) (c2:Nat) (u1:Option Addr) (u2:Nat) (d1:Option Addr) (d2:Nat),wr.heap[w.heap.size]?=some (.cells #[.slice a1 V.s.first.length a2,.slice l1 V.s.log.length l2,.slice n1 V.s.now.length n2,.slice c1 V.cl.length c2,.slice u1 V.up.length u2,.slice d1 V.down.length d2] TW (0,0))∧RWd (fun k=>¬ (k=w.heap.size+1∨k=w.heap.size∨Z k)) wr (.agg #[.slice a1 V.s.first.length a2,.slice l1 V.s.log.length l2,.slice n1 V.s.now.length n2,.slice c1 V.cl.length c2,.slice u1 V.up.length u2,.slice d1 V.down.length d2]) V
 z:wr.heap[w.heap.size+1]?=some wdZero
 hb:Below w.heap.size w wr
 hI:Inv V
theorem CAtW.below {Z:Nat→Prop} {w wr w':World} {V:Wd} (h:CAtW Z w wr V) (hb:Below wr.heap.size wr w'):CAtW Z w w' V:=by
 obtain ⟨a1,a2,l1,l2,n1,n2,c1,c2,u1,u2,d1,d2,e,r⟩:=h.ex
 exact ⟨⟨a1,a2,l1,l2,n1,n2,c1,c2,u1,u2,d1,d2,(hb.block _ (lt_of_heap e)).trans e,RWd.to r (Kp.below hb)⟩,(hb.block _ (lt_of_heap h.z)).trans h.z,btr h.hb hb,h.hI⟩
set_option maxRecDepth 100000 in
set_option maxHeartbeats 8000000 in
theorem calm_anyZ (Z:Nat→Prop) (v:Value) (W:Wd) (w:World) (hZ:∀ z,Z z→z < w.heap.size∧NoIt w z) (h:RWd (fun k=>¬ Z k) w v W) (hI:Inv W) (hm:∃ m,w.cell? ⟨2,0,none⟩=some (.int .i64 m)) :
  Calls Tryz.prog 29 #[v] w fun e w'=>∃ r,e=.returned r∧RWd (fun k=>¬ Z k) w' r (calmN sanP 8 W)∧Below w.heap.size w w':=by
 have h:=RWd.to h (Kp.lt w)
 obtain ⟨a1,a2,l1,l2,n1,n2,c1,c2,u1,u2,d1,d2,rfl⟩:=RWd.shape h
 obtain ⟨w1,hw1⟩:∃ w1,w1=(w.alloc (.cells #[.slice a1 W.s.first.length a2,.slice l1 W.s.log.length l2,.slice n1 W.s.now.length n2,.slice c1 W.cl.length c2,.slice u1 W.up.length u2,.slice d1 W.down.length d2] 30)).alloc wdZero:=⟨_,rfl⟩
 have hb1:Below w.heap.size w w1:=by rw [hw1];exact bal (bal (brf w) _) _
 have A1:CAtW Z w w1 W:=by
  refine ⟨⟨a1,a2,l1,l2,n1,n2,c1,c2,u1,u2,d1,d2,by rw [hw1];exact heap_at2 rfl,RWd.to h fun k hk _=>⟨by rintro (h | h | h);(have:=hk.2;omega);(have:=hk.2;omega);exact hk.1 h,hb1.block k hk.2⟩⟩,by rw [hw1];exact heap_at (by simp),hb1,hI⟩
 obtain ⟨Wf,hWf⟩:∃ Wf,Hid (calmN sanP 8 W=Wf):=⟨_,Lib.hid rfl⟩
 rw [hWf.out]
 replace A1:=Lib.hid A1
 replace hm:=Lib.hid hm
 clear h hI hb1
 go_enter Tryz.func29,Tryz.ntmps29
 go_upto_region 1 with fail
 rw [← hw1]
 clear hw1
 go_wp2_with fail
 go_loopw [8] (fun i wr=>∃ (i1:Nat) (V:Wd),i1≤8∧i=.int .i64 i1∧Hid (CAtW Z w wr V)∧Hid (calmN sanP (8 - i1) V=Wf)) (fun i _=>8 - (intOf i).toNat)
 case atStart=>exact ⟨0,W,by omega,rfl,A1,hWf⟩
 case round =>
  clear A1 hWf
  obtain ⟨i1,V1,hi1,rfl,A1,hWf⟩:=hrel
  obtain ⟨a1,a2,l1,l2,n1,n2,c1,c2,u1,u2,d1,d2,E1,R1⟩:=A1.out.ex
  obtain ⟨x0,x1,x2,x3,x4,x5⟩:=P6.of E1
  by_cases hl1:i1 < 8
  ·have hl1':=Lib.hid hl1
   have t1:decide ((i1:Int) < 8)=true:=by simp;omega
   have hi1':=Lib.hid hi1
   clear E1 R1 hi1
   go_wp2_with fail
   go_loopw [13] (fun i wr=>∃ (k:Nat) (V:Wd),k≤V1.cl.length∧i=.int .i64 k∧Hid (CAtW Z w wr V)∧Hid (V=passes sanP V1 k)) (fun i _=>V1.cl.length - (intOf i).toNat)
   case atStart=>exact ⟨0,V1,by omega,rfl,A1,Lib.hid rfl⟩
   case round =>
    clear x0 x1 x2 x3 x4 x5
    have hV4:V1.cl.length≤4:=A1.out.hI.n4
    obtain ⟨k,V2,hk,rfl,A2,hp⟩:=hrel
    obtain ⟨wo,hwo⟩:∃ wo,wo=wr:=⟨_,rfl⟩
    subst hwo
    by_cases hl2:k < V1.cl.length
    ·have t2:decide (k < V1.cl.length)=true:=by simpa using hl2
     obtain ⟨w3,hw3⟩:∃ w3,w3=wo.alloc (.cells #[.int .i64 6,.int .i64 3,.int .i64 4] 3):=⟨_,rfl⟩
     have hb3:Below wo.heap.size wo w3:=by rw [hw3];exact bal (brf wo) _
     have K3:=heap_new wo (.cells #[.int .i64 6,.int .i64 3,.int .i64 4] 3)
     rw [← hw3] at K3
     obtain ⟨gk,hgk⟩:∃ gk,gk=wo.heap.size:=⟨_,rfl⟩
     rw [← hgk] at K3
     have hgk1:w.heap.size+1 < gk:=by rw [hgk];exact lt_of_heap A2.out.z
     have A3:=Lib.hid (A2.out.below hb3)
     replace K3:=Lib.hid K3
     have hl2':=Lib.hid hl2
     have hk':=Lib.hid hk
     have hV4':=Lib.hid hV4
     clear hb3 A2 A1 hk hl1 hl2 hV4
     go_upto_region 7 with fail
     rw [← hw3,← hgk]
     clear hw3 hgk
     go_loopw [18] (fun i wr=>∃ (j:Nat) (V:Wd),j≤3∧i=.int .i64 j∧Hid (CAtW Z w wr V)∧Hid (V=pw sanP k j V2)∧Hid (wr.heap[gk]?=some (.cells #[.int .i64 6,.int .i64 3,.int .i64 4] 3 (0,0)))) (fun i _=>3 - (intOf i).toNat)
     case atStart=>exact ⟨0,V2,by omega,rfl,A3,Lib.hid rfl,K3⟩
     case round =>
      clear A3 K3
      obtain ⟨j,V3,hj,rfl,A3,hpw,K3⟩:=hrel
      by_cases hl3:j < 3
      ·have t3:decide ((j:Int) < 3)=true:=by simp;omega
       have hkd:wr.cell? ⟨gk,j,none⟩=some (.int .i64 (kdOf j)):=by
        have K:=K3.out
        match j,hl3 with
        | 0,_=>exact cellOf (i:=0) K rfl
        | 1,_=>exact cellOf (i:=1) K rfl
        | 2,_=>exact cellOf (i:=2) K rfl
       obtain ⟨kd,hkd'⟩:∃ kd,Hid (kd=kdOf j):=⟨_,Lib.hid rfl⟩
       rw [← hkd'.out] at hkd
       have hl3':=Lib.hid hl3
       have hj':=Lib.hid hj
       clear hj
       go_wp2_with fail
       obtain ⟨V5,hV5⟩:∃ V5,Hid (rep (doW sanP · (hapK kd k)) 70 V3=V5):=⟨_,Lib.hid rfl⟩
       have hV0:=hV5
       go_loopw [22] (fun i wr=>∃ (i4:Nat) (V:Wd),i4≤70∧i=.int .i64 i4∧Hid (CAtW Z w wr V)∧Hid (rep (doW sanP · (hapK kd k)) (70 - i4) V=V5)∧Hid (wr.heap[gk]?=some (.cells #[.int .i64 6,.int .i64 3,.int .i64 4] 3 (0,0)))) (fun i _=>70 - (intOf i).toNat)
       case atStart=>exact ⟨0,V3,by omega,rfl,A3,hV5,K3⟩
       case round =>
        clear A3 K3 hkd hV5
        obtain ⟨i4,V,hi4,rfl,A4,hV5,K4⟩:=hrel
        obtain ⟨w5,hw5⟩:∃ w5,w5=wr:=⟨_,rfl⟩
        subst hw5
        have hj1:=hl3'.out
        by_cases hl4:i4 < 70
        ·obtain ⟨a1,a2,l1,l2,n1,n2,c1,c2,u1,u2,d1,d2,E4,R4⟩:=A4.out.ex
         have Hg5:=Lib.hid E4
         have Hz5:=Lib.hid A4.out.z
         have Hv5:=Lib.hid R4
         have HB5:=Lib.hid A4.out.hb
         have hl4':=Lib.hid hl4
         clear E4 R4
         have x05:=P6.of Hg5.out
         obtain ⟨x0,x1,x2,x3,x4,x5⟩:=x05
         have CD:=wdDo_anyZ (fun _=>True) (fun k=>k=w.heap.size+1∨k=w.heap.size∨Z k) _ (.agg #[.int .i64 kd,.int .i64 (k:Int),.int .i64 0,.slice none 0 0,.slice none 0 0]) V (hapK kd k) w5 (fun z hz=>by
          rcases hz with rfl | rfl | hz
          ·exact ⟨lt_of_heap Hz5.out,NoIt.zero6 Hz5.out⟩
          ·exact ⟨lt_of_heap Hg5.out,NoIt.six Hg5.out⟩
          ·exact ⟨Nat.lt_of_lt_of_le (hZ z hz).1 HB5.out.size,NoIt.below (hZ z hz).2 (hZ z hz).1 HB5.out⟩) (RWd.to Hv5.out fun k _ _=>⟨trivial,rfl⟩) ⟨none,0,none,0,rfl,RdS.nil,RdS.nil⟩ (max_keep hm.out HB5.out)
         obtain ⟨⟨V',E⟩,hdo⟩:∃ q,doW sanP V (hapK kd k)=q:=⟨_,rfl⟩
         rw [hdo] at CD
         replace CD:=Lib.hid CD
         replace hdo:=Lib.hid hdo
         go_wp2_with fail
         refine CD.out.mono ?_
         rintro e wd ⟨v',rfl,hv0,hbd⟩
         obtain ⟨a1',a2',l1',l2',n1',n2',c1',c2',u1',u2',d1',d2',rfl⟩:=RWd.shape hv0
         obtain ⟨wc,hwc⟩:∃ wc,wc=wd.alloc (.cells #[.slice a1' V'.s.first.length a2',.slice l1' V'.s.log.length l2',.slice n1' V'.s.now.length n2',.slice c1' V'.cl.length c2',.slice u1' V'.up.length u2',.slice d1' V'.down.length d2'] 30):=⟨_,rfl⟩
         have hbc:Below wd.heap.size wd wc:=by rw [hwc];exact bal (brf wd) _
         have EG:=heap_new wd (.cells #[.slice a1' V'.s.first.length a2',.slice l1' V'.s.log.length l2',.slice n1' V'.s.now.length n2',.slice c1' V'.cl.length c2',.slice u1' V'.up.length u2',.slice d1' V'.down.length d2'] 30)
         rw [← hwc] at EG
         have SB:=btr hbd hbc
         have hGle:=hbd.size
         have hv':=RWd.to (F':=fun k=>¬ (k=w.heap.size+1∨k=w.heap.size∨Z k)) (RWd.to hv0 (Kp.lt wd)) (fun k hk _=>⟨hk.1,hbc.block k hk.2⟩)
         replace hv':=Lib.hid hv'
         replace EG:=Lib.hid EG
         clear CD x0 x1 x2 x3 x4 x5 hv0
         go_upto_region 12 with fail
         rw [← hwc]
         clear hwc
         replace hdo:=hdo.out
         replace EG:=EG.out
         replace hv':=hv'.out
         have Hgc:=(SB.block _ (lt_of_heap Hg5.out)).trans Hg5.out
         have Hzc:=(SB.block _ (lt_of_heap Hz5.out)).trans Hz5.out
         have Kc:=(SB.block _ (lt_of_heap K4.out)).trans K4.out
         have HBc:=btr HB5.out SB
         have hgw:=lt_of_heap Hg5.out
         by_cases he:E=0
         ·subst he
          have hI':Inv V':=by
           have:=(inv_do (pg:=sanP) (x:=hapK kd k) A4.out.hI).2
           rw [hdo] at this
           exact this rfl
          have hV6:rep (doW sanP · (hapK kd k)) (70 - (i4+1)) V'=V5:=by
           have e:=hV5.out
           rw [show 70 - i4=(70 - (i4+1))+1 by omega,rep,hdo] at e
           simpa using e
          obtain ⟨x0,x1,x2,x3,x4,x5⟩:=P6.of EG
          obtain ⟨z0,z1,z2,z3,z4,z5⟩:=P6.of Hgc
          have fzg:∀ i,wc.frozen? ⟨w.heap.size,i,none⟩=false:=fun i=>Lib.frozen_of_heap Hgc _
          replace hI':=Lib.hid hI'
          replace hdo:=Lib.hid hdo
          replace hV6:=Lib.hid hV6
          go_upto_region 14 with fail
          obtain ⟨q1,q2,q3⟩:=set6 Hgc rfl (.slice a1' V'.s.first.length a2') (.slice l1' V'.s.log.length l2') (.slice n1' V'.s.now.length n2') (.slice c1' V'.cl.length c2') (.slice u1' V'.up.length u2') (.slice d1' V'.down.length d2')
          have hv8:=RWd.to (F':=fun k=>¬ (k=w.heap.size+1∨k=w.heap.size∨Z k)) hv' (fun k hk _=>⟨hk,q2 k fun h=>hk (Or.inr (Or.inl h))⟩)
          have Hz8:=(q2 (w.heap.size+1) (by omega)).trans Hzc
          have K8:=Lib.hid ((q2 gk (by omega)).trans Kc)
          have HB8:=HBc.trans (q3 _ (Nat.le_refl _))
          generalize hwz:((((((wc.setCell ⟨w.heap.size,0,none⟩ _).setCell ⟨w.heap.size,1,none⟩ _).setCell ⟨w.heap.size,2,none⟩ _).setCell ⟨w.heap.size,3,none⟩ _).setCell ⟨w.heap.size,4,none⟩ _).setCell ⟨w.heap.size,5,none⟩ _)=w8 at *
          have A8:Hid (CAtW Z w w8 V'):=Lib.hid ⟨⟨_,_,_,_,_,_,_,_,_,_,_,_,q1,hv8⟩,Hz8,HB8,hI'.out⟩
          have hl5:=hl4'.out
          clear q1 q2 q3 hv8 Hz8 HB8 x0 x1 x2 x3 x4 x5 z0 z1 z2 z3 z4 z5 fzg hwz
          go_wp2_with fail
          go_roundw
          case rel=>exact ⟨i4+1,V',by omega,by go_num,A8,hV6,K8⟩
          case measure=>simp [intOf];omega
         ·have he':(E != 0)=true:=by simpa using he
          have hV6:V=V5:=by
           have e:=hV5.out
           rw [show 70 - i4=(70 - (i4+1))+1 by omega,rep,hdo] at e
           simpa [he] using e
          have A8:Hid (CAtW Z w wc V):=Lib.hid (A4.out.below SB)
          replace hV6:=Lib.hid hV6
          replace hdo:=Lib.hid hdo
          go_wp2_with fail
          go_roundw
          case rel=>exact ⟨j+1,V,by omega,by go_num,A8,Lib.hid (by rw [hV6.out,← hV0.out,hkd'.out,hpw.out];rfl),Lib.hid Kc⟩
          case measure=>simp [intOf];omega
        ·obtain rfl:i4=70:=by omega
         have he:V=V5:=by have:=hV5.out;simpa [rep] using this
         replace he:=Lib.hid he
         go_wp2_with fail
         exact ⟨⟨j+1,V,by omega,by go_num,A4,Lib.hid (by rw [he.out,← hV0.out,hkd'.out,hpw.out];rfl),K4⟩,by simp [intOf];omega⟩
      ·obtain rfl:j=3:=by omega
       have hk1:=hl2'.out
       have hk4:=hV4'.out
       go_wp2_with fail
       exact ⟨⟨k+1,V3,by omega,by go_num,A3,Lib.hid (by rw [hpw.out,pw3,hp.out];rfl)⟩,by simp [intOf];omega⟩
    ·obtain rfl:k=V1.cl.length:=by omega
     have h8:=hl1'.out
     go_wp2_with fail
     exact ⟨⟨i1+1,V2,by omega,by go_num,A2,Lib.hid (by
      have e:=hWf.out
      rw [show 8 - i1=(8 - (i1+1))+1 by omega,calmN,← hp.out] at e
      exact e)⟩,by simp [intOf];omega⟩
  ·obtain rfl:i1=8:=by omega
   obtain ⟨z0,z1,z2,z3,z4,z5⟩:=P6.of A1.out.z
   have fzz:∀ i,wr.frozen? ⟨w.heap.size+1,i,none⟩=false:=fun i=>Lib.frozen_of_heap A1.out.z _
   go_wp2
   obtain ⟨q1,q2,q3⟩:=set6 A1.out.z rfl (.slice a1 V1.s.first.length a2) (.slice l1 V1.s.log.length l2) (.slice n1 V1.s.now.length n2) (.slice c1 V1.cl.length c2) (.slice u1 V1.up.length u2) (.slice d1 V1.down.length d2)
   generalize hwz:((((((wr.setCell ⟨w.heap.size+1,0,none⟩ _).setCell ⟨w.heap.size+1,1,none⟩ _).setCell ⟨w.heap.size+1,2,none⟩ _).setCell ⟨w.heap.size+1,3,none⟩ _).setCell ⟨w.heap.size+1,4,none⟩ _).setCell ⟨w.heap.size+1,5,none⟩ _)=wz at *
   obtain ⟨t0,t1,t2,t3,t4,t5⟩:=P6.of q1
   have e:V1=Wf:=by have:=hWf.out;simpa [calmN] using this
   subst e
   exact bodyPost_ret (v:=.agg #[.slice a1 V1.s.first.length a2,.slice l1 V1.s.log.length l2,.slice n1 V1.s.now.length n2,.slice c1 V1.cl.length c2,.slice u1 V1.up.length u2,.slice d1 V1.down.length d2]) (by simp [results,Tryz.results29,go_sem,t0,t1,t2,t3,t4,t5]) rfl ⟨_,rfl,RWd.to R1 (fun k hk _=>⟨fun h=>hk (Or.inr (Or.inr h)),q2 k fun h=>hk (Or.inl h)⟩),A1.out.hb.trans (q3 _ (by omega))⟩
end Go.Proofs.YteikncnldbdfmaaGreatDoor
