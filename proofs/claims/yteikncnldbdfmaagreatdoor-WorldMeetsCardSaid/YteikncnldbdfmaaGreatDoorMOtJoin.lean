import Derived.Test.YteikncnldbdfmaaGreatDoorMOtC
import Derived.Test.YteikncnldbdfmaaGreatDoorMMem
import Derived.Test.YteikncnldbdfmaaGreatDoorMDoc
import Derived.Deep.RegionHeld3
import Derived.Deep.DeepFit
namespace Go.Proofs.YteikncnldbdfmaaGreatDoor
open Go.RowKit Go.Mh
theorem made_join {a b X:List Pt} (hX:Lok X) (h:acts X=joinA (acts a) (acts b)) (ha:chkOp a=0) (hb:chkOp b=0) (hf:too (acts a)=frm (acts b)):(if chkOp (madeP X)≠0 then ([],chkOp (madeP X)) else (madeP X,0))=joinP a b:=by
 simp only [joinP,ha,hb,hf,hX.made,h]
 simp
set_option maxRecDepth 100000 in
set_option maxHeartbeats 8000000 in
theorem otJoin_any (F G:Nat→Prop) (v u:Value) (a b:List Pt) (w:World) (h:ROp F w v a) (g:ROp G w u b) :
  Calls Tryz.prog 194 #[v,u] w fun e w'=>∃ r,e=.returned (.tuple #[r,.int .i64 (joinP a b).2])∧ROp (Fr 58 w.heap.size w') w' r (joinP a b).1∧Below w.heap.size w w':=by
 obtain ⟨aa,ac,rfl,_⟩:=RdS.len h
 obtain ⟨ba,bc,rfl,_⟩:=RdS.len g
 have H:=Lib.hid h
 have G':=Lib.hid g
 clear h g
 have hres:∃ r,Hid (joinP a b=r):=⟨_,Lib.hid rfl⟩
 obtain ⟨⟨P1,P2⟩,hres⟩:=hres
 rw [hres.out]
 go_enter Tryz.func194,Tryz.ntmps194
 have i0:=fun w=>idx2_0 (.slice aa a.length ac) (.slice ba b.length bc) w
 have i1:=fun w=>idx2_1 (.slice aa a.length ac) (.slice ba b.length bc) w
 go_wp2
 go_loopw [32] (fun i wr=>∃ k:Nat,k≤2∧i=.int .i64 k∧Below w.heap.size w wr∧Hid (1≤k→chkOp a=0)∧Hid (2≤k→chkOp b=0)) (fun i _=>2 - (intOf i).toNat)
 case atStart=>exact ⟨0,by omega,rfl,Below.refl _ _,Lib.hid (fun h=>by omega),Lib.hid (fun h=>by omega)⟩
 case round =>
  obtain ⟨k,hk,rfl,hbr,q1,q2⟩:=hrel
  rcases (by omega:k=0∨k=1∨k=2) with rfl | rfl | rfl
  ·by_cases hc:chkOp a=0
   ·have K:=Lib.hid (opCheck_any _ _ a _ (ROp.to H.out (Kp.below hbr)))
    rw [hc] at K
    have hc':=Lib.hid hc
    clear hc q1 q2
    go_wp2_with fail
    refine K.out.mono ?_
    rintro e w3 ⟨rfl,hb3⟩
    go_wp2
    go_roundw
    case rel=>exact ⟨1,by omega,rfl,hbr.trans (hb3.mono hbr.size),Lib.hid fun _=>hc'.out,Lib.hid fun h=>by omega⟩
    case measure=>simp [intOf]
   ·have hr3:=hres.out
    rw [joinP,if_pos hc] at hr3
    cases hr3
    have K:=Lib.hid (opCheck_any _ _ a _ (ROp.to H.out (Kp.below hbr)))
    have hc':(chkOp a != 0)=true:=by simpa using hc
    clear hc q1 q2 hres
    go_wp2_with fail
    refine K.out.mono ?_
    rintro e w3 ⟨rfl,hb3⟩
    go_wp2
    go_ret2
    exact ⟨.slice none 0 0,rfl,RdS.nil,hbr.trans (hb3.mono hbr.size)⟩
  ·have hcX:=q1.out (by omega)
   by_cases hc:chkOp b=0
   ·have K:=Lib.hid (opCheck_any _ _ b _ (ROp.to G'.out (Kp.below hbr)))
    rw [hc] at K
    have hc':=Lib.hid hc
    clear hc hcX q2
    go_wp2_with fail
    refine K.out.mono ?_
    rintro e w3 ⟨rfl,hb3⟩
    go_wp2
    go_roundw
    case rel=>exact ⟨2,by omega,rfl,hbr.trans (hb3.mono hbr.size),Lib.hid fun _=>q1.out (by omega),Lib.hid fun h=>hc'.out⟩
    case measure=>simp [intOf]
   ·have hr3:=hres.out
    rw [joinP,if_neg (by simpa using hcX),if_pos hc] at hr3
    cases hr3
    have K:=Lib.hid (opCheck_any _ _ b _ (ROp.to G'.out (Kp.below hbr)))
    have hc':(chkOp b != 0)=true:=by simpa using hc
    clear hc q1 q2 hres hcX
    go_wp2_with fail
    refine K.out.mono ?_
    rintro e w3 ⟨rfl,hb3⟩
    go_wp2
    go_ret2
    exact ⟨.slice none 0 0,rfl,RdS.nil,hbr.trans (hb3.mono hbr.size)⟩
  ·have hca:=Lib.hid (q1.out (by omega))
   have hcb:=Lib.hid (q2.out (by omega))
   have oka:=Lib.hid (chkOp_ok hca.out)
   have okb:=Lib.hid (chkOp_ok hcb.out)
   clear q1 q2 hk
   go_wp2_with fail
   refine (opLong_any F _ a wr (ROp.to H.out (Kp.below hbr))).mono ?_
   rintro e w3 ⟨rfl,hb3⟩
   rw [oka.out.longs]
   have hB3:=hbr.trans (hb3.mono hbr.size)
   clear hb3 hbr
   go_wp2_with fail
   refine (opLong_any G _ b w3 (ROp.to G'.out (Kp.below hB3))).mono ?_
   rintro e w4 ⟨rfl,hb4⟩
   rw [okb.out.longs]
   have hB4:=hB3.trans (hb4.mono hB3.size)
   clear hb4 hB3
   by_cases hf:too (acts a)=frm (acts b)
   ·have ti0:=Lib.hid (joinI_start oka.out okb.out hf)
    have hend:=Lib.hid (fun X hX hh=>made_join (a:=a) (b:=b) (X:=X) hX hh hca.out hcb.out hf)
    have hfb:((too (acts a):Int) != (frm (acts b):Int))=false:=by simp;omega
    clear hf
    generalize too (acts a)=fa at *
    generalize frm (acts b)=fb at *
    go_wp2_with fail
    refine (opCopy_any F _ a w4 (ROp.to H.out (Kp.below hB4)) (by have:=oka.out.len;omega) (fun p hp=>by have:=oka.out.i80 p hp;omega)).mono ?_
    rintro e w5 ⟨r5,rfl,hr5,hb5⟩
    obtain ⟨a5,c5,rfl,_⟩:=RdS.len hr5
    have hA5:=Lib.hid hr5
    have hB5:=hB4.trans (hb5.mono hB4.size)
    clear hr5 hb5 hB4
    go_wp2_with fail
    have hb6:Below w5.heap.size w5 (w5.alloc (.cells #[.slice a5 a.length c5,.int .i64 0,.int .i64 0,.slice none 0 0,.int .i64 0,.int .i64 0,.bool false,.string ⟨#[]⟩] 278)):=bal (brf _) _
    refine (opCopy_any (fun k=>k < w.heap.size) _ b _ (ROp.to G'.out fun k _ hk=>⟨hk,(hB5.trans (hb6.mono hB5.size)).block k hk⟩) (by have:=okb.out.len;omega) (fun p hp=>by have:=okb.out.i80 p hp;omega)).mono ?_
    rintro e w7 ⟨r7,rfl,hr7,hb7⟩
    obtain ⟨a7,c7,rfl,_⟩:=RdS.len hr7
    have hA7:=Lib.hid hr7
    have hG1:=Lib.hid ((hb7.block w5.heap.size (by simp)).trans (heap_new _ _))
    have hz7:w5.heap.size < w7.heap.size:=lt_of_heap hG1.out
    have hb57:Below w5.heap.size w5 w7:=hb6.trans (hb7.mono hb6.size)
    clear hr7 hb7 hb6
    go_wp2
    refine name_world ?_
    intro w0 hW0
    have hb70:Below w7.heap.size w7 w0:=by rw [← hW0];exact bal (brf _) _
    have hG2:=Lib.hid (by rw [← hW0];exact heap_new _ _:w0.heap[w7.heap.size]?=some (.cells #[.slice a7 b.length c7,.int .i64 0,.int .i64 0,.slice none 0 0,.int .i64 0,.int .i64 0,.bool false,.string ⟨#[]⟩] 278 (0,0)))
    have hz0:w7.heap.size < w0.heap.size:=lt_of_heap hG2.out
    clear hW0
    obtain ⟨g1,hg1⟩:∃ g,g=w5.heap.size:=⟨_,rfl⟩
    obtain ⟨g2,hg2⟩:∃ g,g=w7.heap.size:=⟨_,rfl⟩
    obtain ⟨Fr,hFr⟩:∃ Fr:Nat→Prop,Fr=fun k=>k < w0.heap.size∧k≠g1∧k≠g2:=⟨_,rfl⟩
    have hb50:Below w5.heap.size w5 w0:=hb57.trans (hb70.mono hb57.size)
    have l0:Hid (LpJ 93 278 w w0.heap.size g1 g2 Fr w0 w0 (.slice none 0 0) [] pt0 a pt0 b):=Lib.hid (LpJ.start
     ⟨_,_,(hb70.block g1 (by omega)).trans (by rw [hg1];exact hG1.out),ROp.to hA5.out fun k _ hk=>⟨by rw [hFr];omega,hb50.block k hk⟩,RdS.nil⟩
     ⟨_,_,by rw [hg2];exact hG2.out,ROp.to hA7.out fun k hk1 hk=>⟨by rw [hFr];have:=hB5.size;simp at hk1;exact ⟨by omega,by omega,by omega⟩,hb70.block k hk⟩,RdS.nil⟩
     (hB5.trans (hb50.mono hB5.size)) (Nat.le_refl _) ⟨by rw [hg1];exact hB5.size,by omega,by omega⟩ fun k hk=>by rw [hFr] at hk;exact hk)
    obtain ⟨BB,hBB⟩:∃ B,B=w0.heap.size:=⟨_,rfl⟩
    rw [← hBB] at l0
    clear hBB
    rw [← hg1,← hg2]
    clear hFr hg1 hg2 hA5 hA7 hG1 hG2 hz7 hz0 hb57 hb70 hb50 hB5 H G' oka okb hca hcb i0 i1 hfb
    go_loopw [15] (fun xv wr=>∃ F w1 X p o q u,JoinI a b X p o q u∧LpJ 93 278 w BB g1 g2 F w1 wr xv X p o q u) (fun _ wr=>wgtW wr g1+wgtW wr g2)
    case atStart=>exact ⟨Fr,w0,[],pt0,a,pt0,b,ti0.out,l0.out⟩
    case round =>
     clear l0 ti0
     obtain ⟨Fq,wq,X,p,o,q,u,ti,L⟩:=hrel
     obtain ⟨xa,xc,rfl,_⟩:=RdS.len L.two.x.rd
     have hw1:=Lib.hid L.r1.wgt
     have hw2:=Lib.hid L.r2.wgt
     obtain ⟨m,p',o',e1⟩:∃ m p' o',moreR p o=(m,p',o'):=⟨_,_,_,rfl⟩
     obtain ⟨m2,q',u',e2⟩:∃ m p' o',moreR q u=(m,p',o'):=⟨_,_,_,rfl⟩
     have C1:=Lib.hid (rmore_any Fq wq wr g1 p o L.r1 L.st ti.rp.tp)
     rw [e1] at C1
     have L':=Lib.hid L
     obtain ⟨ti1,f1,f2,f3,f4⟩:=joinI_more ti e1 e2
     have hv1:=Lib.hid (ti.rp.wgt e1)
     have hv2:=Lib.hid (ti.rq.wgt e2)
     have ti':=Lib.hid ti1
     have htu:=Lib.hid ti.rq.tp
     have e2':=Lib.hid e2
     have F1:=Lib.hid f1
     have F2:=Lib.hid f2
     have F3:=Lib.hid f3
     have F4:=Lib.hid f4
     have hXl:X.length≤1000:=by have:=ti.nx;omega
     clear L ti ti1 f1 f2 f3 f4 e1 e2
     go_wp2_with fail
     refine C1.out.mono ?_
     rintro e w1 ⟨rfl,hr1,hs1⟩
     have L1:=Lib.hid (L'.out.at1 hs1 hr1)
     have C2:=Lib.hid (rmore_any Fq wq w1 g2 q u L1.out.r2 L1.out.st htu.out)
     rw [e2'.out] at C2
     clear C1 L' hr1 hs1
     go_wp2_with fail
     refine C2.out.mono ?_
     rintro e w2 ⟨rfl,hr2,hs2⟩
     have L2:=Lib.hid (L1.out.at2 hs2 hr2)
     clear C2 L1 hr2 hs2 htu e2'
     by_cases hA:m=true∧p'.k=3
     ·obtain ⟨rfl,hk⟩:=hA
      have hkb:(p'.k == 3)=true:=by simpa using hk
      have htp:=Lib.hid (F1.out rfl)
      have hnx:=Lib.hid (joinI_p ti'.out htp.out hk)
      have hwl:=Lib.hid (wgt_pt0 htp.out o')
      obtain ⟨ov,sv,hb,hov,hits⟩:=L2.out.r1
      obtain ⟨sa,sc,rfl,_⟩:=RdS.len hits
      have hI:=Lib.hid hits
      obtain ⟨d0,d1,d2,d3,d4,d5,d6,d7⟩:=P8.of hb
      clear hk hb hov hits F1 F2 F3 F4 ti' d0
      go_wp2_with (at_builtin;refine wpList_appJ rfl (.tmp 76) (.tmp 81) 40 rfl BB 93 80 _ elPart (L2.out.two.below (bal (brf _) _)) rfl _ p' _ rfl (heap_at (by simp)) hI.out hXl (by decide) ?_;intro xa6 xc6 w6 T6 hb6 hn6 hat6;have L6:=Lib.hid ((L2.out.below (bal (brf _) _)).grown T6 hb6 hn6 hat6);clear T6 hb6 hn6 hat6 d1 d2 d3 d4 d5 d6 d7;obtain ⟨ov6,sv6,hb6,hov6,_⟩:=L6.out.r1;have hfz:∀ i,w6.frozen? ⟨g1,i,none⟩=false:=fun i=>Lib.frozen_of_heap hb6 _;have L7:=Lib.hid (L6.out.at1 (p':=pt0) (o':=o') (set7 hb6 (.int .i64 0) (.int .i64 0) (.slice none 0 0) (.int .i64 0) (.int .i64 0) (.bool false) (.string ⟨#[]⟩)).2 ⟨_,_,(set7 hb6 (.int .i64 0) (.int .i64 0) (.slice none 0 0) (.int .i64 0) (.int .i64 0) (.bool false) (.string ⟨#[]⟩)).1,hov6,RdS.nil⟩);obtain ⟨c0,c1,c2,c3,c4,c5,c6,c7⟩:=P8.of hb6;clear hb6 hov6)
      go_roundw
      case rel=>exact ⟨Fq,wq,_,pt0,o',q',u',hnx.out,by simpa using L7.out⟩
      case measure =>
       have h1:=L7.out.r1.wgt
       have h2:=L7.out.r2.wgt
       rw [h1,h2,hw1.out,hw2.out]
       have:=hv1.out;have:=hv2.out;have:=hwl.out;omega
     ·have hp2:(m=true∧(p'.k == 3)=false)∨m=false:=by
       cases hm:m with
       | false=>exact Or.inr rfl
       | true=>exact Or.inl ⟨rfl,by simp;exact fun h=>hA ⟨hm,h⟩⟩
      have hPA:Hid (TP p'∧p'.k≠3∨rdA p' o'=[]):=Lib.hid (by
       rcases hp2 with ⟨h1,h2⟩ | h1
       ·exact Or.inl ⟨F1.out h1,by simpa using h2⟩
       ·exact Or.inr (F2.out h1))
      have hno:=Lib.hid (nocut hPA.out)
      by_cases hB:m2=true∧q'.k=2
      ·obtain ⟨rfl,hk⟩:=hB
       have hkb:(q'.k == 2)=true:=by simpa using hk
       have htp:=Lib.hid (F3.out rfl)
       have hnx:=Lib.hid (joinI_q ti'.out hno.out htp.out hk)
       have hwl:=Lib.hid (wgt_pt0 htp.out u')
       obtain ⟨ov1,sv1,hb1,hov1,hits1⟩:=L2.out.r1
       obtain ⟨ov,sv,hb,hov,hits⟩:=L2.out.r2
       obtain ⟨sa,sc,rfl,_⟩:=RdS.len hits
       have hI:=Lib.hid hits
       obtain ⟨x0,x1,x2,x3,x4,x5,x6,x7⟩:=P8.of hb1
       obtain ⟨d0,d1,d2,d3,d4,d5,d6,d7⟩:=P8.of hb
       clear hk hb hov hits hb1 hov1 hits1 F1 F2 F3 F4 ti' hA hno hPA x0 x2 x3 x4 x5 x6 x7 d0
       rcases hp2 with ⟨rfl,hp2⟩ | rfl
       all_goals
        go_wp2_with (at_builtin;refine wpList_appJ rfl (.tmp 97) (.tmp 102) 40 rfl BB 93 80 _ elPart (L2.out.two.below (bal (brf _) _)) rfl _ q' _ rfl (heap_at (by simp)) hI.out hXl (by decide) ?_;intro xa6 xc6 w6 T6 hb6 hn6 hat6;have L6:=Lib.hid ((L2.out.below (bal (brf _) _)).grown T6 hb6 hn6 hat6);clear T6 hb6 hn6 hat6 d1 d2 d3 d4 d5 d6 d7;obtain ⟨ov6,sv6,hb6,hov6,_⟩:=L6.out.r2;have hfz:∀ i,w6.frozen? ⟨g2,i,none⟩=false:=fun i=>Lib.frozen_of_heap hb6 _;have L7:=Lib.hid (L6.out.at2 (q':=pt0) (u':=u') (set7 hb6 (.int .i64 0) (.int .i64 0) (.slice none 0 0) (.int .i64 0) (.int .i64 0) (.bool false) (.string ⟨#[]⟩)).2 ⟨_,_,(set7 hb6 (.int .i64 0) (.int .i64 0) (.slice none 0 0) (.int .i64 0) (.int .i64 0) (.bool false) (.string ⟨#[]⟩)).1,hov6,RdS.nil⟩);obtain ⟨c0,c1,c2,c3,c4,c5,c6,c7⟩:=P8.of hb6;clear hb6 hov6)
        go_roundw
        case rel=>exact ⟨Fq,wq,_,p',o',pt0,u',hnx.out,by simpa using L7.out⟩
        case measure =>
         have h1:=L7.out.r1.wgt
         have h2:=L7.out.r2.wgt
         rw [h1,h2,hw1.out,hw2.out]
         have:=hv1.out;have:=hv2.out;have:=hwl.out;omega
      ·have hq2:(m2=true∧(q'.k == 2)=false)∨m2=false:=by
        cases hm:m2 with
        | false=>exact Or.inr rfl
        | true=>exact Or.inl ⟨rfl,by simp;exact fun h=>hB ⟨hm,h⟩⟩
       have hQA:Hid (TP q'∧q'.k≠2∨rdA q' u'=[]):=Lib.hid (by
        rcases hq2 with ⟨h1,h2⟩ | h1
        ·exact Or.inl ⟨F3.out h1,by simpa using h2⟩
        ·exact Or.inr (F4.out h1))
       by_cases hC:m=false∨m2=false
       ·have hfin:=hend.out X ti'.out.fin (joinI_end ti'.out hPA.out hQA.out (by
         rcases hC with h | h
         ·exact Or.inl (F2.out h)
         ·exact Or.inr (F4.out h)))
        rw [hres.out] at hfin
        have C:=Lib.hid (opMade_any _ _ X w2 (RX_op L2.out.two.x L2.out.st) ti'.out.fin)
        have hbel:=L2.out.bel
        obtain ⟨ov1,sv1,hb1,hov1,hits1⟩:=L2.out.r1
        obtain ⟨ov,sv,hb,hov,hits⟩:=L2.out.r2
        obtain ⟨x0,x1,x2,x3,x4,x5,x6,x7⟩:=P8.of hb1
        obtain ⟨d0,d1,d2,d3,d4,d5,d6,d7⟩:=P8.of hb
        have hfin':=Lib.hid hfin
        clear hb hov hits hb1 hov1 hits1 F1 F2 F3 F4 ti' hA hB hno hPA hQA hfin x0 x2 x3 x4 x5 x6 x7 d0 d2 d3 d4 d5 d6 d7 hres hend L2
        have hway:(m=false∧m2=false)∨(m=false∧m2=true∧(q'.k == 2)=false)∨(m=true∧(p'.k == 3)=false∧m2=false):=by
         rcases hp2 with ⟨h1,h2⟩ | h1 <;> rcases hq2 with ⟨h3,h4⟩ | h3
         ·subst h1 h3;simp at hC
         ·exact Or.inr (Or.inr ⟨h1,h2,h3⟩)
         ·exact Or.inr (Or.inl ⟨h1,h3,h4⟩)
         ·exact Or.inl ⟨h1,h3⟩
        clear hp2 hq2 hC
        generalize madeP X=M at *
        by_cases hM:chkOp M=0
        ·have hf2:=hfin'.out
         rw [if_neg (by simpa using hM)] at hf2
         cases hf2
         have hM':=Lib.hid hM
         clear hM hfin'
         rcases hway with ⟨rfl,rfl⟩ | ⟨rfl,rfl,hk⟩ | ⟨rfl,hk,rfl⟩
         all_goals
          go_wp2_with fail
          refine C.out.mono ?_
          rintro e w3 ⟨r3,rfl,hr3,hb3⟩
          obtain ⟨a3,c3,rfl,_⟩:=RdS.len hr3.rd
          have hr':=Lib.hid hr3.readF
          clear hr3
          go_wp2_with fail
          refine (opCheck_any _ _ P1 w3 hr'.out).mono ?_
          rintro e w4 ⟨rfl,hb4⟩
          rw [hM'.out]
          go_wp2
          go_ret2
          exact ⟨_,rfl,ROp.to hr'.out (fr_kp hbel.size hb4),(hbel.trans (hb3.mono hbel.size)).trans (hb4.mono (Nat.le_trans hbel.size hb3.size))⟩
        ·have hf2:=hfin'.out
         rw [if_pos hM] at hf2
         cases hf2
         have hM':(chkOp M != 0)=true:=by simpa using hM
         clear hM hfin'
         rcases hway with ⟨rfl,rfl⟩ | ⟨rfl,rfl,hk⟩ | ⟨rfl,hk,rfl⟩
         all_goals
          go_wp2_with fail
          refine C.out.mono ?_
          rintro e w3 ⟨r3,rfl,hr3,hb3⟩
          obtain ⟨a3,c3,rfl,_⟩:=RdS.len hr3.rd
          have hr':=Lib.hid hr3.readF
          clear hr3
          go_wp2_with fail
          refine (opCheck_any _ _ M w3 hr'.out).mono ?_
          rintro e w4 ⟨rfl,hb4⟩
          go_wp2
          go_ret2
          exact ⟨_,rfl,RdS.nil,(hbel.trans (hb3.mono hbel.size)).trans (hb4.mono (Nat.le_trans hbel.size hb3.size))⟩
       ·obtain ⟨rfl,rfl⟩:m=true∧m2=true:=by
         cases m <;> cases m2 <;> simp at hC <;> exact ⟨rfl,rfl⟩
        have hp:(p'.k == 3)=false:=by rcases hp2 with ⟨_,h⟩ | h;exact h;simp at h
        have hq:(q'.k == 2)=false:=by rcases hq2 with ⟨_,h⟩ | h;exact h;simp at h
        have htp:=Lib.hid (F1.out rfl)
        have htq:=Lib.hid (F3.out rfl)
        have hpk3:Hid (p'.k≠3):=Lib.hid (by simpa using hp)
        have hqk2:Hid (q'.k≠2):=Lib.hid (by simpa using hq)
        have hq0:=htq.out.pos2 hqk2.out
        have hp8:=ti'.out.rp.n80.1
        have hq8:=ti'.out.rq.n80.1
        clear F1 F2 F3 F4 hA hB hno hPA hQA hp2 hq2 hC hres hend
        by_cases hp1:p'.k=1
        ·have hkb:(p'.k == 1)=true:=by simpa using hp1
         have hpk2:Hid (p'.k≠2):=Lib.hid (by omega)
         have hp0:=htp.out.pos2 hpk2.out
         obtain ⟨n,hn⟩:∃ n,min p'.n q'.n=n:=⟨_,rfl⟩
         have hn0:0 < n:=by omega
         have hn1:n≤p'.n:=by omega
         have hn2:n≤q'.n:=by omega
         have hnn:Hid (n=p'.n∨n=q'.n):=Lib.hid (by omega)
         have hwp:=Lib.hid (wgt_rest hn0 hn1 o')
         have hwq:=Lib.hid (wgt_rest hn0 hn2 u')
         obtain ⟨s,hs⟩:∃ s,takeN p' n=s:=⟨_,rfl⟩
         obtain ⟨t,ht⟩:∃ t,takeN q' n=t:=⟨_,rfl⟩
         have C3:=Lib.hid (rtake_any Fq wq w2.drew g1 p' o' n (L2.out.below (ch0 _)).r1 (by omega) hn1 hp8)
         have C4:=Lib.hid (fun (w3:World) (h:Rdr 278 Fq wq w3 g2 q' u')=>rtake_any Fq wq w3 g2 q' u' n h (by omega) hn2 hq8)
         rw [hs] at C3
         rw [ht] at C4
         have hsk:Hid (s.k=p'.k∧s.its=p'.its):=Lib.hid (by rw [← hs];exact ⟨rfl,rfl⟩)
         have htk:Hid (t.k=q'.k∧t.its=q'.its):=Lib.hid (by rw [← ht];exact ⟨rfl,rfl⟩)
         have hs':=Lib.hid hs
         have ht':=Lib.hid ht
         have hnn1:=Lib.hid hn1
         have hnn2:=Lib.hid hn2
         have hpk1:=Lib.hid hp1
         obtain ⟨ov1,sv1,hb1,hov1,hits1⟩:=L2.out.r1
         obtain ⟨ov,sv,hb,hov,hits⟩:=L2.out.r2
         obtain ⟨x0,x1,x2,x3,x4,x5,x6,x7⟩:=P8.of hb1
         obtain ⟨d0,d1,d2,d3,d4,d5,d6,d7⟩:=P8.of hb
         clear hp1 hs ht hb hov hits hb1 hov1 hits1 x0 x3 x4 x5 x6 x7 d0 d3 d4 d5 d6 d7
         go_wp2
         have Q2:w2.cell? ⟨g1,2,none⟩=some (.int .i64 p'.n)∧w2.cell? ⟨g2,2,none⟩=some (.int .i64 q'.n):=⟨x2,d2⟩
         go_region_held3 (fun w'=>w'.cell? ⟨g1,2,none⟩=some (.int .i64 p'.n)∧w'.cell? ⟨g2,2,none⟩=some (.int .i64 q'.n)) (first | assumption | exact Q2) (fail)
         go_wp2_with fail
         refine C3.out.mono ?_
         rintro e w3 ⟨sa,sc,rfl,hI3,hr3,hs3⟩
         have L3:=Lib.hid ((L2.out.below (ch0 _)).at1 hs3 hr3)
         have hI3':=Lib.hid hI3
         have C4':=Lib.hid (C4.out w3 L3.out.r2)
         clear C3 C4 hr3 hs3 hI3 Q2 L2
         go_wp2_with fail
         refine C4'.out.mono ?_
         rintro e w4 ⟨ta,tc,rfl,hI4,hr4,hs4⟩
         have L4:=Lib.hid (L3.out.at2 hs4 hr4)
         have hI4':=Lib.hid hI4
         clear C4' hr4 hs4 hI4 L3 x1 x2 d1 d2
         go_upto_region 30 with (fail)
         refine name_world ?_
         intro w5 hW5
         have hb45:Below w4.heap.size w4 w5:=by rw [← hW5];exact bal (bal (brf _) _) _
         have hs5:w5.heap[w4.heap.size]?=some (.cells #[.int .i64 s.k,.int .i64 s.n,.slice sa p'.its.length sc,.int .i64 s.set,.int .i64 s.clr,.bool s.to,str s.l] 93 (0,0)):=by rw [← hW5];exact heap_at2 rfl
         have ht5:w5.heap[w4.heap.size+1]?=some (.cells #[.int .i64 t.k,.int .i64 t.n,.slice ta q'.its.length tc,.int .i64 t.set,.int .i64 t.clr,.bool t.to,str t.l] 93 (0,0)):=by rw [← hW5];exact heap_at (by simp)
         have hS:=Lib.hid (⟨P7.of hs5,P7.of ht5⟩:S14 w4.heap.size (w4.heap.size+1) (.slice sa p'.its.length sc) (.slice ta q'.its.length tc) s t w5)
         have L5:=Lib.hid (L4.out.below hb45)
         have hz5:w4.heap.size+1 < w5.heap.size:=lt_of_heap ht5
         rw [← hsk.out.2] at hI3' hS
         rw [← htk.out.2] at hI4' hS
         rw [← hsk.out.2,← htk.out.2]
         clear hW5 hs5 ht5 hb45 L4 hp0 hq0 hp8 hq8 hn hn1 hn2
         obtain ⟨c0,c1,c2,c3,c4,c5,c6⟩:=hS.out.1
         obtain ⟨y0,y1,y2,y3,y4,y5,y6⟩:=hS.out.2
         by_cases hq1:q'.k=1
         ·have b3:(t.k == 3)=false:=by rw [htk.out.1];simp;omega
          have hnx:=Lib.hid (joinI_kk ti'.out htp.out hpk1.out htq.out hq1 hn0 hnn1.out hnn2.out hnn.out)
          rw [hs'.out,ht'.out] at hnx
          clear hq1 hp hq
          go_wp2_with (first | (go_at_call 224;(with_reducible refine (both_any s t _ _ _ ⟨_,_,_,rfl⟩).mono ?_);rintro e w7 ⟨rfl,hb7⟩;have L7:=Lib.hid (L5.out.below hb7)) | (at_builtin;refine wpList_appJ rfl (.tmp 153) (.tmp 157) 40 rfl BB 93 80 _ elPart (L7.out.two.below (bal (brf _) _)) rfl _ (bothP s t) _ rfl (heap_at (by simp)) hI3'.out hXl (by decide) ?_;intro xa6 xc6 w6 T6 hb6 hn6 hat6;have L6:=Lib.hid ((L7.out.below (bal (brf _) _)).grown T6 hb6 hn6 hat6)))
          go_roundw
          case rel=>exact ⟨Fq,wq,_,restN p' n,o',restN q' n,u',hnx.out,L6.out⟩
          case measure =>
           have h1:=L6.out.r1.wgt
           have h2:=L6.out.r2.wgt
           rw [h1,h2,hw1.out,hw2.out]
           have:=hv1.out;have:=hv2.out;have:=hwp.out;have:=hwq.out;omega
         ·have b3:(t.k == 3)=true:=by rw [htk.out.1];have:=htq.out.k4;have:=hqk2.out;simp;omega
          have hnx:=Lib.hid (joinI_kc ti'.out htp.out hpk1.out htq.out hq1 hqk2.out hn0 hnn1.out hnn2.out hnn.out)
          rw [ht'.out] at hnx
          clear hq1 hp hq
          go_wp2_with (at_builtin;refine wpList_appJ rfl (.tmp 149) (.tmp 151) 40 rfl BB 93 80 _ elPart (L5.out.two.below (bal (brf _) _)) rfl _ t _ rfl (heap_at (by simp)) hI4'.out hXl (by decide) ?_;intro xa6 xc6 w6 T6 hb6 hn6 hat6;have L6:=Lib.hid ((L5.out.below (bal (brf _) _)).grown T6 hb6 hn6 hat6))
          go_roundw
          case rel=>exact ⟨Fq,wq,_,restN p' n,o',restN q' n,u',hnx.out,L6.out⟩
          case measure =>
           have h1:=L6.out.r1.wgt
           have h2:=L6.out.r2.wgt
           rw [h1,h2,hw1.out,hw2.out]
           have:=hv1.out;have:=hv2.out;have:=hwp.out;have:=hwq.out;omega
        ·have hkb:(p'.k == 1)=false:=by simpa using hp1
         have hpk2:Hid (p'.k=2):=Lib.hid (by have:=htp.out.k4;have:=hpk3.out;omega)
         have hpos:0 < p'.its.length:=by
          obtain ⟨l,hl,_,e⟩:=htp.out.k2 hpk2.out
          rw [e];exact List.length_pos_iff.2 hl
         have hi8:=ti'.out.rp.i80.1
         obtain ⟨n,hn⟩:∃ n:Nat,min (p'.its.length:Int) q'.n=(n:Int):=⟨(min (p'.its.length:Int) q'.n).toNat,by omega⟩
         have hn0:0 < n:=by omega
         have hn1:n≤p'.its.length:=by omega
         have hn2:(n:Int)≤q'.n:=by omega
         have hnn:Hid (n=p'.its.length∨(n:Int)=q'.n):=Lib.hid (by omega)
         have hwp:=Lib.hid (wgt_drop hn0 hn1 o')
         have hwq:=Lib.hid (wgt_rest (p:=q') (n:=(n:Int)) (by omega) hn2 u')
         obtain ⟨t,ht⟩:∃ t,takeN q' (n:Int)=t:=⟨_,rfl⟩
         have C4:=Lib.hid (fun (w3:World) (h:Rdr 278 Fq wq w3 g2 q' u')=>rtake_any Fq wq w3 g2 q' u' (n:Int) h (by omega) hn2 hq8)
         rw [ht] at C4
         have htk:Hid (t.k=q'.k∧t.its=q'.its∧t.kd=q'.kd):=Lib.hid (by rw [← ht];exact ⟨rfl,rfl,rfl⟩)
         have ht':=Lib.hid ht
         obtain ⟨ov1,sv1,hb1,hov1,hits1⟩:=L2.out.r1
         obtain ⟨ov,sv,hb,hov,hits⟩:=L2.out.r2
         obtain ⟨sa0,sc,rfl,_⟩:=RdS.len hits1
         obtain ⟨bb,oo,_,esa,_⟩:=hits1.el 0 _ (List.getElem?_eq_getElem hpos)
         subst esa
         have hcap:=RdS.capLe hits1
         have hb1':=Lib.hid hb1
         have hov1':=Lib.hid hov1
         have hI1:=Lib.hid (hits1.takeC n hn1)
         have hI2:Hid (∃ a c,(if sc=n then Value.slice (some ⟨bb,oo,none⟩) 0 0 else Value.slice (some ⟨bb,oo+n * 3,none⟩) (p'.its.length - n) (sc - n))=.slice a (p'.its.drop n).length c∧RItems Fq wq (.slice a (p'.its.drop n).length c) (p'.its.drop n)):=Lib.hid (by
          by_cases hsc:sc=n
          ·have hz:p'.its.drop n=[]:=List.drop_eq_nil_of_le (by omega)
           rw [if_pos hsc,hz]
           exact ⟨_,_,rfl,RdS.nilA⟩
          ·rw [if_neg hsc,List.length_drop]
           exact ⟨_,_,rfl,hits1.dropC n hn1⟩)
         obtain ⟨x0,x1,x2,x3,x4,x5,x6,x7⟩:=P8.of hb1
         obtain ⟨d0,d1,d2,d3,d4,d5,d6,d7⟩:=P8.of hb
         clear hp1 ht hb hov hits hb1 hov1 hits1 x0 x2 x4 x5 x6 x7 d0 d3 d4 d5 d6 d7
         go_wp2
         have Q2:w2.cell? ⟨g1,3,none⟩=some (.slice (some ⟨bb,oo,none⟩) p'.its.length sc)∧w2.cell? ⟨g2,2,none⟩=some (.int .i64 q'.n):=⟨x3,d2⟩
         go_region_held3 (fun w'=>w'.cell? ⟨g1,3,none⟩=some (.slice (some ⟨bb,oo,none⟩) p'.its.length sc)∧w'.cell? ⟨g2,2,none⟩=some (.int .i64 q'.n)) (first | assumption | exact Q2) (fail)
         have hfz1:∀ i,w2.frozen? ⟨g1,i,none⟩=false:=fun i=>Lib.frozen_of_heap hb1'.out _
         have i1:(0:Int)≤(n:Int):=by omega
         have i2:(n:Int)≤(p'.its.length:Int):=by omega
         have i3:(p'.its.length:Int)≤(sc:Int):=by omega
         have i4:(n:Int)≤(sc:Int):=by omega
         have hg1s:g1 < w2.heap.size:=lt_of_heap hb1'.out
         have hsv:Hid (∃ a c,RItems Fq wq (.slice a (p'.its.drop n).length c) (p'.its.drop n)∧((sc=n∧a=some ⟨bb,oo,none⟩∧c=0)∨(¬ sc=n∧a=some ⟨bb,oo+n * 3,none⟩∧c=sc - n))):=Lib.hid (by
          obtain ⟨a,c,e,h⟩:=hI2.out
          by_cases hsc:sc=n
          ·rw [if_pos hsc] at e
           simp only [Value.slice.injEq] at e
           exact ⟨a,c,h,Or.inl ⟨hsc,e.1.symm,e.2.2.symm⟩⟩
          ·rw [if_neg hsc] at e
           simp only [Value.slice.injEq] at e
           exact ⟨a,c,h,Or.inr ⟨hsc,e.1.symm,e.2.2.symm⟩⟩)
         obtain ⟨va,vc,hIv,hway⟩:=hsv.out
         have hIv':=Lib.hid hIv
         have L3:=Lib.hid ((L2.out.at1 (p':=dropI p' n) (o':=o') (Stays.set (i:=3) (u:=.slice va (p'.its.drop n).length vc)) ⟨_,_,set_three hb1'.out _,hov1'.out,hIv'.out⟩).below (((bal (brf _) (.cells #[.int .i64 2,.int .i64 0,.slice (some ⟨bb,oo,none⟩) n n,.int .i64 0,.int .i64 0,.bool false,.string ⟨#[]⟩] 93))).drew))
         have hg2s:g2 < w2.heap.size:=L2.out.r2.lt
         have C4':=Lib.hid (C4.out _ L3.out.r2)
         rw [List.length_drop] at C4' L3
         clear hsv hIv hI2 C4 L2
         have hgo:Hid (∀ (PP:Prop),PP→PP):=Lib.hid fun _ h=>h
         rcases hway with ⟨hsc,rfl,rfl⟩ | ⟨hsc,rfl,rfl⟩
         all_goals
          go_wp2_with fail
          refine C4'.out.mono ?_
          rintro e w4 ⟨ta,tc,rfl,hI4,hr4,hs4⟩
          have L4:=Lib.hid (L3.out.at2 hs4 hr4)
          have hI4':=Lib.hid hI4
          have hP4:=Lib.hid ((hs4.same w2.heap.size (by simp) (by omega)).trans (heap_at (w:=w2.setCell ⟨g1,3,none⟩ _) (by simp)))
          clear C4' hr4 hs4 hI4 L3 x1 x3 d1 d2 Q2
          go_upto_region 37 with (fail)
          refine name_world ?_
          intro w5 hW5
          have hb45:Below w4.heap.size w4 w5:=by rw [← hW5];exact bal (brf _) _
          have ht5:=Lib.hid (by rw [← hW5];exact heap_new _ _:w5.heap[w4.heap.size]?=some (.cells #[.int .i64 t.k,.int .i64 t.n,.slice ta q'.its.length tc,.int .i64 t.set,.int .i64 t.clr,.bool t.to,str t.l] 93 (0,0)))
          have h24:w2.heap.size < w4.heap.size:=lt_of_heap hP4.out
          have L5:=Lib.hid (L4.out.below hb45)
          have hP5:=Lib.hid ((hb45.block w2.heap.size h24).trans hP4.out)
          have hz5:w4.heap.size < w5.heap.size:=lt_of_heap ht5.out
          clear hW5 hb45 L4 hP4
          obtain ⟨y0,y1,y2,y3,y4,y5,y6⟩:=P7.of ht5.out
          by_cases hq1:q'.k=1
          ·have b3:(t.k == 3)=false:=by rw [htk.out.1];simp;omega
           have hnx:=Lib.hid (joinI_pk ti'.out htp.out hpk2.out htq.out hq1 hn0 hn1 hn2 hnn.out)
           rw [← htk.out.2.2] at hnx
           have hw5:=Lib.hid (L5.out.r1.wgt)
           have hw5':=Lib.hid (L5.out.r2.wgt)
           have HI:=Lib.hid (RItems.to hI1.out fun k hF _=>⟨(L5.out.F1 k hF).1,L5.out.st k hF⟩:RItems (· < w5.heap.size) w5 (.slice (some ⟨bb,oo,none⟩) n n) (p'.its.take n))
           clear hq1 hp hq hI1
           obtain ⟨c0,c1,c2,c3,c4,c5,c6⟩:=P7.of hP5.out
           go_wp2
           obtain ⟨wo,rfl⟩:∃ wo:World,wo=w5:=⟨_,rfl⟩
           go_loopw [26,200] (fun v j ws=>∃ j':Nat,j'≤n∧j=.int .i64 j'∧OwnS wo.heap.size 58 3 RIt ws v (((p'.its.take n).take j').map (markI · t.kd))∧Below wo.heap.size wo ws) (fun _ j _=>n - (intOf j).toNat)
           case atStart=>exact ⟨0,Nat.zero_le _,rfl,by simpa using OwnS.nil,Below.refl _ _⟩
           case round =>
            clear c0 c1 c2 c3 c4 c5 c6 y0 y1 y2 y3 y4 y5 y6
            obtain ⟨j,hj,rfl,hoi,hbi⟩:=hrel
            obtain ⟨va,vc,hv,_⟩:=RdS.len hoi.rd
            have hlj:(((p'.its.take n).take j).map (markI · t.kd)).length=j:=by simp;omega
            rw [hlj] at hv
            subst hv
            have hoi':=Lib.hid hoi;clear hoi
            by_cases hjl:j < n
            ·obtain ⟨x,hx⟩:∃ x,(p'.its.take n)[j]?=some x:=⟨_,List.getElem?_eq_getElem (by simp;omega)⟩
             obtain ⟨b3',o3,e3,x0,x1,x2⟩:=RItems.at HI.out hbi hx
             simp only [Option.some.injEq,Addr.mk.injEq,and_true] at e3
             obtain ⟨rfl,rfl⟩:=e3
             have hstep:=Lib.hid (take_map_snoc (f:=(markI · t.kd)) hx)
             have hll:(((p'.its.take n).take j).map (markI · t.kd)).length≤160:=by omega
             clear hlj
             obtain ⟨y0,y1,y2,y3,y4,y5,y6⟩:=P7.of ((hbi.block _ hz5).trans ht5.out)
             have hbs:bb < wr.heap.size:=lt_of_cell x0
             have hwt:w4.heap.size < wr.heap.size:=lt_of_cell y0
             clear hx
             obtain ⟨xc',xm,xl⟩:=x
             go_wp2_with fail
             refine (opMark_any ⟨xc',xm,xl⟩ t _ _).mono ?_
             rintro e w1 ⟨rfl,hb1⟩
             generalize markI ⟨xc',xm,xl⟩ t.kd=y at *
             have HB2:Below wr.heap.size wr w1:=(bal (brf wr) _).trans (hb1.mono (by simp))
             have hB1:Below wo.heap.size wo w1:=btr hbi HB2
             have hoi1:=Lib.hid (hoi'.out.below HB2 fun _ _ _ r=>r)
             have hwz:wo.heap.size≤w1.heap.size:=hB1.size
             clear hb1 x0 x1 x2 y0 y1 y2 y3 y4 y5 y6
             go_wp2_with (at_builtin;refine wpList_app1 rfl (.tmp 204) (.tmp 208) 22 rfl wo.heap.size 58 3 32 _ elItems RIt _ (((p'.its.take n).take j).map (markI · t.kd)) rfl hoi1.out y [.int .u8 y.c.toNat,.int .i64 y.m,str y.l] 58 _ rfl (by simp) rfl (fun _ _=>rfl) RIt_one (by unfold maxLen;omega) (by omega) (by omega) (fun _ _ _ _ _ r=>r) ?_;intro v2 w2' ho2 hb2 hz2 hkeep)
             have ho2':=Lib.hid ho2
             clear ho2 hkeep
             go_wp2
             go_roundw
             case rel=>exact ⟨j+1,by omega,by go_num,by rw [hstep.out];exact ho2'.out,hB1.trans hb2⟩
             case measure=>simp [intOf];omega
            ·have hjn:j=n:=by omega
             subst hjn
             have htk2:((p'.its.take j).take j)=p'.its.take j:=by rw [List.take_take,Nat.min_self]
             rw [htk2] at hoi' hlj
             have L6:=Lib.hid (L5.out.below hbi)
             obtain ⟨m1,m2,m3⟩:=L5.out.fx
             have L7:=Lib.hid (L6.out.ext (fun k=>(Value.slice va j vc).ownBlock=some k) (fun k hk=>by
              have h1:=hoi'.out.own_lt hk
              have h2:=L5.out.two.hB
              refine ⟨h1.2,by omega,by omega,fun hx=>?_⟩
              have h3:=L5.out.two.x.own_lt hx.symm
              omega))
             have hI7:=Lib.hid (RItems.to (OwnS.rdN hoi'.out) (fun k hF _=>⟨Or.inr hF,rfl⟩:Kp _ (fun k=>Fq k∨(Value.slice va j vc).ownBlock=some k) wr wr))
             clear htk2 hlj hoi' hbi HI hP5 ht5 L6 L5 hI4' hIv' m1 m2 m3
             go_wp2_with (at_builtin;refine wpList_appJ rfl (.tmp 211) (.tmp 214) 40 rfl BB 93 80 _ elPart (L7.out.two.below (bal (brf _) _)) rfl _ (putP (List.map (markI · t.kd) (p'.its.take j))) _ rfl (heap_at (by simp)) hI7.out hXl (by decide) ?_;intro xa6 xc6 w6 T6 hb6 hn6 hat6;have L8:=Lib.hid ((L7.out.below (bal (brf _) _)).grown T6 hb6 hn6 hat6))
             go_roundw
             case rel=>exact ⟨_,wr,_,Mh.dropI p' j,o',restN q' j,u',hnx.out,L8.out⟩
             case measure =>
              have h1:=L8.out.r1.wgt
              have h2:=L8.out.r2.wgt
              rw [h1,h2,hw1.out,hw2.out]
              have:=hv1.out;have:=hv2.out;have:=hwp.out;have:=hwq.out;omega
          ·have b3:(t.k == 3)=true:=by rw [htk.out.1];have:=htq.out.k4;have:=hqk2.out;simp;omega
           have hnx:=Lib.hid (joinI_pc ti'.out htp.out hpk2.out htq.out hq1 hqk2.out hn0 hn1 hn2 hnn.out)
           clear hq1 hp hq
           go_wp2
           go_roundw
           case rel=>exact ⟨Fq,wq,_,Mh.dropI p' n,o',restN q' n,u',hnx.out,L5.out⟩
           case measure =>
            have h1:=L5.out.r1.wgt
            have h2:=L5.out.r2.wgt
            rw [h1,h2,hw1.out,hw2.out]
            have:=hv1.out;have:=hv2.out;have:=hwp.out;have:=hwq.out;omega
   ·have hr3:=hres.out
    rw [joinP,if_neg (by simpa using hca.out),if_neg (by simpa using hcb.out),if_pos hf] at hr3
    cases hr3
    have hfb:((too (acts a):Int) != (frm (acts b):Int))=true:=by simp;omega
    clear hf hres oka okb
    generalize too (acts a)=fa at *
    generalize frm (acts b)=fb at *
    go_wp2
    go_ret2
    exact ⟨.slice none 0 0,rfl,RdS.nil,hB4⟩
end Go.Proofs.YteikncnldbdfmaaGreatDoor
