import Derived.Test.YteikncnldbdfmaaGreatDoorMOtC
import Derived.Test.YteikncnldbdfmaaGreatDoorMMem
import Derived.Test.YteikncnldbdfmaaGreatDoorMDoc
import Derived.Deep.RegionHeld3
import Derived.Deep.DeepFit
namespace Go.Proofs.YteikncnldbdfmaaGreatDoor
open Go.RowKit Go.Mh
theorem tidy2_turn {a b X Y:List Pt} (hX:Lok X) (hY:Lok Y) (h:acts X=(turnA (acts a) (acts b)).1∧acts Y=(turnA (acts a) (acts b)).2) (ha:chkOp a=0) (hb:chkOp b=0) (hf:frm (acts a)=frm (acts b)):tidy2 X Y=turnP a b:=by
 simp only [turnP,ha,hb,hf,tidy2,chk2,hX.made,hY.made,h.1,h.2]
 simp
set_option maxRecDepth 100000 in
set_option maxHeartbeats 8000000 in
theorem otTurn_any (F G:Nat→Prop) (v u:Value) (a b:List Pt) (w:World) (h:ROp F w v a) (g:ROp G w u b) :
  Calls Tryz.prog 227 #[v,u] w fun e w'=>∃ r s,e=.returned (.tuple #[r,s,.int .i64 (turnP a b).2.2])∧ROp (Fr 58 w.heap.size w') w' r (turnP a b).1∧ROp (Fr 58 w.heap.size w') w' s (turnP a b).2.1∧Below w.heap.size w w':=by
 obtain ⟨aa,ac,rfl,_⟩:=RdS.len h
 obtain ⟨ba,bc,rfl,_⟩:=RdS.len g
 have H:=Lib.hid h
 have G':=Lib.hid g
 clear h g
 have hres:∃ r,Hid (turnP a b=r):=⟨_,Lib.hid rfl⟩
 obtain ⟨⟨P1,P2,P3⟩,hres⟩:=hres
 rw [hres.out]
 go_enter Tryz.func227,Tryz.ntmps227
 have i0:=fun w=>idx2_0 (.slice aa a.length ac) (.slice ba b.length bc) w
 have i1:=fun w=>idx2_1 (.slice aa a.length ac) (.slice ba b.length bc) w
 go_wp2
 go_loopw [4,5,24] (fun xv yv i wr=>∃ k:Nat,k≤2∧i=.int .i64 k∧xv=.slice none 0 0∧yv=.slice none 0 0∧Below w.heap.size w wr∧Hid (1≤k→chkOp a=0)∧Hid (2≤k→chkOp b=0)) (fun _ _ i _=>2 - (intOf i).toNat)
 case atStart=>exact ⟨0,by omega,rfl,rfl,rfl,Below.refl _ _,Lib.hid (fun h=>by omega),Lib.hid (fun h=>by omega)⟩
 case round =>
  obtain ⟨k,hk,rfl,rfl,rfl,hbr,q1,q2⟩:=hrel
  rcases (by omega:k=0∨k=1∨k=2) with rfl | rfl | rfl
  ·by_cases hc:chkOp a=0
   ·have K:=Lib.hid (opCheck_any _ _ a _ (ROp.to H.out (Kp.below hbr)))
    rw [hc] at K
    have hc':=Lib.hid hc
    clear hc q1 q2
    go_wp2_with fail
    refine K.out.mono ?_
    rintro e w3 ⟨rfl,hb3⟩
    go_wp2
    go_roundw
    case rel=>exact ⟨1,by omega,rfl,rfl,rfl,hbr.trans (hb3.mono hbr.size),Lib.hid fun _=>hc'.out,Lib.hid fun h=>by omega⟩
    case measure=>simp [intOf]
   ·have hr3:=hres.out
    rw [turnP,if_pos hc] at hr3
    cases hr3
    have K:=Lib.hid (opCheck_any _ _ a _ (ROp.to H.out (Kp.below hbr)))
    have hc':(chkOp a != 0)=true:=by simpa using hc
    clear hc q1 q2 hres
    go_wp2_with fail
    refine K.out.mono ?_
    rintro e w3 ⟨rfl,hb3⟩
    go_wp2
    go_ret3
    exact ⟨.slice none 0 0,.slice none 0 0,rfl,RdS.nil,RdS.nil,hbr.trans (hb3.mono hbr.size)⟩
  ·have hcX:=q1.out (by omega)
   by_cases hc:chkOp b=0
   ·have K:=Lib.hid (opCheck_any _ _ b _ (ROp.to G'.out (Kp.below hbr)))
    rw [hc] at K
    have hc':=Lib.hid hc
    clear hc hcX q2
    go_wp2_with fail
    refine K.out.mono ?_
    rintro e w3 ⟨rfl,hb3⟩
    go_wp2
    go_roundw
    case rel=>exact ⟨2,by omega,rfl,rfl,rfl,hbr.trans (hb3.mono hbr.size),Lib.hid fun _=>q1.out (by omega),Lib.hid fun h=>hc'.out⟩
    case measure=>simp [intOf]
   ·have hr3:=hres.out
    rw [turnP,if_neg (by simpa using hcX),if_pos hc] at hr3
    cases hr3
    have K:=Lib.hid (opCheck_any _ _ b _ (ROp.to G'.out (Kp.below hbr)))
    have hc':(chkOp b != 0)=true:=by simpa using hc
    clear hc q1 q2 hres hcX
    go_wp2_with fail
    refine K.out.mono ?_
    rintro e w3 ⟨rfl,hb3⟩
    go_wp2
    go_ret3
    exact ⟨.slice none 0 0,.slice none 0 0,rfl,RdS.nil,RdS.nil,hbr.trans (hb3.mono hbr.size)⟩
  ·have hca:=Lib.hid (q1.out (by omega))
   have hcb:=Lib.hid (q2.out (by omega))
   have oka:=Lib.hid (chkOp_ok hca.out)
   have okb:=Lib.hid (chkOp_ok hcb.out)
   clear q1 q2 hk
   go_wp2_with fail
   refine (opLong_any F _ a wr (ROp.to H.out (Kp.below hbr))).mono ?_
   rintro e w3 ⟨rfl,hb3⟩
   rw [oka.out.longs]
   have hB3:=hbr.trans (hb3.mono hbr.size)
   clear hb3 hbr
   go_wp2_with fail
   refine (opLong_any G _ b w3 (ROp.to G'.out (Kp.below hB3))).mono ?_
   rintro e w4 ⟨rfl,hb4⟩
   rw [okb.out.longs]
   have hB4:=hB3.trans (hb4.mono hB3.size)
   clear hb4 hB3
   by_cases hf:frm (acts a)=frm (acts b)
   ·have ti0:=Lib.hid (turnI_start oka.out okb.out hf)
    have hend:=Lib.hid (fun X Y hX hY hh=>tidy2_turn (a:=a) (b:=b) (X:=X) (Y:=Y) hX hY hh hca.out hcb.out hf)
    have hfb:((frm (acts a):Int) != (frm (acts b):Int))=false:=by simp;omega
    clear hf
    generalize frm (acts a)=fa at *
    generalize frm (acts b)=fb at *
    go_wp2_with fail
    refine (opCopy_any F _ a w4 (ROp.to H.out (Kp.below hB4)) (by have:=oka.out.len;omega) (fun p hp=>by have:=oka.out.i80 p hp;omega)).mono ?_
    rintro e w5 ⟨r5,rfl,hr5,hb5⟩
    obtain ⟨a5,c5,rfl,_⟩:=RdS.len hr5
    have hA5:=Lib.hid hr5
    have hB5:=hB4.trans (hb5.mono hB4.size)
    clear hr5 hb5 hB4
    go_wp2_with fail
    have hb6:Below w5.heap.size w5 (w5.alloc (.cells #[.slice a5 a.length c5,.int .i64 0,.int .i64 0,.slice none 0 0,.int .i64 0,.int .i64 0,.bool false,.string ⟨#[]⟩] 278)):=bal (brf _) _
    refine (opCopy_any (fun k=>k < w.heap.size) _ b _ (ROp.to G'.out fun k _ hk=>⟨hk,(hB5.trans (hb6.mono hB5.size)).block k hk⟩) (by have:=okb.out.len;omega) (fun p hp=>by have:=okb.out.i80 p hp;omega)).mono ?_
    rintro e w7 ⟨r7,rfl,hr7,hb7⟩
    obtain ⟨a7,c7,rfl,_⟩:=RdS.len hr7
    have hA7:=Lib.hid hr7
    have hG1:=Lib.hid ((hb7.block w5.heap.size (by simp)).trans (heap_new _ _))
    have hz7:w5.heap.size < w7.heap.size:=lt_of_heap hG1.out
    have hb57:Below w5.heap.size w5 w7:=hb6.trans (hb7.mono hb6.size)
    clear hr7 hb7 hb6
    go_wp2
    refine name_world ?_
    intro w0 hW0
    have hb70:Below w7.heap.size w7 w0:=by rw [← hW0];exact bal (brf _) _
    have hG2:=Lib.hid (by rw [← hW0];exact heap_new _ _:w0.heap[w7.heap.size]?=some (.cells #[.slice a7 b.length c7,.int .i64 0,.int .i64 0,.slice none 0 0,.int .i64 0,.int .i64 0,.bool false,.string ⟨#[]⟩] 278 (0,0)))
    have hz0:w7.heap.size < w0.heap.size:=lt_of_heap hG2.out
    clear hW0
    obtain ⟨g1,hg1⟩:∃ g,g=w5.heap.size:=⟨_,rfl⟩
    obtain ⟨g2,hg2⟩:∃ g,g=w7.heap.size:=⟨_,rfl⟩
    obtain ⟨Fr,hFr⟩:∃ Fr:Nat→Prop,Fr=fun k=>k < w0.heap.size∧k≠g1∧k≠g2:=⟨_,rfl⟩
    have fix:Hid (Fix w w0 Fr g1 g2):=Lib.hid ⟨by rw [hg1];exact hB5.size,by omega,by omega,fun k hk=>by rw [hFr] at hk;exact hk⟩
    have hb50:Below w5.heap.size w5 w0:=hb57.trans (hb70.mono hb57.size)
    have l0:Hid (Lp 93 278 w w0 Fr g1 g2 w0 (.slice none 0 0) (.slice none 0 0) [] [] pt0 a pt0 b):=Lib.hid ⟨Two.start (Nat.le_refl _),
     ⟨_,_,(hb70.block g1 (by omega)).trans (by rw [hg1];exact hG1.out),ROp.to hA5.out fun k _ hk=>⟨by rw [hFr];omega,hb50.block k hk⟩,RdS.nil⟩,
     ⟨_,_,by rw [hg2];exact hG2.out,ROp.to hA7.out fun k hk1 hk=>⟨by rw [hFr];have:=hB5.size;simp at hk1;exact ⟨by omega,by omega,by omega⟩,hb70.block k hk⟩,RdS.nil⟩,fun k _=>rfl,hB5.trans (hb50.mono hB5.size)⟩
    rw [← hg1,← hg2]
    clear hFr hg1 hg2 hA5 hA7 hG1 hG2 hz7 hz0 hb57 hb70 hb50 hB5 H G' oka okb hca hcb i0 i1 hfb
    go_loopw [4,5] (fun xv yv wr=>∃ X Y p o q u,TurnI a b X Y p o q u∧Lp 93 278 w w0 Fr g1 g2 wr xv yv X Y p o q u) (fun _ _ wr=>wgtW wr g1+wgtW wr g2)
    case atStart=>exact ⟨[],[],pt0,a,pt0,b,ti0.out,l0.out⟩
    case round =>
     obtain ⟨X,Y,p,o,q,u,ti,L⟩:=hrel
     obtain ⟨xa,xc,rfl,_⟩:=RdS.len L.two.x.rd
     obtain ⟨ya,yc,rfl,_⟩:=RdS.len L.two.y.rd
     have hw1:=Lib.hid L.r1.wgt
     have hw2:=Lib.hid L.r2.wgt
     obtain ⟨m,p',o',e1⟩:∃ m p' o',moreR p o=(m,p',o'):=⟨_,_,_,rfl⟩
     obtain ⟨m2,q',u',e2⟩:∃ m p' o',moreR q u=(m,p',o'):=⟨_,_,_,rfl⟩
     have C1:=Lib.hid (rmore_any Fr w0 wr g1 p o L.r1 L.st ti.rp.tp)
     rw [e1] at C1
     have L':=Lib.hid L
     obtain ⟨ti1,f1,f2,f3,f4⟩:=turnI_more ti e1 e2
     have hv1:=Lib.hid (ti.rp.wgt e1)
     have hv2:=Lib.hid (ti.rq.wgt e2)
     have ti':=Lib.hid ti1
     have htu:=Lib.hid ti.rq.tp
     have e2':=Lib.hid e2
     have F1:=Lib.hid f1
     have F2:=Lib.hid f2
     have F3:=Lib.hid f3
     have F4:=Lib.hid f4
     clear L ti ti1 f1 f2 f3 f4 e1 e2 l0 ti0
     go_wp2_with fail
     refine C1.out.mono ?_
     rintro e w1 ⟨rfl,hr1,hs1⟩
     have L1:=Lib.hid (L'.out.at1 fix.out hs1 hr1)
     have C2:=Lib.hid (rmore_any Fr w0 w1 g2 q u L1.out.r2 L1.out.st htu.out)
     rw [e2'.out] at C2
     clear C1 L' hr1 hs1
     go_wp2_with fail
     refine C2.out.mono ?_
     rintro e w2 ⟨rfl,hr2,hs2⟩
     have L2:=Lib.hid (L1.out.at2 fix.out hs2 hr2)
     clear C2 L1 hr2 hs2 htu e2'
     by_cases hA:m=true∧p'.k=2
     ·obtain ⟨rfl,hk⟩:=hA
      have hkb:(p'.k == 2)=true:=by simpa using hk
      have htp:=Lib.hid (F1.out rfl)
      have hnx:=Lib.hid (turnI_p ti'.out htp.out hk)
      have hwl:=Lib.hid (wgt_pt0 htp.out o')
      have hXl:X.length≤1000:=by have:=ti'.out.nx;omega
      have hYl:Y.length≤1000:=by have:=ti'.out.ny;omega
      have hil:=ti'.out.rp.i80.1
      have T0:=Lib.hid L2.out.two
      have hwB:w0.heap.size≤w2.heap.size:=L2.out.two.hB
      have hgB:g1 < w0.heap.size:=by have:=fix.out.lt;have:=fix.out.hi;omega
      obtain ⟨ov,sv,hb,hov,hits⟩:=L2.out.r1
      obtain ⟨sa,sc,rfl,_⟩:=RdS.len hits
      have hI:=Lib.hid hits
      obtain ⟨d0,d1,d2,d3,d4,d5,d6,d7⟩:=P8.of hb
      have Q:=Lib.hid (⟨d1,d2,d3,d4,d5,d6,d7,hgB,hwB,Below.refl _ _⟩:w2.cell? ⟨g1,1,none⟩=some (.int .i64 p'.k)∧w2.cell? ⟨g1,2,none⟩=some (.int .i64 p'.n)∧w2.cell? ⟨g1,3,none⟩=some (.slice sa p'.its.length sc)∧w2.cell? ⟨g1,4,none⟩=some (.int .i64 p'.set)∧w2.cell? ⟨g1,5,none⟩=some (.int .i64 p'.clr)∧w2.cell? ⟨g1,6,none⟩=some (.bool p'.to)∧w2.cell? ⟨g1,7,none⟩=some (str p'.l)∧g1 < w0.heap.size∧w0.heap.size≤w2.heap.size∧Below w0.heap.size w2 w2)
      clear hk hb hov hits F1 F2 F3 F4 ti'
      go_wp2
      clear d0 d1 d2 d3 d4 d5 d6 d7
      go_region_held3 (fun w'=>w'.cell? ⟨g1,1,none⟩=some (.int .i64 p'.k)∧w'.cell? ⟨g1,2,none⟩=some (.int .i64 p'.n)∧w'.cell? ⟨g1,3,none⟩=some (.slice sa p'.its.length sc)∧w'.cell? ⟨g1,4,none⟩=some (.int .i64 p'.set)∧w'.cell? ⟨g1,5,none⟩=some (.int .i64 p'.clr)∧w'.cell? ⟨g1,6,none⟩=some (.bool p'.to)∧w'.cell? ⟨g1,7,none⟩=some (str p'.l)∧g1 < w0.heap.size∧w0.heap.size≤w'.heap.size∧Below w0.heap.size w2 w')
       (first | exact kp7 (by assumption) (by assumption) | exact kp7a (by assumption) _ | exact kp7 Q.out ((Below.refl _ _).drew))
       (first | (refine step_appX (by rfl) (.tmp 68) (.tmp 73) 40 (by rfl) w0.heap.size 93 80 _ elPart (by first | exact T0.out.below (ch1 _ _) | exact T0.out.below (ch2 _ _ _)) (by rfl) _ p' _ (by rfl) (by first | exact heap_at (by simp) | exact heap_at2 (by simp)) hI.out hXl (by decide) ?_;intro xa3 xc3 w3 T3 hb3 hn3)
              | (refine step_appX (by rfl) (.tmp 75) (.tmp 83) 40 (by rfl) w0.heap.size 93 80 _ elPart (by first | exact Two.symm (by assumption) | exact (Two.symm (by assumption)).below (bal (brf _) _)) (by rfl) _ (keepP kd0 p'.its.length) _ (by rfl) (by first | exact heap_at (by simp) | exact hn3 _ _ (T0.out.own_ge (by simp)) (heap_at (by simp)) | exact hn3 _ _ (T0.out.own_ge (by simp)) (heap_at2 (by simp))) RdS.nil hYl (by decide) ?_;intro xa5 xc5 w5 T5 hb5 hn5))
      all_goals
       have hbS:=kp7b (g:=g1) (B:=w0.heap.size) (w0:=w2) (wc:=w5) (by assumption)
       have L5:=Lib.hid (L2.out.grown fix.out T5.symm hbS)
       clear T3 hb3 hn3 T5 hb5 hn5 hbS T0 Q L2 hwB hgB
       obtain ⟨ov,sv,hb,hov,hits⟩:=L5.out.r1
       obtain ⟨sb,sd,rfl,_⟩:=RdS.len hits
       have hfz:∀ i,w5.frozen? ⟨g1,i,none⟩=false:=fun i=>Lib.frozen_of_heap hb _
       have L6:=Lib.hid (L5.out.at1 fix.out (p':=pt0) (o':=o') (set7 hb (.int .i64 0) (.int .i64 0) (.slice none 0 0) (.int .i64 0) (.int .i64 0) (.bool false) (.string ⟨#[]⟩)).2 ⟨_,_,(set7 hb (.int .i64 0) (.int .i64 0) (.slice none 0 0) (.int .i64 0) (.int .i64 0) (.bool false) (.string ⟨#[]⟩)).1,hov,RdS.nil⟩)
       obtain ⟨d0,d1,d2,d3,d4,d5,d6,d7⟩:=P8.of hb
       clear hb hov hits L5
       go_wp2
       go_roundw
       case rel=>exact ⟨_,_,pt0,o',q',u',hnx.out,by simpa using L6.out⟩
       case measure =>
        have h1:=L6.out.r1.wgt
        have h2:=L6.out.r2.wgt
        rw [h1,h2,hw1.out,hw2.out]
        have:=hv1.out;have:=hv2.out;have:=hwl.out;omega
     ·have hp2:(m=true∧(p'.k == 2)=false)∨m=false:=by
       cases hm:m with
       | false=>exact Or.inr rfl
       | true=>exact Or.inl ⟨rfl,by simp;exact fun h=>hA ⟨hm,h⟩⟩
      have hno:=Lib.hid (noput (p:=p') (o:=o') (by
       rcases hp2 with ⟨h1,h2⟩ | h1
       ·exact Or.inl ⟨F1.out h1,by simpa using h2⟩
       ·exact Or.inr (F2.out h1)))
      have hPA:Hid (TP p'∧p'.k≠2∨rdA p' o'=[]):=Lib.hid (by
       rcases hp2 with ⟨h1,h2⟩ | h1
       ·exact Or.inl ⟨F1.out h1,by simpa using h2⟩
       ·exact Or.inr (F2.out h1))
      by_cases hB:m2=true∧q'.k=2
      ·obtain ⟨rfl,hk⟩:=hB
       have hkb:(q'.k == 2)=true:=by simpa using hk
       have htp:=Lib.hid (F3.out rfl)
       have hnx:=Lib.hid (turnI_q ti'.out hno.out htp.out hk)
       have hwl:=Lib.hid (wgt_pt0 htp.out u')
       have hXl:X.length≤1000:=by have:=ti'.out.nx;omega
       have hYl:Y.length≤1000:=by have:=ti'.out.ny;omega
       have hil:=ti'.out.rq.i80.1
       have T0:=Lib.hid L2.out.two
       have hwB:w0.heap.size≤w2.heap.size:=L2.out.two.hB
       have hgB:g2 < w0.heap.size:=fix.out.hi
       obtain ⟨ov1,sv1,hb1,hov1,hits1⟩:=L2.out.r1
       obtain ⟨ov,sv,hb,hov,hits⟩:=L2.out.r2
       obtain ⟨sa,sc,rfl,_⟩:=RdS.len hits
       obtain ⟨sa1,sc1,rfl,_⟩:=RdS.len hits1
       have hI:=Lib.hid hits
       obtain ⟨x0,x1,x2,x3,x4,x5,x6,x7⟩:=P8.of hb1
       obtain ⟨d0,d1,d2,d3,d4,d5,d6,d7⟩:=P8.of hb
       have Q:=Lib.hid (⟨d1,d2,d3,d4,d5,d6,d7,hgB,hwB,Below.refl _ _⟩:w2.cell? ⟨g2,1,none⟩=some (.int .i64 q'.k)∧w2.cell? ⟨g2,2,none⟩=some (.int .i64 q'.n)∧w2.cell? ⟨g2,3,none⟩=some (.slice sa q'.its.length sc)∧w2.cell? ⟨g2,4,none⟩=some (.int .i64 q'.set)∧w2.cell? ⟨g2,5,none⟩=some (.int .i64 q'.clr)∧w2.cell? ⟨g2,6,none⟩=some (.bool q'.to)∧w2.cell? ⟨g2,7,none⟩=some (str q'.l)∧g2 < w0.heap.size∧w0.heap.size≤w2.heap.size∧Below w0.heap.size w2 w2)
       clear hk hb hov hits hb1 hov1 hits1 F1 F2 F3 F4 ti' hA hno hPA x0 x2 x3 x4 x5 x6 x7
       rcases hp2 with ⟨rfl,hp2⟩ | rfl
       all_goals
        go_wp2
        clear d0 d1 d2 d3 d4 d5 d6 d7 x1
        go_region_held3 (fun w'=>w'.cell? ⟨g2,1,none⟩=some (.int .i64 q'.k)∧w'.cell? ⟨g2,2,none⟩=some (.int .i64 q'.n)∧w'.cell? ⟨g2,3,none⟩=some (.slice sa q'.its.length sc)∧w'.cell? ⟨g2,4,none⟩=some (.int .i64 q'.set)∧w'.cell? ⟨g2,5,none⟩=some (.int .i64 q'.clr)∧w'.cell? ⟨g2,6,none⟩=some (.bool q'.to)∧w'.cell? ⟨g2,7,none⟩=some (str q'.l)∧g2 < w0.heap.size∧w0.heap.size≤w'.heap.size∧Below w0.heap.size w2 w')
         (first | exact kp7 (by assumption) (by assumption) | exact kp7a (by assumption) _ | exact kp7 Q.out ((Below.refl _ _).drew))
         (first | (refine step_appX (by rfl) (.tmp 99) (.tmp 107) 40 (by rfl) w0.heap.size 93 80 _ elPart (by first | exact T0.out.below (ch1 _ _) | exact T0.out.below (ch2 _ _ _)) (by rfl) _ (keepP kd0 q'.its.length) _ (by rfl) (by first | exact heap_at (by simp) | exact heap_at2 (by simp)) RdS.nil hXl (by decide) ?_;intro xa3 xc3 w3 T3 hb3 hn3)
                | (refine step_appX (by rfl) (.tmp 109) (.tmp 114) 40 (by rfl) w0.heap.size 93 80 _ elPart (by first | exact Two.symm (by assumption) | exact (Two.symm (by assumption)).below (bal (brf _) _)) (by rfl) _ q' _ (by rfl) (by first | exact heap_at (by simp) | exact hn3 _ _ (T0.out.own_ge (by simp)) (heap_at (by simp)) | exact hn3 _ _ (T0.out.own_ge (by simp)) (heap_at2 (by simp))) hI.out hYl (by decide) ?_;intro xa5 xc5 w5 T5 hb5 hn5))
        all_goals
         have hbS:=kp7b (g:=g2) (B:=w0.heap.size) (w0:=w2) (wc:=w5) (by assumption)
         have L5:=Lib.hid (L2.out.grown fix.out T5.symm hbS)
         clear T3 hb3 hn3 T5 hb5 hn5 hbS T0 Q L2 hwB hgB
         obtain ⟨ov,sv,hb,hov,hits⟩:=L5.out.r2
         obtain ⟨sb,sd,rfl,_⟩:=RdS.len hits
         have hfz:∀ i,w5.frozen? ⟨g2,i,none⟩=false:=fun i=>Lib.frozen_of_heap hb _
         have L6:=Lib.hid (L5.out.at2 fix.out (q':=pt0) (u':=u') (set7 hb (.int .i64 0) (.int .i64 0) (.slice none 0 0) (.int .i64 0) (.int .i64 0) (.bool false) (.string ⟨#[]⟩)).2 ⟨_,_,(set7 hb (.int .i64 0) (.int .i64 0) (.slice none 0 0) (.int .i64 0) (.int .i64 0) (.bool false) (.string ⟨#[]⟩)).1,hov,RdS.nil⟩)
         obtain ⟨d0,d1,d2,d3,d4,d5,d6,d7⟩:=P8.of hb
         clear hb hov hits L5
         go_wp2
         go_roundw
         case rel=>exact ⟨_,_,p',o',pt0,u',hnx.out,by simpa using L6.out⟩
         case measure =>
          have h1:=L6.out.r1.wgt
          have h2:=L6.out.r2.wgt
          rw [h1,h2,hw1.out,hw2.out]
          have:=hv1.out;have:=hv2.out;have:=hwl.out;omega
      ·have hq2:(m2=true∧(q'.k == 2)=false)∨m2=false:=by
        cases hm:m2 with
        | false=>exact Or.inr rfl
        | true=>exact Or.inl ⟨rfl,by simp;exact fun h=>hB ⟨hm,h⟩⟩
       have hQA:Hid (TP q'∧q'.k≠2∨rdA q' u'=[]):=Lib.hid (by
        rcases hq2 with ⟨h1,h2⟩ | h1
        ·exact Or.inl ⟨F3.out h1,by simpa using h2⟩
        ·exact Or.inr (F4.out h1))
       by_cases hC:m=false∨m2=false
       ·have hfin:=hend.out X Y ti'.out.fin.1 ti'.out.fin.2 (turnI_end ti'.out hPA.out hQA.out (by
         rcases hC with h | h
         ·exact Or.inl (F2.out h)
         ·exact Or.inr (F4.out h)))
        have C:=Lib.hid (otTidy_any _ _ _ _ X Y w2 (RX_op L2.out.two.x L2.out.st) (RX_op L2.out.two.y L2.out.st) ti'.out.fin.1 ti'.out.fin.2)
        rw [hfin,hres.out] at C
        have hbel:=L2.out.bel
        obtain ⟨ov1,sv1,hb1,hov1,hits1⟩:=L2.out.r1
        obtain ⟨ov,sv,hb,hov,hits⟩:=L2.out.r2
        obtain ⟨x0,x1,x2,x3,x4,x5,x6,x7⟩:=P8.of hb1
        obtain ⟨d0,d1,d2,d3,d4,d5,d6,d7⟩:=P8.of hb
        clear hb hov hits hb1 hov1 hits1 F1 F2 F3 F4 ti' hA hB hno hPA hQA hfin x0 x2 x3 x4 x5 x6 x7 d0 d2 d3 d4 d5 d6 d7 hres hend L2
        have hway:(m=false∧m2=false)∨(m=false∧m2=true∧(q'.k == 2)=false)∨(m=true∧(p'.k == 2)=false∧m2=false):=by
         rcases hp2 with ⟨h1,h2⟩ | h1 <;> rcases hq2 with ⟨h3,h4⟩ | h3
         ·subst h1 h3;simp at hC
         ·exact Or.inr (Or.inr ⟨h1,h2,h3⟩)
         ·exact Or.inr (Or.inl ⟨h1,h3,h4⟩)
         ·exact Or.inl ⟨h1,h3⟩
        clear hp2 hq2 hC
        rcases hway with ⟨rfl,rfl⟩ | ⟨rfl,rfl,hk⟩ | ⟨rfl,hk,rfl⟩
        all_goals
         go_wp2_with fail
         refine C.out.mono ?_
         rintro e w3 ⟨r3,s3,rfl,hr3,hs3,hb3⟩
         have hr':=Lib.hid (ROp.to hr3 (fr_kp hbel.size (brf _)))
         have hs':=Lib.hid (ROp.to hs3 (fr_kp hbel.size (brf _)))
         clear hr3 hs3
         go_wp2
         go_ret3
         exact ⟨r3,s3,rfl,hr'.out,hs'.out,hbel.trans (hb3.mono hbel.size)⟩
       ·obtain ⟨rfl,rfl⟩:m=true∧m2=true:=by
         cases m <;> cases m2 <;> simp at hC <;> exact ⟨rfl,rfl⟩
        have hp:(p'.k == 2)=false:=by rcases hp2 with ⟨_,h⟩ | h;exact h;simp at h
        have hq:(q'.k == 2)=false:=by rcases hq2 with ⟨_,h⟩ | h;exact h;simp at h
        have htp:=Lib.hid (F1.out rfl)
        have htq:=Lib.hid (F3.out rfl)
        have hpk2:Hid (p'.k≠2):=Lib.hid (by simpa using hp)
        have hqk2:Hid (q'.k≠2):=Lib.hid (by simpa using hq)
        have hp0:=htp.out.pos2 hpk2.out
        have hq0:=htq.out.pos2 hqk2.out
        have hp8:=ti'.out.rp.n80.1
        have hq8:=ti'.out.rq.n80.1
        obtain ⟨n,hn⟩:∃ n,min p'.n q'.n=n:=⟨_,rfl⟩
        have hn0:0 < n:=by omega
        have hn1:n≤p'.n:=by omega
        have hn2:n≤q'.n:=by omega
        have hnn:Hid (n=p'.n∨n=q'.n):=Lib.hid (by omega)
        have hwp:=Lib.hid (wgt_rest hn0 hn1 o')
        have hwq:=Lib.hid (wgt_rest hn0 hn2 u')
        have hXl:X.length≤1000:=by have:=ti'.out.nx;omega
        have hYl:Y.length≤1000:=by have:=ti'.out.ny;omega
        obtain ⟨s,hs⟩:∃ s,takeN p' n=s:=⟨_,rfl⟩
        obtain ⟨t,ht⟩:∃ t,takeN q' n=t:=⟨_,rfl⟩
        have C3:=Lib.hid (rtake_any Fr w0 w2.drew g1 p' o' n (L2.out.below fix.out (ch0 _)).r1 (by omega) hn1 hp8)
        have C4:=Lib.hid (fun (w3:World) (h:Rdr 278 Fr w0 w3 g2 q' u')=>rtake_any Fr w0 w3 g2 q' u' n h (by omega) hn2 hq8)
        rw [hs] at C3
        rw [ht] at C4
        have hsk:Hid (s.k=p'.k∧s.its=p'.its):=Lib.hid (by rw [← hs];exact ⟨rfl,rfl⟩)
        have htk:Hid (t.k=q'.k∧t.its=q'.its):=Lib.hid (by rw [← ht];exact ⟨rfl,rfl⟩)
        have hs':=Lib.hid hs
        have ht':=Lib.hid ht
        obtain ⟨ov1,sv1,hb1,hov1,hits1⟩:=L2.out.r1
        obtain ⟨ov,sv,hb,hov,hits⟩:=L2.out.r2
        obtain ⟨x0,x1,x2,x3,x4,x5,x6,x7⟩:=P8.of hb1
        obtain ⟨d0,d1,d2,d3,d4,d5,d6,d7⟩:=P8.of hb
        clear hs ht hb hov hits hb1 hov1 hits1 F1 F2 F3 F4 hA hB hno hPA hQA hp2 hq2 hC x0 x3 x4 x5 x6 x7 d0 d3 d4 d5 d6 d7 hres hend
        go_wp2
        have Q2:w2.cell? ⟨g1,2,none⟩=some (.int .i64 p'.n)∧w2.cell? ⟨g2,2,none⟩=some (.int .i64 q'.n):=⟨x2,d2⟩
        go_region_held3 (fun w'=>w'.cell? ⟨g1,2,none⟩=some (.int .i64 p'.n)∧w'.cell? ⟨g2,2,none⟩=some (.int .i64 q'.n)) (first | assumption | exact Q2) (fail)
        go_wp2_with fail
        refine C3.out.mono ?_
        rintro e w3 ⟨sa,sc,rfl,hI3,hr3,hs3⟩
        have L3:=Lib.hid ((L2.out.below fix.out (ch0 _)).at1 fix.out hs3 hr3)
        have hI3':=Lib.hid hI3
        have C4':=Lib.hid (C4.out w3 L3.out.r2)
        clear C3 C4 hr3 hs3 hI3 Q2 L2
        go_wp2_with fail
        refine C4'.out.mono ?_
        rintro e w4 ⟨ta,tc,rfl,hI4,hr4,hs4⟩
        have L4:=Lib.hid (L3.out.at2 fix.out hs4 hr4)
        have hI4':=Lib.hid hI4
        clear C4' hr4 hs4 hI4 L3
        go_upto_region 24 with (fail)
        refine name_world ?_
        intro w5 hW5
        have hb45:Below w4.heap.size w4 w5:=by rw [← hW5];exact bal (bal (brf _) _) _
        have hs5:w5.heap[w4.heap.size]?=some (.cells #[.int .i64 s.k,.int .i64 s.n,.slice sa p'.its.length sc,.int .i64 s.set,.int .i64 s.clr,.bool s.to,str s.l] 93 (0,0)):=by rw [← hW5];exact heap_at2 rfl
        have ht5:w5.heap[w4.heap.size+1]?=some (.cells #[.int .i64 t.k,.int .i64 t.n,.slice ta q'.its.length tc,.int .i64 t.set,.int .i64 t.clr,.bool t.to,str t.l] 93 (0,0)):=by rw [← hW5];exact heap_at (by simp)
        have hS:=Lib.hid (⟨P7.of hs5,P7.of ht5⟩:S14 w4.heap.size (w4.heap.size+1) (.slice sa p'.its.length sc) (.slice ta q'.its.length tc) s t w5)
        have L5:=Lib.hid (L4.out.below fix.out hb45)
        have T4:=Lib.hid L4.out.two
        have hwB:w0.heap.size≤w5.heap.size:=L5.out.two.hB
        have hz5:w4.heap.size+1 < w5.heap.size:=lt_of_heap ht5
        rw [← hsk.out.2] at hI3' hS
        rw [← htk.out.2] at hI4' hS
        clear hW5 hs5 ht5 hb45 L4
        obtain ⟨gs,hgs⟩:∃ g,g=w4.heap.size:=⟨_,rfl⟩
        obtain ⟨gt,hgt⟩:∃ g,g=w4.heap.size+1:=⟨_,rfl⟩
        have hgs4:w4.heap.size≤gs:=by omega
        have hgt4:w4.heap.size≤gt:=by omega
        rw [← hgt,← hgs] at hS
        rw [← hgt,← hgs,← hsk.out.2,← htk.out.2]
        clear hgs hgt hp0 hq0 hp8 hq8 hn
        have hnn1:=Lib.hid hn1
        have hnn2:=Lib.hid hn2
        clear hn1 hn2
        by_cases hp1:p'.k=1
        ·by_cases hq1:q'.k=1
         ·have a1:(s.k == 1)=true:=by rw [hsk.out.1];simpa using hp1
          have b1:(t.k == 1)=true:=by rw [htk.out.1];simpa using hq1
          have hnx:=Lib.hid (turnI_kk ti'.out htp.out hp1 htq.out hq1 hn0 hnn1.out hnn2.out hnn.out)
          rw [hs'.out,ht'.out] at hnx
          clear hp1 hq1 hp hq
          have Q:=Lib.hid (kpM (w5:=w5) hS.out hwB (Below.refl w0.heap.size w5))
          have n1:=T4.out.own_ge hgs4
          have n2:=T4.out.own_ge hgt4
          have n3:=T4.out.symm.own_ge hgs4
          have n4:=T4.out.symm.own_ge hgt4
          have T5:=Lib.hid L5.out.two
          obtain ⟨c0,c1,c2,c3,c4,c5,c6⟩:=hS.out.1
          obtain ⟨y0,y1,y2,y3,y4,y5,y6⟩:=hS.out.2
          go_wp2
          clear c0 c1 c2 c3 c4 c5 c6 y0 y1 y2 y3 y4 y5 y6
          go_region_held3 (fun w'=>w'.cell? ⟨gs,0,none⟩=some (.int .i64 s.k)∧w'.cell? ⟨gs,1,none⟩=some (.int .i64 s.n)∧w'.cell? ⟨gs,2,none⟩=some (.slice sa s.its.length sc)∧w'.cell? ⟨gs,3,none⟩=some (.int .i64 s.set)∧w'.cell? ⟨gs,4,none⟩=some (.int .i64 s.clr)∧w'.cell? ⟨gs,5,none⟩=some (.bool s.to)∧w'.cell? ⟨gs,6,none⟩=some (str s.l)∧w'.cell? ⟨gt,0,none⟩=some (.int .i64 t.k)∧w'.cell? ⟨gt,1,none⟩=some (.int .i64 t.n)∧w'.cell? ⟨gt,2,none⟩=some (.slice ta t.its.length tc)∧w'.cell? ⟨gt,3,none⟩=some (.int .i64 t.set)∧w'.cell? ⟨gt,4,none⟩=some (.int .i64 t.clr)∧w'.cell? ⟨gt,5,none⟩=some (.bool t.to)∧w'.cell? ⟨gt,6,none⟩=some (str t.l)∧w0.heap.size≤w'.heap.size∧Below w0.heap.size w5 w')
           (first | exact kpG (by assumption) n1 n2 (by assumption) (by assumption) | exact kpG (by assumption) n3 n4 (by assumption) (by assumption) | exact kpB (by assumption) (bal (brf _) _) | exact kpB (by assumption) (by assumption) | exact kpB Q.out (ch0 _))
           (first | (refine step_appX (by rfl) (.tmp 159) (.tmp 161) 40 (by rfl) w0.heap.size 93 80 _ elPart (T5.out.below (ch1 _ _)) (by rfl) _ s _ (by rfl) (heap_at (by simp)) hI3'.out hXl (by decide) ?_;intro xa6 xc6 w6 T6 hb6 hn6)
                  | (go_at_call 242;(with_reducible refine (over_any t s _ _ _ ⟨_,_,_,rfl⟩).mono ?_);rintro e w7 ⟨rfl,hb7⟩;have T7:=T6.below hb7)
                  | (refine step_appX (by rfl) (.tmp 163) (.tmp 167) 40 (by rfl) w0.heap.size 93 80 _ elPart (T7.symm.below (bal (brf _) _)) (by rfl) _ (overP t s) _ (by rfl) (heap_at (by simp)) hI4'.out hYl (by decide) ?_;intro xa8 xc8 w8 T8 hb8 hn8))
          all_goals
           obtain ⟨_,_,hbS⟩:=kpU (gs:=gs) (gt:=gt) (B:=w0.heap.size) (w5:=w5) (wc:=w8) (x:=s) (y:=t) (by assumption)
           have L6:=Lib.hid (L5.out.grown fix.out T8.symm hbS)
           clear T6 T7 hb7 hb6 hn6 T8 hb8 hn8 hbS T5 Q L5 hwB
           go_wp2
           go_roundw
           case rel=>exact ⟨_,_,restN p' n,o',restN q' n,u',hnx.out,L6.out⟩
           case measure =>
            have h1:=L6.out.r1.wgt
            have h2:=L6.out.r2.wgt
            rw [h1,h2,hw1.out,hw2.out]
            have:=hv1.out;have:=hv2.out;have:=hwp.out;have:=hwq.out;omega
         ·have a1:(s.k == 1)=true:=by rw [hsk.out.1];simpa using hp1
          have a3:(s.k == 3)=false:=by rw [hsk.out.1];simp;omega
          have b1:(t.k == 1)=false:=by rw [htk.out.1];simpa using hq1
          have b3:(t.k == 3)=true:=by rw [htk.out.1];have:=htq.out.k4;have:=hqk2.out;simp;omega
          have hnx:=Lib.hid (turnI_kc ti'.out htp.out hp1 htq.out hq1 hqk2.out hn0 hnn1.out hnn2.out hnn.out)
          rw [ht'.out] at hnx
          clear hp1 hq1 hp hq
          obtain ⟨c0,c1,c2,c3,c4,c5,c6⟩:=hS.out.1
          obtain ⟨y0,y1,y2,y3,y4,y5,y6⟩:=hS.out.2
          go_wp2_with (at_builtin;refine wpList_appX rfl (.tmp 191) (.tmp 193) 40 rfl w0.heap.size 93 80 _ elPart (L5.out.two.symm.below (bal (brf _) _)) rfl _ t _ rfl (heap_at (by simp)) hI4'.out hYl (by decide) ?_;intro xa6 xc6 w6 T6 hb6 hn6)
          have L6:=Lib.hid ((L5.out.below fix.out (bal (brf _) _)).grown fix.out T6.symm hb6)
          go_roundw
          case rel=>exact ⟨_,_,restN p' n,o',restN q' n,u',hnx.out,L6.out⟩
          case measure =>
           have h1:=L6.out.r1.wgt
           have h2:=L6.out.r2.wgt
           rw [h1,h2,hw1.out,hw2.out]
           have:=hv1.out;have:=hv2.out;have:=hwp.out;have:=hwq.out;omega
        ·by_cases hq1:q'.k=1
         ·have a1:(s.k == 1)=false:=by rw [hsk.out.1];simpa using hp1
          have a3:(s.k == 3)=true:=by rw [hsk.out.1];have:=htp.out.k4;have:=hpk2.out;simp;omega
          have b1:(t.k == 1)=true:=by rw [htk.out.1];simpa using hq1
          have hnx:=Lib.hid (turnI_ck ti'.out htp.out hp1 hpk2.out htq.out hq1 hn0 hnn1.out hnn2.out hnn.out)
          rw [hs'.out] at hnx
          clear hp1 hq1 hp hq
          obtain ⟨c0,c1,c2,c3,c4,c5,c6⟩:=hS.out.1
          obtain ⟨y0,y1,y2,y3,y4,y5,y6⟩:=hS.out.2
          go_wp2_with (at_builtin;refine wpList_appX rfl (.tmp 178) (.tmp 180) 40 rfl w0.heap.size 93 80 _ elPart (L5.out.two.below (bal (brf _) _)) rfl _ s _ rfl (heap_at (by simp)) hI3'.out hXl (by decide) ?_;intro xa6 xc6 w6 T6 hb6 hn6)
          have L6:=Lib.hid ((L5.out.below fix.out (bal (brf _) _)).grown fix.out T6 hb6)
          go_roundw
          case rel=>exact ⟨_,_,restN p' n,o',restN q' n,u',hnx.out,L6.out⟩
          case measure =>
           have h1:=L6.out.r1.wgt
           have h2:=L6.out.r2.wgt
           rw [h1,h2,hw1.out,hw2.out]
           have:=hv1.out;have:=hv2.out;have:=hwp.out;have:=hwq.out;omega
         ·have a1:(s.k == 1)=false:=by rw [hsk.out.1];simpa using hp1
          have a3:(s.k == 3)=true:=by rw [hsk.out.1];have:=htp.out.k4;have:=hpk2.out;simp;omega
          have b1:(t.k == 1)=false:=by rw [htk.out.1];simpa using hq1
          have hnx:=Lib.hid (turnI_cc ti'.out htp.out hp1 hpk2.out htq.out hq1 hqk2.out hn0 hnn1.out hnn2.out hnn.out)
          clear hp1 hq1 hp hq
          obtain ⟨c0,c1,c2,c3,c4,c5,c6⟩:=hS.out.1
          obtain ⟨y0,y1,y2,y3,y4,y5,y6⟩:=hS.out.2
          go_wp2
          have L6:=L5
          go_roundw
          case rel=>exact ⟨_,_,restN p' n,o',restN q' n,u',hnx.out,L6.out⟩
          case measure =>
           have h1:=L6.out.r1.wgt
           have h2:=L6.out.r2.wgt
           rw [h1,h2,hw1.out,hw2.out]
           have:=hv1.out;have:=hv2.out;have:=hwp.out;have:=hwq.out;omega
   ·have hr3:=hres.out
    rw [turnP,if_neg (by simpa using hca.out),if_neg (by simpa using hcb.out),if_pos hf] at hr3
    cases hr3
    have hfb:((frm (acts a):Int) != (frm (acts b):Int))=true:=by simp;omega
    clear hf hres oka okb
    generalize frm (acts a)=fa at *
    generalize frm (acts b)=fb at *
    go_wp2
    go_ret3
    exact ⟨.slice none 0 0,.slice none 0 0,rfl,RdS.nil,RdS.nil,hB4⟩
end Go.Proofs.YteikncnldbdfmaaGreatDoor
