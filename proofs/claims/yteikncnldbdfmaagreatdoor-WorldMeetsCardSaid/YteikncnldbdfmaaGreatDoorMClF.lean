import Derived.Test.YteikncnldbdfmaaGreatDoorMCl
import Derived.Test.YteikncnldbdfmaaGreatDoorMOtTurn
import Derived.Test.YteikncnldbdfmaaGreatDoorMDoc
import Derived.Deep.DeepCutAuto
import Derived.Deep.CutBlock
import Derived.Test.YteikncnldbdfmaaGreatDoorMOtJoin
namespace Go.Mh
open Go.RowKit
theorem applyP_len {d:List It} {o:List Pt} (h:(applyP d o).2=0):(applyP d o).1.length≤100000:=by
 have:=(chkDoc_ok (apply_ok h).2).2;omega
theorem t2_0 {o s k:List Pt} (hs:s=[]):turn2 o s k=some ([],k):=by simp only [turn2,if_pos hs]
theorem t2_e {o s k:List Pt} (hs:s≠[]) (he:(turnP o s).2.2≠0):turn2 o s k=none:=by simp only [turn2,if_neg hs,if_pos he]
theorem t2_1 {o s k:List Pt} (hs:s≠[]) (he:(turnP o s).2.2=0) (hk:k=[]):turn2 o s k=some ((turnP o s).2.1,[]):=by simp only [turn2,if_neg hs,he,if_pos hk];simp
theorem t2_e2 {o s k:List Pt} (hs:s≠[]) (he:(turnP o s).2.2=0) (hk:k≠[]) (h2:(turnP (turnP o s).1 k).2.2≠0):turn2 o s k=none:=by simp only [turn2,if_neg hs,he,if_neg hk,if_pos h2];simp
theorem t2_2 {o s k:List Pt} (hs:s≠[]) (he:(turnP o s).2.2=0) (hk:k≠[]) (h2:(turnP (turnP o s).1 k).2.2=0):turn2 o s k=some ((turnP o s).2.1,(turnP (turnP o s).1 k).2.1):=by simp only [turn2,if_neg hs,he,if_neg hk,h2];simp
theorem o2_0 {d:List It} {s k:List Pt} (hs:s=[]):owns2 d s k=(d,0):=by simp only [owns2,if_pos hs]
theorem o2_e {d:List It} {s k:List Pt} (hs:s≠[]) (he:(applyP d s).2≠0):(owns2 d s k).2≠0:=by simp only [owns2,if_neg hs,if_pos he];exact he
theorem o2_1 {d:List It} {s k:List Pt} (hs:s≠[]) (he:(applyP d s).2=0) (hk:k=[]):owns2 d s k=((applyP d s).1,0):=by simp only [owns2,if_neg hs,he,if_pos hk];simp [← he]
theorem o2_2 {d:List It} {s k:List Pt} (hs:s≠[]) (he:(applyP d s).2=0) (hk:k≠[]):owns2 d s k=applyP (applyP d s).1 k:=by simp only [owns2,if_neg hs,he,if_neg hk];simp
theorem frF {T e:TypeId} {B g:Nat} {F:Nat→Prop} {w w3:World} {xs:Array Value} {fr:Nat × Nat} (hN:∀ k,B≤k→F k) (hg:w3.heap[g]?=some (.cells xs e fr)) (hT:e≠T)
  (hF:∀ k,¬ F k→k=g∨∃ xs fr T',w.heap[k]?=some (.cells xs T' fr)∧T'≠T) (hs:Stays g w w3):Kp (Fr T B w3) F w3 w3:=fun k hk _=>by
 refine ⟨?_,rfl⟩
 rcases hk with h | ⟨xs',fr',e'⟩
 ·exact hN k h
 ·refine Classical.byContradiction fun hn=>?_
  by_cases hkg:k=g
  ·subst hkg
   rw [hg] at e'
   cases e'
   exact hT rfl
  ·rcases hF k hn with h | ⟨xs2,fr2,T2,e2,h2⟩
   ·exact hkg h
   ·rw [hs.same k (lt_of_heap e2) hkg,e2] at e'
    cases e'
    exact h2 rfl
theorem otherC_e {c:Cl} {o:List Pt} (h:(applyP c.base o).2≠0):otherC c o=c:=by simp only [otherC,if_pos h]
theorem otherC_give {c:Cl} {o:List Pt} (h:(applyP c.base o).2=0) (ht:turn2 o c.sent c.held=none):otherC c o=giveC { c with base:=(applyP c.base o).1,rev:=c.rev+1 }:=by
 simp only [otherC,h,ht];simp
theorem otherC_give2 {c:Cl} {o s k:List Pt} (h:(applyP c.base o).2=0) (ht:turn2 o c.sent c.held=some (s,k)) (h2:(owns2 (applyP c.base o).1 s k).2≠0):otherC c o=giveC { c with base:=(applyP c.base o).1,rev:=c.rev+1 }:=by
 simp only [otherC,h,ht,if_pos h2];simp
theorem otherC_ok {c:Cl} {o s k:List Pt} {D:List It} (h:(applyP c.base o).2=0) (ht:turn2 o c.sent c.held=some (s,k)) (h2:owns2 (applyP c.base o).1 s k=(D,0)):otherC c o={ c with base:=(applyP c.base o).1,rev:=c.rev+1,sent:=s,held:=k,now:=D }:=by
 simp only [otherC,h,ht,h2];simp
end Go.Mh
namespace Go.Proofs.YteikncnldbdfmaaGreatDoor
open Go.RowKit Go.Mh
theorem idp_0 (v0 v1:Value) (w:World):(Instr.index 284 (.agg #[v0,v1]) (.int .i64 0)).run Tryz.prog w=.ok v0 w:=by kernel_rfl
theorem idp_1 (v0 v1:Value) (w:World):(Instr.index 284 (.agg #[v0,v1]) (.int .i64 1)).run Tryz.prog w=.ok v1 w:=by kernel_rfl
set_option maxRecDepth 100000 in
set_option maxHeartbeats 4000000 in
theorem clOther_any (F:Nat→Prop) (g:Nat) (v:Value) (c:Cl) (o:List Pt) (w:World) (h:CAt 52 F w g c) (hv:ROp F w v o) (hT:∀ k,¬ F k→k=g∨∃ xs fr T',w.heap[k]?=some (.cells xs T' fr)∧T'≠58) (hr0:0≤c.rev) (hr1:c.rev≤60) :
  Calls Tryz.prog 198 #[.pointer (some ⟨g,0,none⟩),v] w fun e w'=>e=.returned (.tuple #[])∧CAt 52 F w' g (otherC c o)∧Stays g w w':=by
 have hg:=h.lt
 have H:=Lib.hid h
 have V:=Lib.hid hv
 have i0:=idp_0 (.pointer (some ⟨g,4,none⟩)) (.pointer (some ⟨g,5,none⟩))
 have i1:=idp_1 (.pointer (some ⟨g,4,none⟩)) (.pointer (some ⟨g,5,none⟩))
 have hwr:IntKind.i64.wrap (c.rev+1)=c.rev+1:=IntWalk.i64_in _ (by omega)
 obtain ⟨hF,hN,b,n,s,k,h0,h1,h2,h3,h4⟩:=h
 obtain ⟨ba,bc,rfl,_⟩:=RdS.len h1
 have C:=Lib.hid (opApply_any _ _ _ v c.base o w h1 hv)
 obtain ⟨x0,x1,x2,x3,x4,x5,x6⟩:=P7.of h0
 clear h0 h1 h2 h3 h4 hv
 go_enter Tryz.func198,Tryz.ntmps198
 go_wp2_with fail
 refine C.out.mono ?_
 rintro e w1 ⟨r1,rfl,hr1',hb1⟩
 have H1:=Lib.hid (H.out.below hb1)
 have R1:=Lib.hid (RItems.to hr1' (fun k h1 h2=>⟨hN k h1,rfl⟩):RItems F w1 r1 (applyP c.base o).1)
 have V1:=Lib.hid (ROp.to V.out (Kp.below hb1))
 have S1:=Lib.hid (Stays.of hb1 (Nat.le_of_lt hg))
 obtain ⟨ra,rc,rfl,_⟩:=RdS.len hr1'
 clear x0 x1 x2 x3 x4 x5 x6 C H V hr1'
 by_cases he:(applyP c.base o).2=0
 ·have heq0:=Lib.hid he
  have hlen:=Lib.hid (applyP_len he)
  rw [he]
  clear he
  have H2:=Lib.hid ((H1.out.set1 R1.out).set0 (c.rev+1))
  have V2:=Lib.hid (ROp.to V1.out (kp_stays hF ((Stays.set (i:=1) (u:=.slice ra (applyP c.base o).1.length rc)).trans (Stays.set (i:=0) (u:=.int .i64 (c.rev+1))))))
  have S2:=Lib.hid (S1.out.trans ((Stays.set (i:=1) (u:=.slice ra (applyP c.base o).1.length rc)).trans (Stays.set (i:=0) (u:=.int .i64 (c.rev+1)))))
  obtain ⟨_,hN1,b,n,s,k,h0,h1,h2,h3,h4⟩:=H1.out
  have hfz:∀ i,w1.frozen? ⟨g,i,none⟩=false:=fun i=>Lib.frozen_of_heap h0 _
  have hg1:g < w1.heap.size:=lt_of_heap h0
  obtain ⟨x0,x1,x2,x3,x4,x5,x6⟩:=P7.of h0
  clear h0 h1 h2 h3 h4 H1 R1 V1 S1
  go_upto_region 4 with fail
  refine name_world ?_
  intro w2 hW2
  rw [hW2] at H2 V2 S2
  clear hW2 x0 x1 x2 x3 x4 x5 x6 hfz
  go_region
  have HT:=Lib.hid hT
  clear hT
  go_upto_block 0 with fail
  go_cut [1] (fun s1 wx=>∃ s' h',CAt 52 F wx g { c with base:=(applyP c.base o).1,rev:=c.rev+1,sent:=s',held:=h' }∧Stays g w wx∧Hid (turn2 o c.sent c.held=some (s',h')))
  case first =>
   go_wp2_with fail
   go_loopw [1,43] (fun ov i wr=>∃ k:Nat,k≤2∧i=.int .i64 k∧∃ s' h' o',CAt 52 F wr g { c with base:=(applyP c.base o).1,rev:=c.rev+1,sent:=s',held:=h' }∧ROp F wr ov o'∧Stays g w wr∧Hid (k=0→s'=c.sent∧h'=c.held∧o'=o)∧Hid (k=1→c.sent≠[]∧(turnP o c.sent).2.2=0∧s'=(turnP o c.sent).2.1∧h'=c.held∧o'=(turnP o c.sent).1)∧Hid (k=2→turn2 o c.sent c.held=some (s',h'))) (fun _ i _=>2 - (intOf i).toNat)
   case atStart=>exact ⟨0,by omega,rfl,c.sent,c.held,o,H2.out.drew,V2.out,S2.out.drew,Lib.hid fun _=>⟨rfl,rfl,rfl⟩,Lib.hid fun h=>by omega,Lib.hid fun h=>by omega⟩
   case round =>
    obtain ⟨k,hk,rfl,s',h',o',hcat,hv,hs,q0,q1,q2⟩:=hrel
    have hc':=Lib.hid hcat
    have hv':=Lib.hid hv
    have hs':=Lib.hid hs
    obtain ⟨_,hN2,b,n,sv,kv,e0,e1,e2,e3,e4⟩:=hcat
    obtain ⟨ba2,bc2,rfl,_⟩:=RdS.len e1
    obtain ⟨na2,nc2,rfl,_⟩:=RdS.len e2
    obtain ⟨sa2,sc2,rfl,_⟩:=RdS.len e3
    obtain ⟨ka2,kc2,rfl,_⟩:=RdS.len e4
    obtain ⟨x0,x1,x2,x3,x4,x5,x6⟩:=P7.of e0
    have E0:=Lib.hid e0
    have E3:=Lib.hid e3
    have E4:=Lib.hid e4
    have HN2:=Lib.hid hN2
    have hgr:g < wr.heap.size:=lt_of_heap e0
    clear e0 e1 e2 e3 e4 hv hs hN2
    rcases (by omega:k=0∨k=1∨k=2) with rfl | rfl | rfl
    ·obtain ⟨p1,p2,p3⟩:=q0.out rfl
     have p3':=p3.symm
     subst p1 p2 p3'
     clear q0 q1 q2 p3
     by_cases hs0:c.sent=[]
     ·have t1:=len0_true hs0
      have ht:=Lib.hid (t2_0 (o:=o) (k:=c.held) hs0)
      have hss:({ c with base:=(applyP c.base o).1,rev:=c.rev+1,sent:=c.sent,held:=c.held }:Cl)={ c with base:=(applyP c.base o).1,rev:=c.rev+1,sent:=[],held:=c.held }:=by rw [hs0]
      have hfin:=Lib.hid (hss ▸ hc'.out)
      clear hs0 hss
      go_wp2
      go_meet
      exact ⟨_,_,hfin.out,hs'.out,ht⟩
     ·have t1:=len0_false hs0
      have CT:=Lib.hid (otTurn_any F F _ _ o c.sent wr hv'.out E3.out)
      by_cases he0:(turnP o c.sent).2.2=0
      ·rw [he0] at CT
       have hst:=Lib.hid (⟨hs0,he0⟩:c.sent≠[]∧(turnP o c.sent).2.2=0)
       clear he0 hs0
       go_wp2_with fail
       refine CT.out.mono ?_
       rintro e w3 ⟨ra3,rb3,rfl,ha3,hb3,hbel⟩
       obtain ⟨ya,yc,rfl,_⟩:=RdS.len hb3
       have E03:=Lib.hid ((hbel.block g hgr).trans E0.out)
       have S3:=hs'.out.trans (Stays.of hbel (Nat.le_of_lt hgr))
       have kf:=frF HN2.out E03.out (by decide) HT.out S3
       have A3:=Lib.hid (ROp.to ha3 kf)
       have B3:=Lib.hid (ROp.to hb3 kf)
       have H3:=Lib.hid (hc'.out.below hbel)
       have H4:=Lib.hid (H3.out.set4 B3.out)
       have A4:=Lib.hid (ROp.to A3.out (kp_stays H3.out.1 (Stays.set (i:=4) (u:=.slice ya (turnP o c.sent).2.1.length yc))))
       have S4:=Lib.hid (S3.trans (Stays.set (i:=4) (u:=.slice ya (turnP o c.sent).2.1.length yc)))
       have hfz:∀ i,w3.frozen? ⟨g,i,none⟩=false:=fun i=>Lib.frozen_of_heap E03.out _
       have hg3:g < w3.heap.size:=lt_of_heap E03.out
       clear x0 x1 x2 x3 x4 x5 x6 ha3 hb3 CT S3 kf A3 B3 H3
       obtain ⟨x0,x1,x2,x3,x4,x5,x6⟩:=P7.of E03.out
       go_wp2
       go_roundw
       case rel=>exact ⟨1,by omega,rfl,_,_,_,H4.out,A4.out,S4.out,Lib.hid fun h=>by omega,Lib.hid fun _=>⟨hst.out.1,hst.out.2,rfl,rfl,rfl⟩,Lib.hid fun h=>by omega⟩
       case measure=>simp [intOf]
      ·have ht:=Lib.hid (t2_e (k:=c.held) hs0 he0)
       have he':((turnP o c.sent).2.2 != 0)=true:=by simpa using he0
       clear he0 hs0
       go_wp2_with fail
       refine CT.out.mono ?_
       rintro e w3 ⟨ra3,rb3,rfl,ha3,hb3,hbel⟩
       have H3:=Lib.hid (hc'.out.below hbel)
       have S3:=Lib.hid (hs'.out.trans (Stays.of hbel (Nat.le_of_lt hgr)))
       clear ha3 hb3 x0 x1 x2 x3 x4 x5 x6 CT
       go_wp2_with fail
       refine (clGive_any F g _ w3 H3.out hlen.out).mono ?_
       rintro e w4 ⟨rfl,H4,S4⟩
       go_wp2
       exact bodyPost_ret (v:=.tuple #[]) (by simp [results,Tryz.results198]) rfl ⟨rfl,by rw [(otherC_give heq0.out ht.out)];exact H4,S3.out.trans S4⟩
    ·obtain ⟨p1,p2,p3,p4,p5⟩:=q1.out rfl
     subst p3 p4 p5
     clear q0 q1 q2
     by_cases hs0:c.held=[]
     ·have t1:=len0_true hs0
      have ht:=Lib.hid (t2_1 (o:=o) p1 p2 hs0)
      have hss:({ c with base:=(applyP c.base o).1,rev:=c.rev+1,sent:=(turnP o c.sent).2.1,held:=c.held }:Cl)={ c with base:=(applyP c.base o).1,rev:=c.rev+1,sent:=(turnP o c.sent).2.1,held:=[] }:=by rw [hs0]
      have hfin:=Lib.hid (hss ▸ hc'.out)
      clear hs0 hss p1 p2
      go_wp2
      go_meet
      exact ⟨_,_,hfin.out,hs'.out,ht⟩
     ·have t1:=len0_false hs0
      have CT:=Lib.hid (otTurn_any F F _ _ (turnP o c.sent).1 c.held wr hv'.out E4.out)
      by_cases he0:(turnP (turnP o c.sent).1 c.held).2.2=0
      ·rw [he0] at CT
       have hst:=Lib.hid (t2_2 p1 p2 hs0 he0)
       clear he0 hs0
       go_wp2_with fail
       refine CT.out.mono ?_
       rintro e w3 ⟨ra3,rb3,rfl,ha3,hb3,hbel⟩
       obtain ⟨ya,yc,rfl,_⟩:=RdS.len hb3
       have E03:=Lib.hid ((hbel.block g hgr).trans E0.out)
       have S3:=hs'.out.trans (Stays.of hbel (Nat.le_of_lt hgr))
       have kf:=frF HN2.out E03.out (by decide) HT.out S3
       have A3:=Lib.hid (ROp.to ha3 kf)
       have B3:=Lib.hid (ROp.to hb3 kf)
       have H3:=Lib.hid (hc'.out.below hbel)
       have H4:=Lib.hid (H3.out.set5 B3.out)
       have A4:=Lib.hid (ROp.to A3.out (kp_stays H3.out.1 (Stays.set (i:=5) (u:=.slice ya (turnP (turnP o c.sent).1 c.held).2.1.length yc))))
       have S4:=Lib.hid (S3.trans (Stays.set (i:=5) (u:=.slice ya (turnP (turnP o c.sent).1 c.held).2.1.length yc)))
       have hfz:∀ i,w3.frozen? ⟨g,i,none⟩=false:=fun i=>Lib.frozen_of_heap E03.out _
       have hg3:g < w3.heap.size:=lt_of_heap E03.out
       clear x0 x1 x2 x3 x4 x5 x6 ha3 hb3 CT S3 kf A3 B3 H3
       obtain ⟨x0,x1,x2,x3,x4,x5,x6⟩:=P7.of E03.out
       go_wp2
       go_roundw
       case rel=>exact ⟨2,by omega,rfl,_,_,_,H4.out,A4.out,S4.out,Lib.hid fun h=>by omega,Lib.hid fun h=>by omega,Lib.hid fun _=>hst.out⟩
       case measure=>simp [intOf]
      ·have ht:=Lib.hid (t2_e2 p1 p2 hs0 he0)
       have he':((turnP (turnP o c.sent).1 c.held).2.2 != 0)=true:=by simpa using he0
       clear he0 hs0
       go_wp2_with fail
       refine CT.out.mono ?_
       rintro e w3 ⟨ra3,rb3,rfl,ha3,hb3,hbel⟩
       have H3:=Lib.hid (hc'.out.below hbel)
       have S3:=Lib.hid (hs'.out.trans (Stays.of hbel (Nat.le_of_lt hgr)))
       clear ha3 hb3 x0 x1 x2 x3 x4 x5 x6 CT
       go_wp2_with fail
       refine (clGive_any F g _ w3 H3.out hlen.out).mono ?_
       rintro e w4 ⟨rfl,H4,S4⟩
       go_wp2
       exact bodyPost_ret (v:=.tuple #[]) (by simp [results,Tryz.results198]) rfl ⟨rfl,by rw [(otherC_give heq0.out ht.out)];exact H4,S3.out.trans S4⟩
    ·have ht:=Lib.hid (q2.out rfl)
     clear q0 q1 q2
     go_wp2
     go_meet
     exact ⟨_,_,hc'.out,hs'.out,ht⟩
  case rest =>
   obtain ⟨s',h',H,S,ht⟩:=hcut
   have H0':=Lib.hid H
   have S0':=Lib.hid S
   obtain ⟨_,hN2,b,n,sv,kv,e0,e1,e2,e3,e4⟩:=H
   obtain ⟨ba2,bc2,rfl,_⟩:=RdS.len e1
   obtain ⟨na2,nc2,rfl,_⟩:=RdS.len e2
   obtain ⟨sa2,sc2,rfl,_⟩:=RdS.len e3
   obtain ⟨ka2,kc2,rfl,_⟩:=RdS.len e4
   obtain ⟨x0,x1,x2,x3,x4,x5,x6⟩:=P7.of e0
   have E0c:=Lib.hid e0
   have C:=Lib.hid (cloneDoc_any F _ (applyP c.base o).1 wc e1 hlen.out)
   have E3c:=Lib.hid e3
   have E4c:=Lib.hid e4
   have hgc:g < wc.heap.size:=lt_of_heap e0
   clear e0 e1 e2 e3 e4 S
   go_wp2_with fail
   refine C.out.mono ?_
   rintro e wd ⟨u,rfl,hu,hbd⟩
   have hu':=Lib.hid (RItems.to hu.rd (fun i hi hl=>⟨hN2 i hi,rfl⟩):RItems F wd u (applyP c.base o).1)
   have Hd:=Lib.hid (H0'.out.below hbd)
   have Sd:=Lib.hid (S0'.out.trans (Stays.of hbd (Nat.le_of_lt hgc)))
   have E0d:=Lib.hid ((hbd.block g hgc).trans E0c.out)
   have hgd:g < wd.heap.size:=lt_of_heap E0d.out
   clear x0 x1 x2 x3 x4 x5 x6 hu C H0' S0'
   obtain ⟨x0,x1,x2,x3,x4,x5,x6⟩:=P7.of E0d.out
   have j0:=fun w=>idx2_0 (.slice sa2 s'.length sc2) (.slice ka2 h'.length kc2) w
   have j1:=fun w=>idx2_1 (.slice sa2 s'.length sc2) (.slice ka2 h'.length kc2) w
   go_upto_region 14 with fail
   go_region
   clear x0 x1 x2 x3 x4 x5 x6
   go_upto_block 2 with fail
   go_cut [11] (fun s11 wx=>∃ D,RItems F wx s11 D∧CAt 52 F wx g { c with base:=(applyP c.base o).1,rev:=c.rev+1,sent:=s',held:=h' }∧Stays g w wx∧Hid (owns2 (applyP c.base o).1 s' h'=(D,0)))
   case first =>
    go_wp2_with fail
    go_loopw [11,83] (fun dv i wr=>∃ k:Nat,k≤2∧i=.int .i64 k∧∃ D,RItems F wr dv D∧CAt 52 F wr g { c with base:=(applyP c.base o).1,rev:=c.rev+1,sent:=s',held:=h' }∧wr.heap[g]?=some (.cells #[.int .i64 (c.rev+1),.slice ba2 (applyP c.base o).1.length bc2,.slice na2 c.now.length nc2,.int .i64 c.seq,.slice sa2 s'.length sc2,.slice ka2 h'.length kc2,.bool c.joined] 52 (0,0))∧ROp F wr (.slice sa2 s'.length sc2) s'∧ROp F wr (.slice ka2 h'.length kc2) h'∧Stays g w wr∧Hid (k=0→D=(applyP c.base o).1)∧Hid (k=1→s'≠[]∧(applyP (applyP c.base o).1 s').2=0∧D=(applyP (applyP c.base o).1 s').1)∧Hid (k=2→owns2 (applyP c.base o).1 s' h'=(D,0))) (fun _ i _=>2 - (intOf i).toNat)
    case atStart=>exact ⟨0,by omega,rfl,(applyP c.base o).1,hu'.out,Hd.out.drew,E0d.out,ROp.to E3c.out (Kp.below hbd.drew),ROp.to E4c.out (Kp.below hbd.drew),Sd.out.drew,Lib.hid fun _=>rfl,Lib.hid fun h=>by omega,Lib.hid fun h=>by omega⟩
    case round =>
     obtain ⟨k,hk,rfl,D,hdv,hcat,hblk,r3,r4,hs,q0,q1,q2⟩:=hrel
     have hdv':=Lib.hid hdv
     have hc':=Lib.hid hcat
     have hs':=Lib.hid hs
     have HN2:=Lib.hid hcat.2.1
     have E0:=Lib.hid hblk
     have E3:=Lib.hid r3
     have E4:=Lib.hid r4
     obtain ⟨x0,x1,x2,x3,x4,x5,x6⟩:=P7.of hblk
     have hgr:g < wr.heap.size:=lt_of_heap hblk
     clear hdv hcat hs hblk r3 r4
     rcases (by omega:k=0∨k=1∨k=2) with rfl | rfl | rfl
     ·have p1:=q0.out rfl
      subst p1
      clear q0 q1 q2
      by_cases hs0:s'=[]
      ·have t1:=len0_true hs0
       have hfin:=Lib.hid (o2_0 (d:=(applyP c.base o).1) (k:=h') hs0)
       clear hs0
       go_wp2
       go_meet
       exact ⟨_,hdv'.out,hc'.out,hs'.out,hfin⟩
      ·have t1:=len0_false hs0
       have CT:=Lib.hid (opApply_any _ _ _ _ (applyP c.base o).1 s' wr hdv'.out E3.out)
       by_cases he0:(applyP (applyP c.base o).1 s').2=0
       ·rw [he0] at CT
        have hst:=Lib.hid (⟨hs0,he0⟩:s'≠[]∧(applyP (applyP c.base o).1 s').2=0)
        clear he0 hs0
        go_wp2_with fail
        refine CT.out.mono ?_
        rintro e w3 ⟨ra3,rfl,ha3,hbel⟩
        have E03:=Lib.hid ((hbel.block g hgr).trans E0.out)
        have S3:=Lib.hid (hs'.out.trans (Stays.of hbel (Nat.le_of_lt hgr)))
        have H3:=Lib.hid (hc'.out.below hbel)
        have A3:=Lib.hid (RItems.to ha3 (fun i hi hl=>⟨HN2.out i hi,rfl⟩):RItems F w3 ra3 (applyP (applyP c.base o).1 s').1)
        clear x0 x1 x2 x3 x4 x5 x6 ha3 CT
        go_wp2
        go_roundw
        case rel=>exact ⟨1,by omega,rfl,_,A3.out,H3.out,E03.out,ROp.to E3.out (Kp.below hbel),ROp.to E4.out (Kp.below hbel),S3.out,Lib.hid fun h=>by omega,Lib.hid fun _=>⟨hst.out.1,hst.out.2,rfl⟩,Lib.hid fun h=>by omega⟩
        case measure=>simp [intOf]
       ·have hne:=Lib.hid (o2_e (k:=h') hs0 he0)
        have he':((applyP (applyP c.base o).1 s').2 != 0)=true:=by simpa using he0
        clear he0 hs0
        go_wp2_with fail
        refine CT.out.mono ?_
        rintro e w3 ⟨ra3,rfl,ha3,hbel⟩
        have H3:=Lib.hid (hc'.out.below hbel)
        have S3:=Lib.hid (hs'.out.trans (Stays.of hbel (Nat.le_of_lt hgr)))
        clear ha3 x0 x1 x2 x3 x4 x5 x6 CT
        go_wp2_with fail
        refine (clGive_any F g _ w3 H3.out hlen.out).mono ?_
        rintro e w4 ⟨rfl,H4,S4⟩
        go_wp2
        exact bodyPost_ret (v:=.tuple #[]) (by simp [results,Tryz.results198]) rfl ⟨rfl,by rw [(otherC_give2 heq0.out ht.out hne.out)];exact H4,S3.out.trans S4⟩
     ·obtain ⟨p1,p2,p3⟩:=q1.out rfl
      subst p3
      clear q0 q1 q2
      by_cases hs0:h'=[]
      ·have t1:=len0_true hs0
       have hfin:=Lib.hid (o2_1 p1 p2 hs0)
       clear hs0 p1 p2
       go_wp2
       go_meet
       exact ⟨_,hdv'.out,hc'.out,hs'.out,hfin⟩
      ·have t1:=len0_false hs0
       have h22:=Lib.hid (o2_2 p1 p2 hs0)
       have CT:=Lib.hid (opApply_any _ _ _ _ (applyP (applyP c.base o).1 s').1 h' wr hdv'.out E4.out)
       by_cases he0:(applyP (applyP (applyP c.base o).1 s').1 h').2=0
       ·rw [he0] at CT
        have hst:Hid (owns2 (applyP c.base o).1 s' h'=((applyP (applyP (applyP c.base o).1 s').1 h').1,0)):=Lib.hid (by rw [h22.out,← he0])
        clear he0 hs0
        go_wp2_with fail
        refine CT.out.mono ?_
        rintro e w3 ⟨ra3,rfl,ha3,hbel⟩
        have E03:=Lib.hid ((hbel.block g hgr).trans E0.out)
        have S3:=Lib.hid (hs'.out.trans (Stays.of hbel (Nat.le_of_lt hgr)))
        have H3:=Lib.hid (hc'.out.below hbel)
        have A3:=Lib.hid (RItems.to ha3 (fun i hi hl=>⟨HN2.out i hi,rfl⟩):RItems F w3 ra3 (applyP (applyP (applyP c.base o).1 s').1 h').1)
        clear x0 x1 x2 x3 x4 x5 x6 ha3 CT
        go_wp2
        go_roundw
        case rel=>exact ⟨2,by omega,rfl,_,A3.out,H3.out,E03.out,ROp.to E3.out (Kp.below hbel),ROp.to E4.out (Kp.below hbel),S3.out,Lib.hid fun h=>by omega,Lib.hid fun h=>by omega,Lib.hid fun _=>hst.out⟩
        case measure=>simp [intOf]
       ·have hne:Hid ((owns2 (applyP c.base o).1 s' h').2≠0):=Lib.hid (by rw [h22.out];exact he0)
        have he':((applyP (applyP (applyP c.base o).1 s').1 h').2 != 0)=true:=by simpa using he0
        clear he0 hs0
        go_wp2_with fail
        refine CT.out.mono ?_
        rintro e w3 ⟨ra3,rfl,ha3,hbel⟩
        have H3:=Lib.hid (hc'.out.below hbel)
        have S3:=Lib.hid (hs'.out.trans (Stays.of hbel (Nat.le_of_lt hgr)))
        clear ha3 x0 x1 x2 x3 x4 x5 x6 CT
        go_wp2_with fail
        refine (clGive_any F g _ w3 H3.out hlen.out).mono ?_
        rintro e w4 ⟨rfl,H4,S4⟩
        go_wp2
        exact bodyPost_ret (v:=.tuple #[]) (by simp [results,Tryz.results198]) rfl ⟨rfl,by rw [(otherC_give2 heq0.out ht.out hne.out)];exact H4,S3.out.trans S4⟩
     ·have hfin:=Lib.hid (q2.out rfl)
      clear q0 q1 q2
      go_wp2
      go_meet
      exact ⟨_,hdv'.out,hc'.out,hs'.out,hfin⟩
   case rest =>
    obtain ⟨D,hD,H,S,hfin⟩:=hcut
    obtain ⟨da,dc,rfl,_⟩:=RdS.len hD
    have H9:=Lib.hid (H.set2 hD)
    have S9:=Lib.hid (S.trans (Stays.set (i:=2) (u:=.slice da D.length dc)))
    obtain ⟨_,_,b9,n9,s9,k9,e0,_⟩:=H
    have hfz:∀ i,wc.frozen? ⟨g,i,none⟩=false:=fun i=>Lib.frozen_of_heap e0 _
    have hg9:g < wc.heap.size:=lt_of_heap e0
    obtain ⟨x0,x1,x2,x3,x4,x5,x6⟩:=P7.of e0
    clear e0 hD S
    go_wp2
    go_end0
    exact ⟨rfl,by rw [otherC_ok heq0.out ht.out hfin.out];exact H9.out,S9.out⟩
 ·have he':((applyP c.base o).2 != 0)=true:=by simpa using he
  have hE:=Lib.hid (otherC_e he)
  clear he
  go_wp2
  exact bodyPost_ret (v:=.tuple #[]) (by simp [results,Tryz.results198]) rfl ⟨rfl,by rw [hE.out];exact H1.out,S1.out⟩
end Go.Proofs.YteikncnldbdfmaaGreatDoor
namespace Go.Mh
open Go.RowKit
theorem CAt.ofVal {e:TypeId} {F:Nat→Prop} {w:World} {g:Nat} {c:Cl} {Fq:Nat→Prop} {u0 u1 u2 u3 u4 u5 u6 b n s k:Value} (h:w.heap[g]?=some (.cells #[u0,u1,u2,u3,u4,u5,u6] e (0,0))) (hR:RCl Fq w (.agg #[.int .i64 c.rev,b,n,.int .i64 c.seq,s,k,.bool c.joined]) c) (hg:¬ F g) (hN:∀ k,w.heap.size≤k→F k) (hF:∀ k,Fq k→F k) :
  CAt e F (((((((w.setCell ⟨g,0,none⟩ (.int .i64 c.rev)).setCell ⟨g,1,none⟩ b).setCell ⟨g,2,none⟩ n).setCell ⟨g,3,none⟩ (.int .i64 c.seq)).setCell ⟨g,4,none⟩ s).setCell ⟨g,5,none⟩ k).setCell ⟨g,6,none⟩ (.bool c.joined)) g c ∧
  Stays g w (((((((w.setCell ⟨g,0,none⟩ (.int .i64 c.rev)).setCell ⟨g,1,none⟩ b).setCell ⟨g,2,none⟩ n).setCell ⟨g,3,none⟩ (.int .i64 c.seq)).setCell ⟨g,4,none⟩ s).setCell ⟨g,5,none⟩ k).setCell ⟨g,6,none⟩ (.bool c.joined)):=by
 obtain ⟨q1,q2⟩:=set7z h (.int .i64 c.rev) b n (.int .i64 c.seq) s k (.bool c.joined)
 refine ⟨?_,q2⟩
 obtain ⟨_,_,_,_,e0,h1,h2,h3,h4⟩:=hR
 simp at e0
 obtain ⟨rfl,rfl,rfl,rfl⟩:=e0
 have kp:Kp Fq F w _:=fun i hi hl=>⟨hF i hi,q2.same i hl fun e=>hg (e ▸ hF i hi)⟩
 exact ⟨hg,fun k hk=>hN k (Nat.le_trans q2.bel.size hk),_,_,_,_,q1,RItems.to h1 kp,RItems.to h2 kp,ROp.to h3 kp,ROp.to h4 kp⟩
theorem ClOk.sm {c:Cl} (h:ClOk c):c.Sm:=by
 have d1:=(chkDoc_ok h.doc).2
 have d2:=(chkDoc_ok h.ndoc).2
 have ho:∀ s:List Pt,chkOp s=0∨s=[]→s.length≤100000∧∀ p ∈ s,p.its.length≤100000:=fun s hs=>by
  rcases hs with hs | rfl
  ·have k:=chkOp_ok hs
   exact ⟨by have:=k.len;omega,fun p hp=>by have:=k.i80 p hp;omega⟩
  ·exact ⟨by simp,fun p hp=>by simp at hp⟩
 have hs:(chkOp c.sent=0∨c.sent=[])∧(chkOp c.held=0∨c.held=[]):=by
  rcases h.cases with ⟨a,b,_⟩ | ⟨_,b,a,_⟩ | ⟨_,_,a,b,_⟩
  ·exact ⟨Or.inr a,Or.inr b⟩
  ·exact ⟨Or.inl a.op,Or.inr b⟩
  ·exact ⟨Or.inl a.op,Or.inl b.op⟩
 exact ⟨by omega,by omega,(ho _ hs.1).1,(ho _ hs.1).2,(ho _ hs.2).1,(ho _ hs.2).2⟩
end Go.Mh
namespace Go.Proofs.YteikncnldbdfmaaGreatDoor
open Go.RowKit Go.Mh
abbrev clZero:Obj:=.cells #[.int .i64 0,.slice none 0 0,.slice none 0 0,.int .i64 0,.slice none 0 0,.slice none 0 0,.bool false] 52
end Go.Proofs.YteikncnldbdfmaaGreatDoor
namespace Go.Mh
open Go.RowKit
structure HrS (e em:TypeId) (F:Nat→Prop) (w wx:World) (ov:Value) (m:Msg):Prop where
 M:wx.heap[w.heap.size+1]?=some (.cells #[.int .i64 m.rev,.int .i64 m.e.client,.int .i64 m.e.seq,ov] em (0,0))
 Z:wx.heap[w.heap.size+2]?=some (.cells #[.int .i64 0,.slice none 0 0,.slice none 0 0,.int .i64 0,.slice none 0 0,.slice none 0 0,.bool false] e (0,0))
 V:ROp F wx ov m.e.o
 B:Below w.heap.size w wx
theorem HrS.below {e em:TypeId} {F:Nat→Prop} {w wx wy:World} {ov:Value} {m:Msg} (h:HrS e em F w wx ov m) (hb:Below wx.heap.size wx wy):HrS e em F w wy ov m:=
 ⟨(hb.block _ (lt_of_heap h.M)).trans h.M,(hb.block _ (lt_of_heap h.Z)).trans h.Z,ROp.to h.V (Kp.below hb),h.B.trans (hb.mono h.B.size)⟩
theorem HrS.stays {e em:TypeId} {F:Nat→Prop} {w wx wy:World} {ov:Value} {m:Msg} (h:HrS e em F w wx ov m) (hF:¬ F w.heap.size) (hs:Stays w.heap.size wx wy):HrS e em F w wy ov m:=
 ⟨(hs.same _ (lt_of_heap h.M) (by omega)).trans h.M,(hs.same _ (lt_of_heap h.Z) (by omega)).trans h.Z,ROp.to h.V (kp_stays hF hs),h.B.trans (hs.bel.mono (Nat.le_refl _))⟩
def P4 (w:World) (g:Nat) (v0 v1 v2 v3:Value):Prop:=w.cell? ⟨g,0,none⟩=some v0∧w.cell? ⟨g,1,none⟩=some v1∧w.cell? ⟨g,2,none⟩=some v2∧w.cell? ⟨g,3,none⟩=some v3
theorem P4.of {w:World} {g T:Nat} {fr:Nat × Nat} {v0 v1 v2 v3:Value} (h:w.heap[g]?=some (.cells #[v0,v1,v2,v3] T fr)):P4 w g v0 v1 v2 v3:=by
 refine ⟨?_, ?_, ?_, ?_⟩ <;> (unfold World.cell?;rw [h];rfl)
theorem heap_at3 {w:World} {o o' o'':Obj} {g:Nat} (h:g=w.heap.size):(((w.alloc o).alloc o').alloc o'').heap[g]?=some o:=by
 subst h
 exact ((bal (brf _) _).block _ (by simp;omega)).trans (heap_at2 rfl)
end Go.Mh
namespace Go.Proofs.YteikncnldbdfmaaGreatDoor
open Go.RowKit Go.Mh
end Go.Proofs.YteikncnldbdfmaaGreatDoor
namespace Go.Mh
open Go.RowKit
def newC (d:List It):Cl × Int:=if chkDoc d≠0 then (cl0,chkDoc d) else (⟨0,d,d,0,[],[],true⟩,0)
end Go.Mh
namespace Go.Proofs.YteikncnldbdfmaaGreatDoor
open Go.RowKit Go.Mh
end Go.Proofs.YteikncnldbdfmaaGreatDoor
namespace Go.Mh
open Go.RowKit
end Go.Mh
namespace Go.Proofs.YteikncnldbdfmaaGreatDoor
open Go.RowKit Go.Mh
instance:DecidableEq Cl:=fun a b=>decidable_of_iff (a.rev=b.rev∧a.base=b.base∧a.now=b.now∧a.seq=b.seq∧a.sent=b.sent∧a.held=b.held∧a.joined=b.joined) (by cases a;cases b;simp)
def hb2:List It:=[⟨97,0,[]⟩,⟨120,0,[]⟩,⟨98,1,[]⟩,⟨10,1,[]⟩,⟨60,0,[104,116,116,112,58,38]⟩,⟨10,2,[]⟩]
def hb3:List It:=[⟨97,0,[]⟩,⟨120,0,[]⟩,⟨121,0,[]⟩,⟨98,1,[]⟩,⟨10,1,[]⟩,⟨60,0,[104,116,116,112,58,38]⟩,⟨10,2,[]⟩]
def hc1:Cl:=⟨0,smallL,smallL,0,[],[],true⟩
def hc2:Cl:=⟨0,smallL,[⟨97,0,[]⟩,⟨121,0,[]⟩,⟨98,1,[]⟩,⟨10,1,[]⟩,⟨60,0,[104,116,116,112,58,38]⟩,⟨10,2,[]⟩],1,putsP 121 1 5,[],true⟩
def hm1:Msg:=⟨1,⟨1,1,putsP 120 1 5⟩⟩
def hc3:Cl:=⟨1,hb2,hb3,1,putsP 121 2 6,[],true⟩
def hm2:Msg:=⟨2,⟨0,1,putsP 121 2 6⟩⟩
theorem get_map' {α β:Type} {l:List α} {f:α→β} {i:Nat} {y:β} (h:(l[i]?).map f=some y):∃ x,l[i]?=some x∧f x=y:=by
 cases hq:l[i]? with
 | none=>rw [hq] at h;simp at h
 | some x=>rw [hq] at h;simp at h;exact ⟨x,rfl,h⟩
end Go.Proofs.YteikncnldbdfmaaGreatDoor
