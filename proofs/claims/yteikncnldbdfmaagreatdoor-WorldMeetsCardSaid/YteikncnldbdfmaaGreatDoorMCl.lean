import Derived.Test.YteikncnldbdfmaaGreatDoorMPl
import Derived.Test.YteikncnldbdfmaaGreatDoorMDoc
import Derived.Test.YteikncnldbdfmaaGreatDoorMOtC
import Derived.Test.YteikncnldbdfmaaGreatDoorMMem
import Derived.Deep.RegionHeld3
import Derived.Deep.DeepFit
import Derived.Deep.DeepCutAuto
import Derived.Test.YteikncnldbdfmaaGreatDoorMRegT
namespace Go.Mh
open Go.RowKit
def RCl (F:Nat→Prop) (w:World) (v:Value) (c:Cl):Prop:=
 ∃ b n s h,v=.agg #[.int .i64 c.rev,b,n,.int .i64 c.seq,s,h,.bool c.joined]∧RItems F w b c.base∧RItems F w n c.now∧ROp F w s c.sent∧ROp F w h c.held
theorem RCl.to {F F':Nat→Prop} {w w':World} {v:Value} {c:Cl} (h:RCl F w v c) (k:Kp F F' w w'):RCl F' w' v c:=by
 obtain ⟨b,n,s,g,e,h1,h2,h3,h4⟩:=h
 exact ⟨b,n,s,g,e,RItems.to h1 k,RItems.to h2 k,ROp.to h3 k,ROp.to h4 k⟩
def CAt (e:TypeId) (F:Nat→Prop) (w:World) (g:Nat) (c:Cl):Prop:=
 ¬ F g∧(∀ k,w.heap.size≤k→F k)∧∃ b n s h,w.heap[g]?=some (.cells #[.int .i64 c.rev,b,n,.int .i64 c.seq,s,h,.bool c.joined] e (0,0))∧RItems F w b c.base∧RItems F w n c.now∧ROp F w s c.sent∧ROp F w h c.held
theorem CAt.lt {e:TypeId} {F:Nat→Prop} {w:World} {g:Nat} {c:Cl} (h:CAt e F w g c):g < w.heap.size:=by obtain ⟨_,_,b,n,s,k,h,_⟩:=h;exact lt_of_heap h
theorem kp_stays {F:Nat→Prop} {w w':World} {g:Nat} (hF:¬ F g) (h:Stays g w w'):Kp F F w w':=fun k hk hl=>⟨hk,h.same k hl fun e=>hF (e ▸ hk)⟩
theorem CAt.below {e:TypeId} {F:Nat→Prop} {w w':World} {g:Nat} {c:Cl} (h:CAt e F w g c) (hb:Below w.heap.size w w'):CAt e F w' g c:=by
 have hg:=h.lt
 obtain ⟨hF,hN,b,n,s,k,h0,h1,h2,h3,h4⟩:=h
 exact ⟨hF,fun k hk=>hN k (Nat.le_trans hb.size hk),b,n,s,k,(hb.block g hg).trans h0,RItems.to h1 (Kp.below hb),RItems.to h2 (Kp.below hb),ROp.to h3 (Kp.below hb),ROp.to h4 (Kp.below hb)⟩
theorem CAt.val {e:TypeId} {F:Nat→Prop} {w:World} {g:Nat} {c:Cl} (h:CAt e F w g c):∃ b n s k,w.heap[g]?=some (.cells #[.int .i64 c.rev,b,n,.int .i64 c.seq,s,k,.bool c.joined] e (0,0))∧RCl F w (.agg #[.int .i64 c.rev,b,n,.int .i64 c.seq,s,k,.bool c.joined]) c:=by
 obtain ⟨_,_,b,n,s,k,h0,h1,h2,h3,h4⟩:=h
 exact ⟨b,n,s,k,h0,b,n,s,k,rfl,h1,h2,h3,h4⟩
theorem owns_s1 {d:List It} {s:List Pt} (hs:s≠[]) (h:(applyP d s).2=0):ownsP d s []=((applyP d s).1,0):=by
 simp only [ownsP,if_neg hs,h]
 simp [← h]
theorem owns_e1 {d:List It} {s k:List Pt} (hs:s≠[]) (h:(applyP d s).2≠0):ownsP d s k=([],(applyP d s).2):=by
 simp only [ownsP,if_neg hs,if_pos h]
theorem owns_s2 {d e:List It} {s k:List Pt} (hs:s≠[]) (hk:k≠[]) (h:ownsP d s []=(e,0)):ownsP d s k=applyP e k:=by
 by_cases h1:(applyP d s).2=0
 ·rw [owns_s1 hs h1] at h
  cases h
  simp only [ownsP,if_neg hs,h1,if_neg hk]
  simp
 ·rw [owns_e1 hs h1] at h
  simp at h
  exact absurd h.2 h1
theorem owns_0 (d:List It):ownsP d [] []=(d,0):=by simp [ownsP]
theorem chkCl_rest {c:Cl} (h1:¬ (c.rev < 0∨60 < c.rev∨c.seq < 0∨10000 < c.seq)) (h2:chkDoc c.base=0) (h3:¬ ((c.sent=[]∧c.held≠[])∨(c.sent≠[]∧c.seq=0))) :
  chkCl c=if (ownsP c.base c.sent c.held).2≠0 then (ownsP c.base c.sent c.held).2 else if (ownsP c.base c.sent c.held).1=c.now then 0 else 4:=by
 simp only [chkCl,if_neg h1,if_neg h3,h2];simp
end Go.Mh
namespace Go.Proofs.YteikncnldbdfmaaGreatDoor
open Go.RowKit Go.Mh
theorem len0_true {L:List Pt} (h:L=[]):((L.length:Int) == 0)=true:=by simp [h]
theorem len0_false {L:List Pt} (h:L≠[]):((L.length:Int) == 0)=false:=by simpa using h
theorem lpos_true {L:List Pt} (h:L≠[]):0 < L.length:=List.length_pos_iff.2 h
theorem lpos_false {L:List Pt} (h:L=[]):¬ 0 < L.length:=by simp [h]
set_option maxRecDepth 100000 in
set_option maxHeartbeats 4000000 in
theorem clCheck_any (F:Nat→Prop) (v:Value) (c:Cl) (w:World) (h:RCl F w v c) :
  Calls Tryz.prog 62 #[v] w fun e w'=>e=.returned (.int .i64 (chkCl c))∧Below w.heap.size w w':=by
 obtain ⟨b,n,s,g,rfl,hb,hn,hs,hg⟩:=h
 obtain ⟨ba,bc,rfl,_⟩:=RdS.len hb
 obtain ⟨na,nc,rfl,_⟩:=RdS.len hn
 obtain ⟨sa,sc,rfl,_⟩:=RdS.len hs
 obtain ⟨ga,gc,rfl,_⟩:=RdS.len hg
 have HB:=Lib.hid hb
 have HN:=Lib.hid hn
 have HS:=Lib.hid hs
 have HG:=Lib.hid hg
 clear hb hn hs hg
 have i0:=fun w=>idx2_0 (.slice sa c.sent.length sc) (.slice ga c.held.length gc) w
 have i1:=fun w=>idx2_1 (.slice sa c.sent.length sc) (.slice ga c.held.length gc) w
 have hrest:=Lib.hid (chkCl_rest (c:=c))
 have hdef:Hid (chkCl c=chkCl c):=Lib.hid rfl
 obtain ⟨r,hr⟩:∃ r,Hid (chkCl c=r):=⟨_,Lib.hid rfl⟩
 clear hdef
 rw [hr.out]
 go_enter Tryz.func62,Tryz.ntmps62
 by_cases h1:c.rev < 0∨60 < c.rev∨c.seq < 0∨10000 < c.seq
 ·have e:=hr.out
  rw [chkCl,if_pos h1] at e
  subst e
  have way:decide (c.rev < 0)=true∨(decide (c.rev < 0)=false∧decide (60 < c.rev)=true)∨(decide (c.rev < 0)=false∧decide (60 < c.rev)=false∧decide (c.seq < 0)=true)∨(decide (c.rev < 0)=false∧decide (60 < c.rev)=false∧decide (c.seq < 0)=false∧decide (10000 < c.seq)=true):=by
   simp only [decide_eq_true_eq,decide_eq_false_iff_not];omega
  clear hr hrest h1
  rcases way with d1 | ⟨d1,d2⟩ | ⟨d1,d2,d3⟩ | ⟨d1,d2,d3,d4⟩
  all_goals
   go_wp2
   go_ret
   exact ⟨rfl,bal (brf w) _⟩
 ·obtain ⟨d1,d2,d3,d4⟩:decide (c.rev < 0)=false∧decide (60 < c.rev)=false∧decide (c.seq < 0)=false∧decide (10000 < c.seq)=false:=by
   simp only [decide_eq_false_iff_not];omega
  have hb0:Below w.heap.size w (w.alloc (.cells #[.int .i64 c.rev,.slice ba c.base.length bc,.slice na c.now.length nc,.int .i64 c.seq,.slice sa c.sent.length sc,.slice ga c.held.length gc,.bool c.joined] 52)):=bal (brf w) _
  have hcell:=Lib.hid (heap_new w (.cells #[.int .i64 c.rev,.slice ba c.base.length bc,.slice na c.now.length nc,.int .i64 c.seq,.slice sa c.sent.length sc,.slice ga c.held.length gc,.bool c.joined] 52))
  go_wp2_with fail
  refine (check_any F _ c.base _ (HB.out.to (Kp.below hb0))).mono ?_
  rintro e w1 ⟨rfl,hb1⟩
  have hB1:=btr hb0 hb1
  have hblk:=Lib.hid ((hb1.block w.heap.size (by simp)).trans hcell.out)
  have hw1:w.heap.size < w1.heap.size:=lt_of_heap hblk.out
  clear hb0 hb1 hcell
  obtain ⟨x0,x1,x2,x3,x4,x5,x6⟩:=P7.of hblk.out
  by_cases h2:chkDoc c.base=0
  ·have h12:=Lib.hid (hrest.out h1 h2)
   rw [h2]
   have h1':=Lib.hid h1
   have h2':=Lib.hid h2
   clear h1 h2 hrest
   by_cases h3:(c.sent=[]∧c.held≠[])∨(c.sent≠[]∧c.seq=0)
   ·have e:=hr.out
    rw [chkCl,if_neg h1'.out,h2'.out,if_neg (by simp),if_pos h3] at e
    subst e
    rcases h3 with ⟨s1,s2⟩ | ⟨s1,s2⟩
    ·have t1:=len0_true s1
     have t2:=lpos_true s2
     clear s1 s2 h12 hr
     go_wp2
     go_ret
     exact ⟨rfl,hB1⟩
    ·have t1:=len0_false s1
     have t2:=lpos_true s1
     have t3:(c.seq == 0)=true:=by simpa using s2
     clear s1 s2 h12 hr
     go_wp2
     go_ret
     exact ⟨rfl,hB1⟩
   ·have hrs:=Lib.hid (h12.out h3)
    have e:=hrs.out
    rw [hr.out] at e
    have hE:=Lib.hid e
    have hsh:Hid (c.sent=[]→c.held=[]):=Lib.hid fun h=>Decidable.byContradiction fun h'=>h3 (Or.inl ⟨h,h'⟩)
    have way:(((c.sent.length:Int) == 0)=true∧¬ 0 < c.held.length∧¬ 0 < c.sent.length)∨(((c.sent.length:Int) == 0)=false∧0 < c.sent.length∧(c.seq == 0)=false):=by
     by_cases hs:c.sent=[]
     ·exact Or.inl ⟨len0_true hs,lpos_false (hsh.out hs),lpos_false hs⟩
     ·exact Or.inr ⟨len0_false hs,lpos_true hs,by simp;exact fun h=>h3 (Or.inr ⟨hs,h⟩)⟩
    clear h3 h12 e hrs hr h1' h2'
    rcases way with ⟨t1,t2,t3⟩ | ⟨t1,t2,t3⟩
    all_goals
     go_wp2
     clear x0 x1 x2 x3 x4 x5 x6 t1 t2 t3
     go_loopw [4,60] (fun dv i wr=>∃ k:Nat,k≤2∧i=.int .i64 k∧∃ D G,RItems G wr dv D∧Hid (k=0→D=c.base)∧Hid (k=1→ownsP c.base c.sent []=(D,0))∧Hid (k=2→ownsP c.base c.sent c.held=(D,0))∧wr.heap[w.heap.size]?=some (.cells #[.int .i64 c.rev,.slice ba c.base.length bc,.slice na c.now.length nc,.int .i64 c.seq,.slice sa c.sent.length sc,.slice ga c.held.length gc,.bool c.joined] 52 (0,0))∧Below w.heap.size w wr) (fun _ i _=>2 - (intOf i).toNat)
     case atStart=>exact ⟨0,by omega,rfl,c.base,F,HB.out.to (Kp.below hB1),Lib.hid (fun _=>rfl),Lib.hid (fun h=>by omega),Lib.hid (fun h=>by omega),hblk.out,hB1⟩
     case round =>
      obtain ⟨k,hk,rfl,D,G,hD,q0,q1,q2,hbk,hbr⟩:=hrel
      obtain ⟨da,dc,rfl,_⟩:=RdS.len hD
      have hD':=Lib.hid hD
      have hbk':=Lib.hid hbk
      clear hD hbk
      rcases (by omega:k=0∨k=1∨k=2) with rfl | rfl | rfl
      ·have e0:=Lib.hid (q0.out rfl)
       clear q0 q1 q2
       by_cases hs:c.sent=[]
       ·have t1:=len0_true hs
        have hn1:Hid (ownsP c.base c.sent []=(D,0)):=Lib.hid (by rw [hs,e0.out,owns_0])
        clear hs e0
        go_wp2
        go_roundw
        case rel=>exact ⟨1,by omega,rfl,D,G,hD'.out,Lib.hid (fun h=>by omega),Lib.hid (fun _=>hn1.out),Lib.hid (fun h=>by omega),hbk'.out,hbr⟩
        case measure=>simp [intOf]
       ·have t1:=len0_false hs
        have C:=Lib.hid (opApply_any G F _ _ D c.sent wr hD'.out (ROp.to HS.out (Kp.below hbr)))
        have hw:=lt_of_heap hbk'.out
        by_cases he:(applyP D c.sent).2=0
        ·have hn1:Hid (ownsP c.base c.sent []=((applyP D c.sent).1,0)):=Lib.hid (by rw [e0.out] at he ⊢;exact owns_s1 hs he)
         rw [he] at C
         clear hs e0 he
         go_wp2_with fail
         refine C.out.mono ?_
         rintro e w3 ⟨r3,rfl,hr3,hb3⟩
         have hr3':=Lib.hid hr3
         clear hr3
         go_wp2
         go_roundw
         case rel=>exact ⟨1,by omega,rfl,_,_,hr3'.out,Lib.hid (fun h=>by omega),Lib.hid (fun _=>hn1.out),Lib.hid (fun h=>by omega),(hb3.block _ hw).trans hbk'.out,hbr.trans (hb3.mono hbr.size)⟩
         case measure=>simp [intOf]
        ·have hn1:Hid (ownsP c.base c.sent c.held=([],(applyP D c.sent).2)):=Lib.hid (by rw [e0.out] at he ⊢;exact owns_e1 hs he)
         have e2:=hE.out
         rw [hn1.out,if_pos he] at e2
         subst e2
         have he':((applyP D c.sent).2 != 0)=true:=by simpa using he
         clear hs e0 he hE
         go_wp2_with fail
         refine C.out.mono ?_
         rintro e w3 ⟨r3,rfl,hr3,hb3⟩
         clear hr3
         go_wp2
         go_ret
         exact ⟨rfl,hbr.trans (hb3.mono hbr.size)⟩
      ·have e0:=Lib.hid (q1.out rfl)
       clear q0 q1 q2
       by_cases hs:c.held=[]
       ·have t1:=len0_true hs
        have hn1:Hid (ownsP c.base c.sent c.held=(D,0)):=Lib.hid (by rw [hs];exact e0.out)
        clear hs e0
        go_wp2
        go_roundw
        case rel=>exact ⟨2,by omega,rfl,D,G,hD'.out,Lib.hid (fun h=>by omega),Lib.hid (fun h=>by omega),Lib.hid (fun _=>hn1.out),hbk'.out,hbr⟩
        case measure=>simp [intOf]
       ·have t1:=len0_false hs
        have hss:c.sent≠[]:=fun h=>hs (hsh.out h)
        have C:=Lib.hid (opApply_any G F _ _ D c.held wr hD'.out (ROp.to HG.out (Kp.below hbr)))
        have hw:=lt_of_heap hbk'.out
        have heq:=Lib.hid (owns_s2 hss hs e0.out)
        by_cases he:(applyP D c.held).2=0
        ·have hn1:Hid (ownsP c.base c.sent c.held=((applyP D c.held).1,0)):=Lib.hid (by rw [heq.out,← he])
         rw [he] at C
         clear hs hss e0 he heq
         go_wp2_with fail
         refine C.out.mono ?_
         rintro e w3 ⟨r3,rfl,hr3,hb3⟩
         have hr3':=Lib.hid hr3
         clear hr3
         go_wp2
         go_roundw
         case rel=>exact ⟨2,by omega,rfl,_,_,hr3'.out,Lib.hid (fun h=>by omega),Lib.hid (fun h=>by omega),Lib.hid (fun _=>hn1.out),(hb3.block _ hw).trans hbk'.out,hbr.trans (hb3.mono hbr.size)⟩
         case measure=>simp [intOf]
        ·have e2:=hE.out
         rw [heq.out,if_pos he] at e2
         subst e2
         have he':((applyP D c.held).2 != 0)=true:=by simpa using he
         clear hs hss e0 he hE heq
         go_wp2_with fail
         refine C.out.mono ?_
         rintro e w3 ⟨r3,rfl,hr3,hb3⟩
         clear hr3
         go_wp2
         go_ret
         exact ⟨rfl,hbr.trans (hb3.mono hbr.size)⟩
      ·have e0:=Lib.hid (q2.out rfl)
       clear q0 q1 q2
       have e2:=hE.out
       rw [e0.out] at e2
       simp only [ne_eq,not_true_eq_false,if_false] at e2
       obtain ⟨x0,x1,x2,x3,x4,x5,x6⟩:=P7.of hbk'.out
       have C:=Lib.hid (same_any G F _ _ D c.now wr hD'.out (HN.out.to (Kp.below hbr)))
       clear e0 hE
       by_cases he:D=c.now
       ·rw [decide_eq_true he] at C
        rw [if_pos he] at e2
        subst e2
        clear he
        go_wp2_with fail
        refine C.out.mono ?_
        rintro e w3 ⟨rfl,hb3⟩
        go_wp2
        go_ret
        exact ⟨rfl,hbr.trans (hb3.mono hbr.size)⟩
       ·rw [decide_eq_false he] at C
        rw [if_neg he] at e2
        subst e2
        clear he
        go_wp2_with fail
        refine C.out.mono ?_
        rintro e w3 ⟨rfl,hb3⟩
        go_wp2
        go_ret
        exact ⟨rfl,hbr.trans (hb3.mono hbr.size)⟩
  ·have e:=hr.out
   rw [chkCl,if_neg h1,if_pos h2] at e
   subst e
   have h2':(chkDoc c.base != 0)=true:=by simpa using h2
   clear h2 hr hrest h1
   go_wp2
   go_ret
   exact ⟨rfl,hB1⟩
end Go.Proofs.YteikncnldbdfmaaGreatDoor
namespace Go.Mh
open Go.RowKit
theorem set452 {w:World} {g e:Nat} {u0 u1 u2 u3 u4 u5 u6:Value} (h:w.heap[g]?=some (.cells #[u0,u1,u2,u3,u4,u5,u6] e (0,0))) (v4 v5 v2:Value) :
  (((w.setCell ⟨g,4,none⟩ v4).setCell ⟨g,5,none⟩ v5).setCell ⟨g,2,none⟩ v2).heap[g]?=some (.cells #[u0,u1,v2,u3,v4,v5,u6] e (0,0))∧Stays g w (((w.setCell ⟨g,4,none⟩ v4).setCell ⟨g,5,none⟩ v5).setCell ⟨g,2,none⟩ v2):=by
 constructor
 ·have h1:(w.setCell ⟨g,4,none⟩ v4).heap[g]?=some (.cells #[u0,u1,u2,u3,v4,u5,u6] e (0,0)):=by rw [heap_setCell_same _ g 4 _ e v4 h];rfl
  have h2:((w.setCell ⟨g,4,none⟩ v4).setCell ⟨g,5,none⟩ v5).heap[g]?=some (.cells #[u0,u1,u2,u3,v4,v5,u6] e (0,0)):=by rw [heap_setCell_same _ g 5 _ e v5 h1];rfl
  rw [heap_setCell_same _ g 2 _ e v2 h2];rfl
 ·exact (Stays.set.trans Stays.set).trans Stays.set
theorem set7z {w:World} {g e:Nat} {u0 u1 u2 u3 u4 u5 u6:Value} (h:w.heap[g]?=some (.cells #[u0,u1,u2,u3,u4,u5,u6] e (0,0))) (v0 v1 v2 v3 v4 v5 v6:Value) :
  (((((((w.setCell ⟨g,0,none⟩ v0).setCell ⟨g,1,none⟩ v1).setCell ⟨g,2,none⟩ v2).setCell ⟨g,3,none⟩ v3).setCell ⟨g,4,none⟩ v4).setCell ⟨g,5,none⟩ v5).setCell ⟨g,6,none⟩ v6).heap[g]?=some (.cells #[v0,v1,v2,v3,v4,v5,v6] e (0,0)) ∧
  Stays g w (((((((w.setCell ⟨g,0,none⟩ v0).setCell ⟨g,1,none⟩ v1).setCell ⟨g,2,none⟩ v2).setCell ⟨g,3,none⟩ v3).setCell ⟨g,4,none⟩ v4).setCell ⟨g,5,none⟩ v5).setCell ⟨g,6,none⟩ v6):=by
 constructor
 ·have h1:(w.setCell ⟨g,0,none⟩ v0).heap[g]?=some (.cells #[v0,u1,u2,u3,u4,u5,u6] e (0,0)):=by rw [heap_setCell_same _ g 0 _ e v0 h];rfl
  have h2:((w.setCell ⟨g,0,none⟩ v0).setCell ⟨g,1,none⟩ v1).heap[g]?=some (.cells #[v0,v1,u2,u3,u4,u5,u6] e (0,0)):=by rw [heap_setCell_same _ g 1 _ e v1 h1];rfl
  have h3:(((w.setCell ⟨g,0,none⟩ v0).setCell ⟨g,1,none⟩ v1).setCell ⟨g,2,none⟩ v2).heap[g]?=some (.cells #[v0,v1,v2,u3,u4,u5,u6] e (0,0)):=by rw [heap_setCell_same _ g 2 _ e v2 h2];rfl
  have h4:((((w.setCell ⟨g,0,none⟩ v0).setCell ⟨g,1,none⟩ v1).setCell ⟨g,2,none⟩ v2).setCell ⟨g,3,none⟩ v3).heap[g]?=some (.cells #[v0,v1,v2,v3,u4,u5,u6] e (0,0)):=by rw [heap_setCell_same _ g 3 _ e v3 h3];rfl
  have h5:(((((w.setCell ⟨g,0,none⟩ v0).setCell ⟨g,1,none⟩ v1).setCell ⟨g,2,none⟩ v2).setCell ⟨g,3,none⟩ v3).setCell ⟨g,4,none⟩ v4).heap[g]?=some (.cells #[v0,v1,v2,v3,v4,u5,u6] e (0,0)):=by rw [heap_setCell_same _ g 4 _ e v4 h4];rfl
  have h6:((((((w.setCell ⟨g,0,none⟩ v0).setCell ⟨g,1,none⟩ v1).setCell ⟨g,2,none⟩ v2).setCell ⟨g,3,none⟩ v3).setCell ⟨g,4,none⟩ v4).setCell ⟨g,5,none⟩ v5).heap[g]?=some (.cells #[v0,v1,v2,v3,v4,v5,u6] e (0,0)):=by rw [heap_setCell_same _ g 5 _ e v5 h5];rfl
  rw [heap_setCell_same _ g 6 _ e v6 h6];rfl
 ·exact ((((((Stays.set.trans Stays.set).trans Stays.set).trans Stays.set).trans Stays.set).trans Stays.set).trans Stays.set)
theorem RCl.zero {F:Nat→Prop} {w:World}:RCl F w (.agg #[.int .i64 0,.slice none 0 0,.slice none 0 0,.int .i64 0,.slice none 0 0,.slice none 0 0,.bool false]) cl0:=⟨_,_,_,_,rfl,RdS.nil,RdS.nil,RdS.nil,RdS.nil⟩
section
variable {e:TypeId} {F:Nat→Prop} {w:World} {g:Nat} {c:Cl}
theorem CAt.set0 (h:CAt e F w g c) (r:Int):CAt e F (w.setCell ⟨g,0,none⟩ (.int .i64 r)) g { c with rev:=r }:=by
 obtain ⟨hF,hN,b,n,s,k,h0,h1,h2,h3,h4⟩:=h
 have st:Stays g w (w.setCell ⟨g,0,none⟩ (.int .i64 r)):=Stays.set
 exact ⟨hF,fun k hk=>hN k (Nat.le_trans st.bel.size hk),b,n,s,k,by rw [heap_setCell_same _ g 0 _ e _ h0];rfl,RItems.to h1 (kp_stays hF st),RItems.to h2 (kp_stays hF st),ROp.to h3 (kp_stays hF st),ROp.to h4 (kp_stays hF st)⟩
theorem CAt.set1 (h:CAt e F w g c) {v:Value} {D:List It} (hv:RItems F w v D):CAt e F (w.setCell ⟨g,1,none⟩ v) g { c with base:=D }:=by
 obtain ⟨hF,hN,b,n,s,k,h0,h1,h2,h3,h4⟩:=h
 have st:Stays g w (w.setCell ⟨g,1,none⟩ v):=Stays.set
 exact ⟨hF,fun k hk=>hN k (Nat.le_trans st.bel.size hk),v,n,s,k,by rw [heap_setCell_same _ g 1 _ e _ h0];rfl,RItems.to hv (kp_stays hF st),RItems.to h2 (kp_stays hF st),ROp.to h3 (kp_stays hF st),ROp.to h4 (kp_stays hF st)⟩
theorem CAt.set2 (h:CAt e F w g c) {v:Value} {D:List It} (hv:RItems F w v D):CAt e F (w.setCell ⟨g,2,none⟩ v) g { c with now:=D }:=by
 obtain ⟨hF,hN,b,n,s,k,h0,h1,h2,h3,h4⟩:=h
 have st:Stays g w (w.setCell ⟨g,2,none⟩ v):=Stays.set
 exact ⟨hF,fun k hk=>hN k (Nat.le_trans st.bel.size hk),b,v,s,k,by rw [heap_setCell_same _ g 2 _ e _ h0];rfl,RItems.to h1 (kp_stays hF st),RItems.to hv (kp_stays hF st),ROp.to h3 (kp_stays hF st),ROp.to h4 (kp_stays hF st)⟩
theorem CAt.set3 (h:CAt e F w g c) (r:Int):CAt e F (w.setCell ⟨g,3,none⟩ (.int .i64 r)) g { c with seq:=r }:=by
 obtain ⟨hF,hN,b,n,s,k,h0,h1,h2,h3,h4⟩:=h
 have st:Stays g w (w.setCell ⟨g,3,none⟩ (.int .i64 r)):=Stays.set
 exact ⟨hF,fun k hk=>hN k (Nat.le_trans st.bel.size hk),b,n,s,k,by rw [heap_setCell_same _ g 3 _ e _ h0];rfl,RItems.to h1 (kp_stays hF st),RItems.to h2 (kp_stays hF st),ROp.to h3 (kp_stays hF st),ROp.to h4 (kp_stays hF st)⟩
theorem CAt.set4 (h:CAt e F w g c) {v:Value} {D:List Pt} (hv:ROp F w v D):CAt e F (w.setCell ⟨g,4,none⟩ v) g { c with sent:=D }:=by
 obtain ⟨hF,hN,b,n,s,k,h0,h1,h2,h3,h4⟩:=h
 have st:Stays g w (w.setCell ⟨g,4,none⟩ v):=Stays.set
 exact ⟨hF,fun k hk=>hN k (Nat.le_trans st.bel.size hk),b,n,v,k,by rw [heap_setCell_same _ g 4 _ e _ h0];rfl,RItems.to h1 (kp_stays hF st),RItems.to h2 (kp_stays hF st),ROp.to hv (kp_stays hF st),ROp.to h4 (kp_stays hF st)⟩
theorem CAt.set5 (h:CAt e F w g c) {v:Value} {D:List Pt} (hv:ROp F w v D):CAt e F (w.setCell ⟨g,5,none⟩ v) g { c with held:=D }:=by
 obtain ⟨hF,hN,b,n,s,k,h0,h1,h2,h3,h4⟩:=h
 have st:Stays g w (w.setCell ⟨g,5,none⟩ v):=Stays.set
 exact ⟨hF,fun k hk=>hN k (Nat.le_trans st.bel.size hk),b,n,s,v,by rw [heap_setCell_same _ g 5 _ e _ h0];rfl,RItems.to h1 (kp_stays hF st),RItems.to h2 (kp_stays hF st),ROp.to h3 (kp_stays hF st),ROp.to hv (kp_stays hF st)⟩
theorem CAt.drew (h:CAt e F w g c):CAt e F w.drew g c:=h
end
end Go.Mh
namespace Go.Proofs.YteikncnldbdfmaaGreatDoor
open Go.RowKit Go.Mh
set_option maxRecDepth 100000 in
set_option maxHeartbeats 2000000 in
theorem clGive_any (F:Nat→Prop) (g:Nat) (c:Cl) (w:World) (h:CAt 52 F w g c) (hl:c.base.length≤100000) :
  Calls Tryz.prog 197 #[.pointer (some ⟨g,0,none⟩)] w fun e w'=>e=.returned (.tuple #[])∧CAt 52 F w' g (giveC c)∧Stays g w w':=by
 have hg:=h.lt
 obtain ⟨hF,hN,b,n,s,k,h0,h1,h2,h3,h4⟩:=h
 obtain ⟨ba,bc,rfl,_⟩:=RdS.len h1
 obtain ⟨na,nc,rfl,_⟩:=RdS.len h2
 obtain ⟨sa,sc,rfl,_⟩:=RdS.len h3
 obtain ⟨ka,kc,rfl,_⟩:=RdS.len h4
 have H1:=Lib.hid h1
 have H0:=Lib.hid h0
 have C:=Lib.hid (cloneDoc_any _ _ c.base w h1 hl)
 obtain ⟨x0,x1,x2,x3,x4,x5,x6⟩:=P7.of h0
 clear h0 h1 h2 h3 h4
 go_enter Tryz.func197,Tryz.ntmps197
 go_wp2_with fail
 refine C.out.mono ?_
 rintro e w1 ⟨u,rfl,hu,hb1⟩
 obtain ⟨ua,uc,rfl,_⟩:=RdS.len hu.rd
 have hu':=Lib.hid hu.rd
 have hk:=Lib.hid ((hb1.block g hg).trans H0.out)
 have hfz:∀ i,w1.frozen? ⟨g,i,none⟩=false:=fun i=>Lib.frozen_of_heap hk.out _
 clear hu x0 x1 x2 x3 x4 x5 x6 C
 obtain ⟨x0,x1,x2,x3,x4,x5,x6⟩:=P7.of hk.out
 have hg1:g < w1.heap.size:=lt_of_heap hk.out
 go_wp2
 go_end0
 obtain ⟨s1,s2⟩:=set452 hk.out (.slice none 0 0) (.slice none 0 0) (.slice ua c.base.length uc)
 have s3:Stays g w (((w1.setCell ⟨g,4,none⟩ (.slice none 0 0)).setCell ⟨g,5,none⟩ (.slice none 0 0)).setCell ⟨g,2,none⟩ (.slice ua c.base.length uc)):=(Stays.of hb1 (Nat.le_of_lt hg)).trans s2
 exact ⟨rfl,⟨hF,fun k hk=>hN k (Nat.le_trans s3.bel.size hk),_,_,_,_,s1,RItems.to H1.out (kp_stays hF s3),RItems.to hu'.out (fun i hi hl'=>⟨hN i hi,s2.same i hl' (by omega)⟩),RdS.nil,RdS.nil⟩,s3⟩
end Go.Proofs.YteikncnldbdfmaaGreatDoor
namespace Go.Mh
open Go.RowKit
structure Cl.Sm (c:Cl):Prop where
 b:c.base.length≤100000
 n:c.now.length≤100000
 s:c.sent.length≤100000
 si:∀ p ∈ c.sent,p.its.length≤100000
 h:c.held.length≤100000
 hi:∀ p ∈ c.held,p.its.length≤100000
theorem kpC {g B:Nat} {v1 v2 v4 v5:Value} {w0 wc w':World} (h:wc.cell? ⟨g,1,none⟩=some v1∧wc.cell? ⟨g,2,none⟩=some v2∧wc.cell? ⟨g,4,none⟩=some v4∧wc.cell? ⟨g,5,none⟩=some v5∧B≤wc.heap.size∧Below B w0 wc) (hb:Below wc.heap.size wc w') :
  w'.cell? ⟨g,1,none⟩=some v1∧w'.cell? ⟨g,2,none⟩=some v2∧w'.cell? ⟨g,4,none⟩=some v4∧w'.cell? ⟨g,5,none⟩=some v5∧B≤w'.heap.size∧Below B w0 w':=
 ⟨(hb.cell (lt_of_cell h.1)).trans h.1,(hb.cell (lt_of_cell h.2.1)).trans h.2.1,(hb.cell (lt_of_cell h.2.2.1)).trans h.2.2.1,(hb.cell (lt_of_cell h.2.2.2.1)).trans h.2.2.2.1,Nat.le_trans h.2.2.2.2.1 hb.size,h.2.2.2.2.2.trans (hb.mono h.2.2.2.2.1)⟩
theorem set1245 {w:World} {g e:Nat} {u0 u1 u2 u3 u4 u5 u6:Value} (h:w.heap[g]?=some (.cells #[u0,u1,u2,u3,u4,u5,u6] e (0,0))) (v1 v2 v4 v5:Value) :
  ((((w.setCell ⟨g,1,none⟩ v1).setCell ⟨g,2,none⟩ v2).setCell ⟨g,4,none⟩ v4).setCell ⟨g,5,none⟩ v5).heap[g]?=some (.cells #[u0,v1,v2,u3,v4,v5,u6] e (0,0))∧Stays g w ((((w.setCell ⟨g,1,none⟩ v1).setCell ⟨g,2,none⟩ v2).setCell ⟨g,4,none⟩ v4).setCell ⟨g,5,none⟩ v5):=by
 constructor
 ·have h1:(w.setCell ⟨g,1,none⟩ v1).heap[g]?=some (.cells #[u0,v1,u2,u3,u4,u5,u6] e (0,0)):=by rw [heap_setCell_same _ g 1 _ e v1 h];rfl
  have h2:((w.setCell ⟨g,1,none⟩ v1).setCell ⟨g,2,none⟩ v2).heap[g]?=some (.cells #[u0,v1,v2,u3,u4,u5,u6] e (0,0)):=by rw [heap_setCell_same _ g 2 _ e v2 h1];rfl
  have h3:(((w.setCell ⟨g,1,none⟩ v1).setCell ⟨g,2,none⟩ v2).setCell ⟨g,4,none⟩ v4).heap[g]?=some (.cells #[u0,v1,v2,u3,v4,u5,u6] e (0,0)):=by rw [heap_setCell_same _ g 4 _ e v4 h2];rfl
  rw [heap_setCell_same _ g 5 _ e v5 h3];rfl
 ·exact ((Stays.set.trans Stays.set).trans Stays.set).trans Stays.set
theorem kpCb {g B:Nat} {v1 v2 v4 v5:Value} {w0 wc:World} (h:wc.cell? ⟨g,1,none⟩=some v1∧wc.cell? ⟨g,2,none⟩=some v2∧wc.cell? ⟨g,4,none⟩=some v4∧wc.cell? ⟨g,5,none⟩=some v5∧B≤wc.heap.size∧Below B w0 wc):Below B w0 wc:=h.2.2.2.2.2
theorem kpCf {g B e:Nat} {cs:Array Value} {v1 v2 v4 v5:Value} {w0 wc w':World} (hG:w0.heap[g]?=some (.cells cs e (0,0))) (hg:g < B) (h:wc.cell? ⟨g,1,none⟩=some v1∧wc.cell? ⟨g,2,none⟩=some v2∧wc.cell? ⟨g,4,none⟩=some v4∧wc.cell? ⟨g,5,none⟩=some v5∧B≤wc.heap.size∧Below B w0 wc) (hb:Below wc.heap.size wc w') :
  w'.heap[g]?=some (.cells cs e (0,0))∧∀ i,w'.frozen? ⟨g,i,none⟩=false:=by
 have h1:w'.heap[g]?=some (.cells cs e (0,0)):=(((h.2.2.2.2.2.trans (hb.mono h.2.2.2.2.1))).block g hg).trans hG
 exact ⟨h1,fun i=>Lib.frozen_of_heap h1 _⟩
end Go.Mh
namespace Go.Proofs.YteikncnldbdfmaaGreatDoor
open Go.RowKit Go.Mh
theorem rcl_shape {F:Nat→Prop} {w:World} {r b n q s k j:Value} {c:Cl} (h:RCl F w (.agg #[r,b,n,q,s,k,j]) c):∃ ba bc na nc sa sc ka kc,b=.slice ba c.base.length bc∧n=.slice na c.now.length nc∧s=.slice sa c.sent.length sc∧k=.slice ka c.held.length kc:=by
 obtain ⟨_,_,_,_,e,h1,h2,h3,h4⟩:=h
 obtain ⟨x1,y1,rfl,_⟩:=RdS.len h1
 obtain ⟨x2,y2,rfl,_⟩:=RdS.len h2
 obtain ⟨x3,y3,rfl,_⟩:=RdS.len h3
 obtain ⟨x4,y4,rfl,_⟩:=RdS.len h4
 simp at e
 exact ⟨_,_,_,_,_,_,_,_,e.2.1,e.2.2.1,e.2.2.2.2.1,e.2.2.2.2.2.1⟩
set_option maxRecDepth 100000 in
set_option maxHeartbeats 4000000 in
theorem clCopy_any (F:Nat→Prop) (v:Value) (c:Cl) (w:World) (h:RCl F w v c) (hsm:c.Sm) :
  Calls Tryz.prog 94 #[v] w fun e w'=>∃ v',e=.returned v'∧RCl (fun k=>w.heap.size≤k∨F k) w' v' c∧Below w.heap.size w w':=by
 obtain ⟨b,n,s,k,rfl,h1,h2,h3,h4⟩:=h
 have h3:=ROp.to h3 (Kp.lt w)
 have h4:=ROp.to h4 (Kp.lt w)
 obtain ⟨ba,bc,rfl,_⟩:=RdS.len h1
 obtain ⟨na,nc,rfl,_⟩:=RdS.len h2
 obtain ⟨sa,sc,rfl,_⟩:=RdS.len h3
 obtain ⟨ka,kc,rfl,_⟩:=RdS.len h4
 obtain ⟨w1,hw1⟩:∃ w1,w1=(w.alloc (.cells #[.int .i64 c.rev,.slice ba c.base.length bc,.slice na c.now.length nc,.int .i64 c.seq,.slice sa c.sent.length sc,.slice ka c.held.length kc,.bool c.joined] 52)).alloc (.cells #[.int .i64 0,.slice none 0 0,.slice none 0 0,.int .i64 0,.slice none 0 0,.slice none 0 0,.bool false] 52):=⟨_,rfl⟩
 have hb1:Below w.heap.size w w1:=by rw [hw1];exact bal (bal (brf w) _) _
 have hg1:w1.heap[w.heap.size]?=some (.cells #[.int .i64 c.rev,.slice ba c.base.length bc,.slice na c.now.length nc,.int .i64 c.seq,.slice sa c.sent.length sc,.slice ka c.held.length kc,.bool c.joined] 52 (0,0)):=by rw [hw1];exact heap_at2 rfl
 have hg2:w1.heap[w.heap.size+1]?=some (.cells #[.int .i64 0,.slice none 0 0,.slice none 0 0,.int .i64 0,.slice none 0 0,.slice none 0 0,.bool false] 52 (0,0)):=by rw [hw1];exact heap_at (by simp)
 have C1:=Lib.hid (fun (w':World) (hb:Below w1.heap.size w1 w')=>cloneDoc_any F _ c.base w' (h1.to (Kp.below (hb1.trans (hb.mono hb1.size)))) hsm.b)
 have C2:=Lib.hid (fun (w':World) (hb:Below w1.heap.size w1 w')=>cloneDoc_any F _ c.now w' (h2.to (Kp.below (hb1.trans (hb.mono hb1.size)))) hsm.n)
 have C4:=Lib.hid (fun (w':World) (hb:Below w1.heap.size w1 w')=>opCopy_any _ _ c.sent w' (ROp.to h3 (Kp.below (hb1.trans (hb.mono hb1.size)))) hsm.s hsm.si)
 have C5:=Lib.hid (fun (w':World) (hb:Below w1.heap.size w1 w')=>opCopy_any _ _ c.held w' (ROp.to h4 (Kp.below (hb1.trans (hb.mono hb1.size)))) hsm.h hsm.hi)
 obtain ⟨x0,x1,x2,x3,x4,x5,x6⟩:=P7.of hg1
 have Q:w1.cell? ⟨w.heap.size,1,none⟩=some (.slice ba c.base.length bc)∧w1.cell? ⟨w.heap.size,2,none⟩=some (.slice na c.now.length nc)∧w1.cell? ⟨w.heap.size,4,none⟩=some (.slice sa c.sent.length sc)∧w1.cell? ⟨w.heap.size,5,none⟩=some (.slice ka c.held.length kc)∧w1.heap.size≤w1.heap.size∧Below w1.heap.size w1 w1:=⟨x1,x2,x4,x5,Nat.le_refl _,brf _⟩
 have hG1:=Lib.hid hg1
 have hlt1:w.heap.size < w1.heap.size:=lt_of_heap hg1
 have hG2:=Lib.hid hg2
 have hB1:=Lib.hid hb1
 clear h1 h2 h3 h4 x0 x1 x2 x3 x4 x5 x6 hg1 hg2 hb1 hsm
 go_enter Tryz.func94,Tryz.ntmps94
 go_upto_region 1 with fail
 rw [← hw1]
 clear hw1
 have Q0:=kpC Q (brf w1).drew
 go_cut [5] (fun s5 wx=>s5=s5∧∃ b' n' s' k',wx.heap[w.heap.size]?=some (.cells #[.int .i64 c.rev,b',n',.int .i64 c.seq,s',k',.bool c.joined] 52 (0,0))∧RCl (fun k=>w.heap.size+1 < k∨(F k∧k < w.heap.size)) wx (.agg #[.int .i64 c.rev,b',n',.int .i64 c.seq,s',k',.bool c.joined]) c∧wx.heap[w.heap.size+1]?=some (.cells #[.int .i64 0,.slice none 0 0,.slice none 0 0,.int .i64 0,.slice none 0 0,.slice none 0 0,.bool false] 52 (0,0))∧Below w.heap.size w wx)
 case first =>
  refine wp_region_B 13 (fun w'=>w'.cell? ⟨w.heap.size,1,none⟩=some (.slice ba c.base.length bc)∧w'.cell? ⟨w.heap.size,2,none⟩=some (.slice na c.now.length nc)∧w'.cell? ⟨w.heap.size,4,none⟩=some (.slice sa c.sent.length sc)∧w'.cell? ⟨w.heap.size,5,none⟩=some (.slice ka c.held.length kc)∧w1.heap.size≤w'.heap.size∧Below w1.heap.size w1 w') (by kernel_rfl) ?_
  refine wpAnyB_take 0 (v:=.pointer (some ⟨w.heap.size,1,none⟩)) rfl (by kernel_rfl) (by kernel_rfl) (by kernel_rfl) (by kernel_rfl) (by kernel_rfl) (by decide) (fun _ _ _ h=>h) (Or.inl ⟨by rfl,fun w' hw'=>?_⟩) Q0 ?_
  ·(try dsimp only at hw');go_simp
  simp only [Act.put,List.setIfInBounds_toArray]
  refine wpAnyB_take 3 (v:=.pointer (some ⟨w.heap.size,2,none⟩)) rfl (by kernel_rfl) (by kernel_rfl) (by kernel_rfl) (by kernel_rfl) (by kernel_rfl) (by decide) (fun _ _ _ h=>h) (Or.inl ⟨by rfl,fun w' hw'=>?_⟩) Q0 ?_
  ·(try dsimp only at hw');go_simp
  simp only [Act.put]
  refine wpAnyB_take 6 (v:=.pointer (some ⟨w.heap.size,4,none⟩)) rfl (by kernel_rfl) (by kernel_rfl) (by kernel_rfl) (by kernel_rfl) (by kernel_rfl) (by decide) (fun _ _ _ h=>h) (Or.inl ⟨by rfl,fun w' hw'=>?_⟩) Q0 ?_
  ·(try dsimp only at hw');go_simp
  simp only [Act.put]
  refine wpAnyB_take 9 (v:=.pointer (some ⟨w.heap.size,5,none⟩)) rfl (by kernel_rfl) (by kernel_rfl) (by kernel_rfl) (by kernel_rfl) (by kernel_rfl) (by decide) (fun _ _ _ h=>h) (Or.inl ⟨by rfl,fun w' hw'=>?_⟩) Q0 ?_
  ·(try dsimp only at hw');go_simp
  simp only [Act.put]
  refine wpAnyB_take 1 (v:=.slice ba c.base.length bc) rfl (by kernel_rfl) (by kernel_rfl) (by kernel_rfl) (by kernel_rfl) (by kernel_rfl) (by decide) (fun _ _ _ h=>h) (Or.inl ⟨by rfl,fun w' hw'=>?_⟩) Q0 ?_
  ·(try dsimp only at hw');go_simp
  simp only [Act.put]
  refine wpAnyB_take 4 (v:=.slice na c.now.length nc) rfl (by kernel_rfl) (by kernel_rfl) (by kernel_rfl) (by kernel_rfl) (by kernel_rfl) (by decide) (fun _ _ _ h=>h) (Or.inl ⟨by rfl,fun w' hw'=>?_⟩) Q0 ?_
  ·(try dsimp only at hw');go_simp
  simp only [Act.put]
  refine wpAnyB_take 7 (v:=.slice sa c.sent.length sc) rfl (by kernel_rfl) (by kernel_rfl) (by kernel_rfl) (by kernel_rfl) (by kernel_rfl) (by decide) (fun _ _ _ h=>h) (Or.inl ⟨by rfl,fun w' hw'=>?_⟩) Q0 ?_
  ·(try dsimp only at hw');go_simp
  simp only [Act.put]
  refine wpAnyB_take 10 (v:=.slice ka c.held.length kc) rfl (by kernel_rfl) (by kernel_rfl) (by kernel_rfl) (by kernel_rfl) (by kernel_rfl) (by decide) (fun _ _ _ h=>h) (Or.inl ⟨by rfl,fun w' hw'=>?_⟩) Q0 ?_
  ·(try dsimp only at hw');go_simp
  simp only [Act.put]
  refine wpAnyB_step 2 rfl (by kernel_rfl) (fun K' hK'=>?_)
  rw [if_pos (by rfl)]
  go_simp
  go_at_call 84
  refine (C1.out _ (kpCb Q0)).mono ?_
  rintro e wa ⟨ua,rfl,hra,hba⟩
  obtain ⟨aa,ca,rfl,_⟩:=RdS.len hra.rd
  have Qa:=kpC Q0 hba
  go_wp2_with fail
  refine hK'.out _ _ Qa ?_
  clear hK' K'
  refine wpAnyB_take 12 (v:=.pointer (some ⟨w.heap.size,1,none⟩)) rfl (by kernel_rfl) (by kernel_rfl) (by kernel_rfl) (by kernel_rfl) (by kernel_rfl) (by decide) (fun _ _ _ h=>h) (Or.inl ⟨by rfl,fun w' hw'=>?_⟩) Qa ?_
  ·(try dsimp only at hw');go_simp
  simp only [Act.put,List.setIfInBounds_toArray]
  refine wpAnyB_step 5 rfl (by kernel_rfl) (fun K' hK'=>?_)
  rw [if_pos (by rfl)]
  go_simp
  go_at_call 84
  refine (C2.out _ (kpCb Qa)).mono ?_
  rintro e wb ⟨ub,rfl,hrb,hbb⟩
  obtain ⟨ab,cb,rfl,_⟩:=RdS.len hrb.rd
  have Qb:=kpC Qa hbb
  go_wp2_with fail
  refine hK'.out _ _ Qb ?_
  clear hK' K'
  refine wpAnyB_step 8 rfl (by kernel_rfl) (fun K' hK'=>?_)
  rw [if_pos (by rfl)]
  go_simp
  go_at_call 91
  refine (C4.out _ (kpCb Qb)).mono ?_
  rintro e wc ⟨uc,rfl,hrc,hbc⟩
  obtain ⟨ac,cc,rfl,_⟩:=RdS.len hrc
  have Qc:=kpC Qb hbc
  go_wp2_with fail
  refine hK'.out _ _ Qc ?_
  clear hK' K'
  refine wpAnyB_step 11 rfl (by kernel_rfl) (fun K' hK'=>?_)
  rw [if_pos (by rfl)]
  go_simp
  go_at_call 91
  refine (C5.out _ (kpCb Qc)).mono ?_
  rintro e wd ⟨ud,rfl,hrd,hbd⟩
  obtain ⟨ad,cd,rfl,_⟩:=RdS.len hrd
  have Qd:=kpC Qc hbd
  obtain ⟨hGd,hfd⟩:=kpCf hG1.out hlt1 Qc hbd
  have hwd:w.heap.size < wd.heap.size:=lt_of_heap hGd
  obtain ⟨y0,y1,y2,y3,y4,y5,y6⟩:=P7.of hGd
  go_wp2_with fail
  refine hK'.out _ _ Qd ?_
  clear hK' K'
  refine wpAnyB_last 13 rfl (by kernel_rfl) (by kernel_rfl) (fun K' hK'=>?_)
  rw [if_pos (by rfl)]
  go_simp
  refine hK'.out _ _ ?_
  clear hK' K'
  refine wpAnyB_last 14 rfl (by kernel_rfl) (by kernel_rfl) (fun K' hK'=>?_)
  rw [if_pos (by rfl)]
  go_simp
  refine hK'.out _ _ ?_
  clear hK' K'
  refine wpAnyB_last 15 rfl (by kernel_rfl) (by kernel_rfl) (fun K' hK'=>?_)
  rw [if_pos (by rfl)]
  go_simp
  refine hK'.out _ _ ?_
  clear hK' K'
  refine wpAnyB_last 16 rfl (by kernel_rfl) (by kernel_rfl) (fun K' hK'=>?_)
  rw [if_pos (by rfl)]
  go_simp
  refine hK'.out _ _ ?_
  clear hK' K'
  refine wpAnyB_last 17 rfl (by kernel_rfl) (by kernel_rfl) (fun K' hK'=>?_)
  rw [if_pos (by rfl)]
  go_simp
  refine hK'.out _ _ ?_
  clear hK' K'
  refine wpAnyB_last 18 rfl (by kernel_rfl) (by kernel_rfl) (fun K' hK'=>?_)
  rw [if_pos (by rfl)]
  go_simp
  refine hK'.out _ _ ?_
  clear hK' K'
  refine wpAnyB_last 19 rfl (by kernel_rfl) (by kernel_rfl) (fun K' hK'=>?_)
  rw [if_pos (by rfl)]
  go_simp
  refine hK'.out _ _ ?_
  clear hK' K'
  refine wpAnyB_done (by kernel_rfl) ?_ _
  go_wp2_with fail
  go_meet
  obtain ⟨s1,s2⟩:=set1245 hGd (.slice aa c.base.length ca) (.slice ab c.now.length cb) (.slice ac c.sent.length cc) (.slice ad c.held.length cd)
  have hl2:=lt_of_heap hG2.out
  have za:w1.heap.size≤wa.heap.size:=hba.size
  have zb:wa.heap.size≤wb.heap.size:=hbb.size
  have zc:wb.heap.size≤wc.heap.size:=hbc.size
  have zd:wc.heap.size≤wd.heap.size:=hbd.size
  have hcd:∀ k,k < wc.heap.size→k≠w.heap.size→((((wd.setCell ⟨w.heap.size,1,none⟩ (.slice aa c.base.length ca)).setCell ⟨w.heap.size,2,none⟩ (.slice ab c.now.length cb)).setCell ⟨w.heap.size,4,none⟩ (.slice ac c.sent.length cc)).setCell ⟨w.heap.size,5,none⟩ (.slice ad c.held.length cd)).heap[k]?=wc.heap[k]?:=fun k hk hn=>(s2.same k (by omega) hn).trans (hbd.block k hk)
  have hbd':∀ k,k < wb.heap.size→k≠w.heap.size→_=wb.heap[k]?:=fun k hk hn=>(hcd k (by omega) hn).trans (hbc.block k hk)
  have had:∀ k,k < wa.heap.size→k≠w.heap.size→_=wa.heap[k]?:=fun k hk hn=>(hbd' k (by omega) hn).trans (hbb.block k hk)
  refine ⟨trivial,_,_,_,_,s1,⟨_,_,_,_,rfl,RItems.to hra.rd fun k h1 h2=>⟨Or.inl ?_,had k h2 ?_⟩,RItems.to hrb.rd fun k h1 h2=>⟨Or.inl ?_,hbd' k h2 ?_⟩,ROp.to hrc fun k h1 h2=>⟨?_,hcd k h2 ?_⟩,ROp.to hrd fun k h1 h2=>⟨?_,s2.same k h2 ?_⟩⟩, ?_, ?_⟩
  ·have h1':w1.heap.size≤k:=h1
   omega
  ·have h1':w1.heap.size≤k:=h1
   omega
  ·have h1':wa.heap.size≤k:=h1
   omega
  ·have h1':wa.heap.size≤k:=h1
   omega
  ·rcases h1 with h1 | h1
   ·exact Or.inl (by omega)
   ·exact Or.inr h1
  ·rcases h1 with h1 | h1
   ·omega
   ·have:=h1.2;omega
  ·rcases h1 with h1 | h1
   ·exact Or.inl (by omega)
   ·exact Or.inr h1
  ·rcases h1 with h1 | h1
   ·omega
   ·have:=h1.2;omega
  ·exact (had _ (by omega) (by omega)).trans ((hba.block _ hl2).trans hG2.out)
  ·exact hB1.out.trans ((kpCb Qd).mono hB1.out.size) |>.trans (s2.bel.mono (Nat.le_refl _))
 case rest =>
  obtain ⟨_,b',n',s',k',e1,hR,e2,hB⟩:=hcut
  obtain ⟨b1,b2,n1,n2,s1,s2,k1,k2,rfl,rfl,rfl,rfl⟩:=rcl_shape hR
  have hf2:∀ i,wc.frozen? ⟨w.heap.size+1,i,none⟩=false:=fun i=>Lib.frozen_of_heap e2 _
  obtain ⟨x0,x1,x2,x3,x4,x5,x6⟩:=P7.of e1
  obtain ⟨y0,y1,y2,y3,y4,y5,y6⟩:=P7.of e2
  have hlt2:w.heap.size+1 < wc.heap.size:=lt_of_heap e2
  have E2:=Lib.hid e2
  have HR:=Lib.hid hR
  have HB:=Lib.hid hB
  clear e1 e2 hR hB hG1 hG2 hB1 C1 C2 C4 C5 Q Q0
  go_wp2
  obtain ⟨q1,q2⟩:=set7z E2.out (.int .i64 c.rev) (.slice b1 c.base.length b2) (.slice n1 c.now.length n2) (.int .i64 c.seq) (.slice s1 c.sent.length s2) (.slice k1 c.held.length k2) (.bool c.joined)
  generalize hwz:((((((wc.setCell ⟨w.heap.size+1,0,none⟩ (.int .i64 c.rev)).setCell ⟨w.heap.size+1,1,none⟩ (.slice b1 c.base.length b2)).setCell ⟨w.heap.size+1,2,none⟩ (.slice n1 c.now.length n2)).setCell ⟨w.heap.size+1,3,none⟩ (.int .i64 c.seq)).setCell ⟨w.heap.size+1,4,none⟩ (.slice s1 c.sent.length s2)).setCell ⟨w.heap.size+1,5,none⟩ (.slice k1 c.held.length k2)).setCell ⟨w.heap.size+1,6,none⟩ (.bool c.joined)=wz at *
  obtain ⟨z0,z1,z2,z3,z4,z5,z6⟩:=P7.of q1
  exact bodyPost_ret (v:=.agg #[.int .i64 c.rev,.slice b1 c.base.length b2,.slice n1 c.now.length n2,.int .i64 c.seq,.slice s1 c.sent.length s2,.slice k1 c.held.length k2,.bool c.joined]) (by simp [results,Tryz.results94,go_sem,z0,z1,z2,z3,z4,z5,z6]) rfl ⟨_,rfl,RCl.to HR.out (fun k h1 h2=>⟨by rcases h1 with h1 | h1;exact Or.inl (by omega);exact Or.inr h1.1,q2.same k h2 (by rcases h1 with h1 | h1;omega;have:=h1.2;omega)⟩),HB.out.trans (q2.bel.mono (by omega))⟩
end Go.Proofs.YteikncnldbdfmaaGreatDoor
