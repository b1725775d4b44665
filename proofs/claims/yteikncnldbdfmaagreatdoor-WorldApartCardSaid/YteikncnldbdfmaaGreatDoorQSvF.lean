import Derived.Test.YteikncnldbdfmaaGreatDoorQSvB
namespace Go.Mh
theorem take_eq_snoc {α : Type} {l m : List α} {k : Nat} {x y : α} (hx : l[k]? = some x) (hy : m[k]? = some y) (h : l.take k = m.take k) (he : x = y) : l.take (k + 1) = m.take (k + 1):=by
 rw [List.take_add_one,List.take_add_one,hx,hy,h,he]
theorem ne_of_get {α : Type} {l m : List α} {k : Nat} {x y : α} (hx : l[k]? = some x) (hy : m[k]? = some y) (he : x ≠ y) : l ≠ m:=fun h => by
 rw [h,hy] at hx
 exact he (Option.some.inj hx).symm
end Go.Mh
namespace Go.Proofs.YteikncnldbdfmaaGreatDoor
open Go.RowKit Go.Mh
set_option maxRecDepth 100000 in
set_option maxHeartbeats 4000000 in
theorem svEqFunc_any (F G : Nat → Prop) (v u : Value) (l m : List En) (w : World) (h : RLog F w v l) (g : RLog G w u m) :
  Calls Tryz.prog 87 #[v,u,.func (Fn.func 67) #[] #[]] w fun e w' => e = .returned (.bool (decide (l = m))) ∧ Below w.heap.size w w':=by
 obtain ⟨la,lc,rfl,_⟩:=RdS.len h
 obtain ⟨ma,mc,rfl,_⟩:=RdS.len g
 have HL:=Lib.hid h
 have HM:=Lib.hid g
 clear h g
 go_enter Tryz.func87,Tryz.ntmps87
 by_cases hn : l.length = m.length
 ·have d1 : ((l.length : Int) != (m.length : Int)) = false:=by simp [hn]
  have hn':=Lib.hid hn
  clear hn
  go_wp2
  go_loopw [17] (fun i wr => ∃ k : Nat,k ≤ l.length ∧ i = .int .i64 k ∧ Hid (l.take k = m.take k) ∧ Below w.heap.size w wr) (fun i _ => l.length - (intOf i).toNat)
  case atStart => exact ⟨0,Nat.zero_le _,rfl,Lib.hid (by simp),brf _⟩
  case round =>
   obtain ⟨k,hk,rfl,hf,hb⟩:=hrel
   by_cases hlt : k < l.length
   ·obtain ⟨x,hx⟩ : ∃ x,l[k]? = some x:=⟨_,List.getElem?_eq_getElem hlt⟩
    have hlt2 : k < m.length:=by have:=hn'.out;omega
    obtain ⟨y,hy⟩ : ∃ y,m[k]? = some y:=⟨_,List.getElem?_eq_getElem hlt2⟩
    obtain ⟨b,o,ov,e1,hr,c0,c1,c2⟩:=RLog.at HL.out hb hx
    obtain ⟨b',o',ov',e1',hr',c0',c1',c2'⟩:=RLog.at HM.out hb hy
    subst e1 e1'
    obtain ⟨oa,oc,rfl,_⟩:=RdS.len hr
    obtain ⟨pa,pc,rfl,_⟩:=RdS.len hr'
    have hbs : b < wr.heap.size:=lt_of_cell c0
    have hbs' : b' < wr.heap.size:=lt_of_cell c0'
    have hb0 : Below wr.heap.size wr ((wr.alloc (.cells #[.int .i64 x.client,.int .i64 x.seq,.slice oa x.o.length oc] 77)).alloc (.cells #[.int .i64 y.client,.int .i64 y.seq,.slice pa y.o.length pc] 77)):=bal (bal (brf wr) _) _
    have C:=Lib.hid (svSameEntry_any _ _ _ _ x y _ (ROp.to hr (Kp.below (btr hb hb0))) (ROp.to hr' (Kp.below (btr hb hb0))))
    by_cases he : x = y
    ·have hnx:=Lib.hid (take_eq_snoc hx hy hf.out he)
     rw [decide_eq_true he] at C
     clear hx hy hr hr' he hf
     go_wp2_with fail
     refine C.out.mono ?_
     rintro e w1 ⟨rfl,hb1⟩
     clear c0 c1 c2 c0' c1' c2' C
     go_wp2
     go_roundw
     case rel => exact ⟨k + 1,by omega,by go_num,hnx,btr (btr hb hb0) hb1⟩
     case measure => simp [intOf];omega
    ·have hfin:=Lib.hid (decide_eq_false (ne_of_get hx hy he))
     rw [decide_eq_false he] at C
     clear hx hy hr hr' he hf
     go_wp2_with fail
     refine C.out.mono ?_
     rintro e w1 ⟨rfl,hb1⟩
     clear c0 c1 c2 c0' c1' c2' C
     go_wp2
     go_ret
     exact ⟨by rw [hfin.out];rfl,btr (btr hb hb0) hb1⟩
   ·obtain rfl : k = l.length:=by omega
    have hfin : Hid (decide (l = m) = true):=Lib.hid (by
     have:=hf.out
     rw [List.take_length,hn'.out,List.take_length] at this
     exact decide_eq_true this)
    clear hf
    go_wp2
    go_ret
    exact ⟨by rw [hfin.out];rfl,hb⟩
 ·have d1 : ((l.length : Int) != (m.length : Int)) = true:=by simp;omega
  have hfin:=Lib.hid (decide_eq_false (fun h : l = m => hn (by rw [h])))
  clear hn
  go_wp2
  go_ret
  exact ⟨by rw [hfin.out];rfl,brf _⟩
set_option maxRecDepth 100000 in
set_option maxHeartbeats 4000000 in
theorem svSame_any (F G : Nat → Prop) (v u : Value) (s t : Srv) (w : World) (h : RSrv F w v s) (g : RSrv G w u t) :
  Calls Tryz.prog 34 #[v,u] w fun e w' => e = .returned (.bool (decide (s.first = t.first) && decide (s.now = t.now) && decide (s.log = t.log))) ∧ Below w.heap.size w w':=by
 obtain ⟨a,l,n,rfl,h1,h2,h3⟩:=h
 obtain ⟨a',l',n',rfl,g1,g2,g3⟩:=g
 obtain ⟨aa,ac,rfl,_⟩:=RdS.len h1
 obtain ⟨la,lc,rfl,_⟩:=RdS.len h2
 obtain ⟨na,nc,rfl,_⟩:=RdS.len h3
 obtain ⟨ba,bc,rfl,_⟩:=RdS.len g1
 obtain ⟨ma,mc,rfl,_⟩:=RdS.len g2
 obtain ⟨pa,pc,rfl,_⟩:=RdS.len g3
 obtain ⟨w0,hw0⟩ : ∃ w0,w0 = (w.alloc (.cells #[.slice aa s.first.length ac,.slice la s.log.length lc,.slice na s.now.length nc] 26)).alloc (.cells #[.slice ba t.first.length bc,.slice ma t.log.length mc,.slice pa t.now.length pc] 26):=⟨_,rfl⟩
 have hb0 : Below w.heap.size w w0:=by rw [hw0];exact bal (bal (brf w) _) _
 have E0:=Lib.hid (by rw [hw0];exact heap_at2 rfl : w0.heap[w.heap.size]? = some (.cells #[.slice aa s.first.length ac,.slice la s.log.length lc,.slice na s.now.length nc] 26 (0,0)))
 have E1:=Lib.hid (by rw [hw0];exact heap_at (by simp) : w0.heap[w.heap.size + 1]? = some (.cells #[.slice ba t.first.length bc,.slice ma t.log.length mc,.slice pa t.now.length pc] 26 (0,0)))
 have S1:=Lib.hid (same_any F G _ _ s.first t.first w0 (RItems.to h1 (Kp.below hb0)) (RItems.to g1 (Kp.below hb0)))
 have S2:=Lib.hid (fun (w' : World) (hb : Below w0.heap.size w0 w') => same_any F G _ _ s.now t.now w' (RItems.to h3 (Kp.below (btr hb0 hb))) (RItems.to g3 (Kp.below (btr hb0 hb))))
 have S3:=Lib.hid (fun (w' : World) (hb : Below w0.heap.size w0 w') => svEqFunc_any F G _ _ s.log t.log w' (RLog.to h2 (Kp.below (btr hb0 hb))) (RLog.to g2 (Kp.below (btr hb0 hb))))
 clear h1 h2 h3 g1 g2 g3
 go_enter Tryz.func34,Tryz.ntmps34
 go_upto_region 1 with fail
 rw [← hw0]
 clear hw0
 obtain ⟨x0,x1,x2⟩:=P3.of E0.out
 obtain ⟨y0,y1,y2⟩:=P3.of E1.out
 by_cases c1 : s.first = t.first
 ·have f1:=Lib.hid (decide_eq_true c1)
  rw [f1.out] at S1
  clear c1
  go_wp2_with fail
  refine S1.out.mono ?_
  rintro e w1 ⟨rfl,hb1⟩
  clear x0 x1 x2 y0 y1 y2
  obtain ⟨x0,x1,x2⟩:=P3.of ((hb1.block _ (lt_of_heap E0.out)).trans E0.out)
  obtain ⟨y0,y1,y2⟩:=P3.of ((hb1.block _ (lt_of_heap E1.out)).trans E1.out)
  by_cases c2 : s.now = t.now
  ·have f2:=Lib.hid (decide_eq_true c2)
   rw [f2.out] at S2
   clear c2
   go_wp2_with fail
   refine (S2.out w1 hb1).mono ?_
   rintro e w2 ⟨rfl,hb2⟩
   have hb02 : Below w0.heap.size w0 w2:=btr hb1 hb2
   clear x0 x1 x2 y0 y1 y2
   obtain ⟨x0,x1,x2⟩:=P3.of ((hb02.block _ (lt_of_heap E0.out)).trans E0.out)
   obtain ⟨y0,y1,y2⟩:=P3.of ((hb02.block _ (lt_of_heap E1.out)).trans E1.out)
   go_wp2_with fail
   refine (S3.out w2 hb02).mono ?_
   rintro e w3 ⟨rfl,hb3⟩
   go_wp2
   go_ret
   exact ⟨by rw [f1.out,f2.out];simp,btr hb0 (btr hb02 hb3)⟩
  ·have f2:=Lib.hid (decide_eq_false c2)
   rw [f2.out] at S2
   clear c2
   go_wp2_with fail
   refine (S2.out w1 hb1).mono ?_
   rintro e w2 ⟨rfl,hb2⟩
   go_wp2
   go_ret
   exact ⟨by rw [f1.out,f2.out];simp,btr hb0 (btr hb1 hb2)⟩
 ·have f1:=Lib.hid (decide_eq_false c1)
  rw [f1.out] at S1
  clear c1
  go_wp2_with fail
  refine S1.out.mono ?_
  rintro e w1 ⟨rfl,hb1⟩
  go_wp2
  go_ret
  exact ⟨by rw [f1.out];simp,btr hb0 hb1⟩
end Go.Proofs.YteikncnldbdfmaaGreatDoor
