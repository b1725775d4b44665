import Derived.Test.YteikncnldbdfmaaGreatDoorMWdG
import Derived.Test.YteikncnldbdfmaaGreatDoorMSanP
namespace Go.Mh
open Go Go.RowKit
theorem RdS.two {α:Type} {sz:Nat} {R:World→List Value→α→Prop} {F:Nat→Prop} {w:World} {x y:α} (cs ds:List Value) (e:TypeId) (hcs:cs.length=sz) (hds:ds.length=sz) (hF:F w.heap.size) (hR:R (w.alloc (.cells (cs ++ ds).toArray e)) cs x) (hS:R (w.alloc (.cells (cs ++ ds).toArray e)) ds y) :
  RdS sz R F (w.alloc (.cells (cs ++ ds).toArray e)) (.slice (some ⟨w.heap.size,0,none⟩) 2 2) [x,y]:=by
 have hh:=heap_new w (.cells (cs ++ ds).toArray e)
 refine ⟨_,2,rfl,by simp,by simp [maxLen],fun h=>by simp at h,fun i z hz=>?_⟩
 match i,hz with
 | 0,hz =>
  simp at hz
  subst hz
  refine ⟨_,0,cs,rfl,hF,hcs,fun j u hj=>?_,hR⟩
  have hl:j < cs.length:=(List.getElem?_eq_some_iff.1 hj).1
  have e0:(w.alloc (.cells (cs ++ ds).toArray e)).cell? ⟨w.heap.size,0+0 * sz+j,none⟩=(cs ++ ds).toArray[j]?:=by
   unfold World.cell?
   rw [hh]
   simp
  rw [e0]
  simp [List.getElem?_append_left hl,hj]
 | 1,hz =>
  simp at hz
  subst hz
  refine ⟨_,0,ds,rfl,hF,hds,fun j u hj=>?_,hS⟩
  have e0:(w.alloc (.cells (cs ++ ds).toArray e)).cell? ⟨w.heap.size,0+1 * sz+j,none⟩=(cs ++ ds).toArray[sz+j]?:=by
   unfold World.cell?
   rw [hh]
   simp
  rw [e0]
  simp [List.getElem?_append_right (show cs.length≤sz+j by omega),hcs,hj]
end Go.Mh
namespace Go.Proofs.YteikncnldbdfmaaGreatDoor
open Go.RowKit Go.Mh
abbrev RHap (F:Nat→Prop) (w:World) (v:Value) (x:Hap):Prop:=∃ oa oc ba bc,v=.agg #[.int .i64 x.kind,.int .i64 x.client,.int .i64 x.n,.slice oa x.o.length oc,.slice ba x.b.length bc]∧ROp F w (.slice oa x.o.length oc) x.o∧RBytes F w (.slice ba x.b.length bc) x.b
theorem wrap_w {x:Int} (h0:0≤x) (h1:x≤9223372036854775807):wrap64 x=x:=by unfold wrap64;omega
theorem cell5 {w:World} {b:Nat} {a0 a1 a2 a3 a4:Value} {e:TypeId} {fr:Nat × Nat} (h:w.heap[b]?=some (.cells #[a0,a1,a2,a3,a4] e fr)):w.cell? ⟨b,0,none⟩=some a0∧w.cell? ⟨b,1,none⟩=some a1∧w.cell? ⟨b,2,none⟩=some a2∧w.cell? ⟨b,3,none⟩=some a3∧w.cell? ⟨b,4,none⟩=some a4:=
 ⟨cellOf (i:=0) h rfl,cellOf (i:=1) h rfl,cellOf (i:=2) h rfl,cellOf (i:=3) h rfl,cellOf (i:=4) h rfl⟩
set_option maxRecDepth 100000 in
set_option maxHeartbeats 4000000 in
theorem wdPaste_any (B g:Nat) (l:Lay) (w:World) (W:Wd) (k:Nat) (v:Value) (x:Hap) (h:WAt B g l w W) (hk:k < W.cl.length) (hul:W.up.length=W.cl.length) (hdl:W.down.length=W.cl.length) (hx:RHap (l.N g) w v x) (hm:∃ m,w.cell? ⟨2,0,none⟩=some (.int .i64 m)) :
  Calls Tryz.prog 96 #[.pointer (some ⟨g,0,none⟩),.int .i64 k,v] w fun e w'=>e=.returned (.int .i64 (pasteW sanP W k x).2)∧(∃ l',WAt B g l' w' (pasteW sanP W k x).1∧Kp (l.N g) (l'.N g) w w')∧Below B w w':=by
 obtain ⟨oa,oc,ba,bc,rfl,_,hb⟩:=hx
 obtain ⟨gc,gu,gd,cc,cu,cd,c,b,n,s,hh,uq,dq,H⟩:=h.facts hk hul hdl
 have ec:clAt W k=c:=getD_some H.hc
 obtain ⟨⟨V,E⟩,hV⟩:∃ r,pasteW sanP W k x=r:=⟨_,rfl⟩
 rw [hV]
 unfold pasteW at hV
 rw [ec] at hV
 obtain ⟨⟨D,er⟩,hr⟩:∃ r,sanP x.b=r:=⟨_,rfl⟩
 rw [hr] at hV
 have hBs:B≤w.heap.size:=by have:=h.gB;obtain ⟨_,kg⟩:=H.kg;have:=lt_of_heap kg;omega
 obtain ⟨na,nc,rfl,hnl⟩:=RdS.len H.rn
 have HF:=Lib.hid H
 have h:=Lib.hid h
 have hV:=Lib.hid hV
 clear H
 go_enter Tryz.func96,Tryz.ntmps96
 go_upto_region 1 with fail
 refine name_world ?_
 intro w1 hw1
 have hb1:Below w.heap.size w w1:=by rw [← hw1];exact bal (brf w) _
 have hN1:=heap_new w (.cells #[.int .i64 x.kind,.int .i64 x.client,.int .i64 x.n,.slice oa x.o.length oc,.slice ba x.b.length bc] 43)
 rw [hw1] at hN1
 have hN1:=Lib.hid hN1
 have hlt1:=lt_of_heap hN1.out
 obtain ⟨_,_,_,_,q4⟩:=cell5 hN1.out
 have C:=sanPage_any _ _ x.b w1 (RBytes.to hb (Kp.below hb1)) (by obtain ⟨m,hm⟩:=hm;exact ⟨m,(hb1.cell (lt_of_cell hm)).trans hm⟩)
 rw [hr] at C
 dsimp only at C
 have C:=Lib.hid C
 clear hw1 hb hm
 go_wp2_with fail
 refine C.out.mono ?_
 rintro e w2 ⟨r,rfl,hD,hb2⟩
 obtain ⟨ra,rc,rfl,_⟩:=RdS.len hD
 have HD:=Lib.hid hD
 have hB2:Below w.heap.size w w2:=hb1.trans (hb2.mono hb1.size)
 clear q4 hD C
 by_cases he:er=0
 ·subst he
  have hV1:=hV.out
  rw [if_neg (by simp)] at hV1
  clear hV
  have hN2:=Lib.hid ((hb2.block _ hlt1).trans hN1.out)
  have HF2:=Lib.hid (HF.out.below hB2)
  have y3:=HF2.out.b3
  have y2:=HF2.out.c2
  obtain ⟨_,_,q2,_,_⟩:=cell5 hN2.out
  by_cases h0:x.n < 0
  ·rw [if_pos (Or.inl h0)] at hV1
   cases hV1
   have d0:decide (x.n < 0)=true:=by simpa using h0
   clear h0
   go_wp2_with fail
   go_ret
   exact ⟨rfl,⟨_,h.out.below hB2,Kp.below hB2⟩,hB2.mono hBs⟩
  ·by_cases hn:(c.now.length:Int)≤x.n
   ·rw [if_pos (Or.inr hn)] at hV1
    cases hV1
    have d0:decide (x.n < 0)=false:=by simpa using h0
    have d1:decide ((c.now.length:Int)≤x.n)=true:=by simpa using hn
    clear h0 hn
    go_wp2_with fail
    go_ret
    exact ⟨rfl,⟨_,h.out.below hB2,Kp.below hB2⟩,hB2.mono hBs⟩
   ·rw [if_neg (by omega)] at hV1
    have d0:decide (x.n < 0)=false:=by simpa using h0
    have d1:decide ((c.now.length:Int)≤x.n)=false:=by simpa using hn
    have hwr:wrap64 ((c.now.length:Int) - x.n)=(c.now.length:Int) - x.n:=wrap_w (by omega) (by omega)
    have hn':=Lib.hid hn
    have h0':=Lib.hid h0
    have hnl':=Lib.hid hnl
    clear hn h0 hnl
    by_cases hp:0 < x.n
    ·have d2:decide (0 < x.n)=true:=by simpa using hp
     have hp:=Lib.hid hp
     go_upto_region 10 with (at_builtin;refine wpList_app rfl (.tmp 41) (.tmp 45) 40 rfl w2.heap.size 93 7 80 _ elPart (RPt fun j=>w1.heap.size≤j∧j < w2.heap.size) (.slice none 0 0) [] [keepP kd0 x.n] rfl OwnS.nil (fun _=>True) (.slice (some ⟨w2.heap.size,0,none⟩) 1 1) rfl (RdS.one [.int .i64 1,.int .i64 x.n,.slice none 0 0,.int .i64 0,.int .i64 0,.bool false,.string ⟨#[]⟩] _ rfl trivial ⟨_,rfl,RdS.nil⟩) (RPt_one _) (by simp [maxLen]) (by simp) (by simp) (fun w' hg cs y _ r=>RPt.to r fun j hj hl=>⟨hj,hg.block j hl (by simp [Value.ownBlock])⟩) ?_;intro u3 w3 ho3 hg3 hB3')
     have hB3:Below w2.heap.size w2 w3:=(bal (brf w2) _).trans hB3'
     have q2':=(hB3.cell (lt_of_cell q2)).trans q2
     clear q2
     obtain ⟨L0,hL0⟩:∃ L0,L0=[keepP kd0 x.n]:=⟨_,rfl⟩
     rw [List.nil_append,← hL0] at ho3
     have hL0l:L0.length≤1:=by rw [hL0];simp
     obtain ⟨ua,uc,rfl,_⟩:=RdS.len ho3.rd
     have ho3:=Lib.hid ho3
     have hB4:Below w2.heap.size w2 (w3.alloc (.cells #[.int .i64 2,.int .i64 0,.slice ra D.length rc,.int .i64 0,.int .i64 0,.bool false,.string ⟨#[]⟩,.int .i64 1,.int .i64 ((c.now.length:Int) - x.n),.slice none 0 0,.int .i64 0,.int .i64 0,.bool false,.string ⟨#[]⟩] 93)):=bal hB3 _
     have hsrc:=RdS.two (sz:=7) (R:=RPt fun j=>w1.heap.size≤j∧j < w2.heap.size) (F:=fun _=>True) (w:=w3) (x:=putP D) (y:=keepP kd0 ((c.now.length:Int) - x.n)) [.int .i64 2,.int .i64 0,.slice ra D.length rc,.int .i64 0,.int .i64 0,.bool false,.string ⟨#[]⟩] [.int .i64 1,.int .i64 ((c.now.length:Int) - x.n),.slice none 0 0,.int .i64 0,.int .i64 0,.bool false,.string ⟨#[]⟩] 93 rfl rfl trivial ⟨_,rfl,RItems.to (RItems.to HD.out (Kp.lt w2)) (Kp.below hB4)⟩ ⟨_,rfl,RdS.nil⟩
     have hown:=ho3.out.below (bal (brf w3) (.cells #[.int .i64 2,.int .i64 0,.slice ra D.length rc,.int .i64 0,.int .i64 0,.bool false,.string ⟨#[]⟩,.int .i64 1,.int .i64 ((c.now.length:Int) - x.n),.slice none 0 0,.int .i64 0,.int .i64 0,.bool false,.string ⟨#[]⟩] 93)) (fun _ _ _ r=>RPt.to r (Kp.below (bal (brf w3) _)))
     have hlo:∀ j,j < w2.heap.size→some j≠(Value.slice ua L0.length uc).ownBlock:=fun j hj e=>by have:=(OwnS.own_lt ho3.out e.symm).1;omega
     have hsz:=hB4.size
     have hsrc:=Lib.hid hsrc
     have hown:=Lib.hid hown
     have hll:=Lib.hid hL0l
     clear hL0l
     go_wp2_with (at_builtin;refine wpList_app rfl (.tmp 49) (.tmp 57) 40 rfl w2.heap.size 93 7 80 _ elPart (RPt fun j=>w1.heap.size≤j∧j < w2.heap.size) (.slice ua L0.length uc) L0 [putP D,keepP kd0 ((c.now.length:Int) - x.n)] rfl hown.out (fun _=>True) (.slice (some ⟨w3.heap.size,0,none⟩) 2 2) rfl hsrc.out (RPt_one _) (by have:=hll.out;simp [maxLen];omega) (by have:=hll.out;simp;omega) hsz (fun w' hg cs y _ r=>RPt.to r fun j hj hl=>⟨hj,hg.block j hl (hlo j hj.2)⟩) ?_;intro u4 w4 ho4 hg4 hB5)
     have hB6:Below w2.heap.size w2 w4:=hB4.trans hB5
     have hB7:=hB2.trans (hB6.mono hB2.size)
     have ho7:ROp (l.N g) w4 u4 (L0 ++ [putP D,keepP kd0 ((c.now.length:Int) - x.n)]):=RdS.to ho4.rd (by decide) (fun j hj _=>⟨h.out.new j (by have:=hB2.size;omega),rfl⟩) (fun _ _ _ r=>RPt.to r (Kp.weak w4 fun j hj=>h.out.new j (by have:=hb1.size;omega)))
     have C2:=wdEdit_any B g l w4 W k u4 _ (h.out.below hB7) hk hul hdl ho7
     rw [show L0 ++ [putP D,keepP kd0 ((c.now.length:Int) - x.n)]=pasteO c.now.length x.n D by unfold pasteO;rw [if_pos hp.out];rw [hL0],hV1] at C2
     have C2:=Lib.hid C2
     clear ho7 ho4 hg4 hB5
     refine C2.out.mono ?_
     rintro e w5 ⟨rfl,⟨l5,hl5,hk5⟩,hb5⟩
     go_wp2_with fail
     go_ret
     exact ⟨rfl,⟨l5,hl5,Kp.trans (Kp.below hB7) hB7.size hk5⟩,(hB7.mono hBs).trans hb5⟩
    ·have d2:decide (0 < x.n)=false:=by simpa using hp
     have hp:=Lib.hid hp
     go_upto_region 10 with fail
     have hB4:Below w2.heap.size w2 (w2.alloc (.cells #[.int .i64 2,.int .i64 0,.slice ra D.length rc,.int .i64 0,.int .i64 0,.bool false,.string ⟨#[]⟩,.int .i64 1,.int .i64 ((c.now.length:Int) - x.n),.slice none 0 0,.int .i64 0,.int .i64 0,.bool false,.string ⟨#[]⟩] 93)):=bal (brf w2) _
     have hsrc:=RdS.two (sz:=7) (R:=RPt fun j=>w1.heap.size≤j∧j < w2.heap.size) (F:=fun _=>True) (w:=w2) (x:=putP D) (y:=keepP kd0 ((c.now.length:Int) - x.n)) [.int .i64 2,.int .i64 0,.slice ra D.length rc,.int .i64 0,.int .i64 0,.bool false,.string ⟨#[]⟩] [.int .i64 1,.int .i64 ((c.now.length:Int) - x.n),.slice none 0 0,.int .i64 0,.int .i64 0,.bool false,.string ⟨#[]⟩] 93 rfl rfl trivial ⟨_,rfl,RItems.to (RItems.to HD.out (Kp.lt w2)) (Kp.below hB4)⟩ ⟨_,rfl,RdS.nil⟩
     have hsz:=hB4.size
     have hsrc:=Lib.hid hsrc
     go_wp2_with (at_builtin;refine wpList_app rfl (.tmp 49) (.tmp 57) 40 rfl w2.heap.size 93 7 80 _ elPart (RPt fun j=>w1.heap.size≤j∧j < w2.heap.size) (.slice none 0 0) [] [putP D,keepP kd0 ((c.now.length:Int) - x.n)] rfl OwnS.nil (fun _=>True) (.slice (some ⟨w2.heap.size,0,none⟩) 2 2) rfl hsrc.out (RPt_one _) (by simp [maxLen]) (by simp) hsz (fun w' hg cs y _ r=>RPt.to r fun j hj hl=>⟨hj,hg.block j hl (by simp [Value.ownBlock])⟩) ?_;intro u4 w4 ho4 hg4 hB5)
     rw [List.nil_append] at ho4
     have hB6:Below w2.heap.size w2 w4:=hB4.trans hB5
     have hB7:=hB2.trans (hB6.mono hB2.size)
     have ho7:ROp (l.N g) w4 u4 [putP D,keepP kd0 ((c.now.length:Int) - x.n)]:=RdS.to ho4.rd (by decide) (fun j hj _=>⟨h.out.new j (by have:=hB2.size;omega),rfl⟩) (fun _ _ _ r=>RPt.to r (Kp.weak w4 fun j hj=>h.out.new j (by have:=hb1.size;omega)))
     have C2:=wdEdit_any B g l w4 W k u4 _ (h.out.below hB7) hk hul hdl ho7
     rw [show [putP D,keepP kd0 ((c.now.length:Int) - x.n)]=pasteO c.now.length x.n D by unfold pasteO;rw [if_neg (by have:=hp.out;omega)];rfl,hV1] at C2
     have C2:=Lib.hid C2
     clear ho7 ho4 hg4 hB5
     refine C2.out.mono ?_
     rintro e w5 ⟨rfl,⟨l5,hl5,hk5⟩,hb5⟩
     go_wp2_with fail
     go_ret
     exact ⟨rfl,⟨l5,hl5,Kp.trans (Kp.below hB7) hB7.size hk5⟩,(hB7.mono hBs).trans hb5⟩
 ·have hV1:=hV.out
  rw [if_pos he] at hV1
  have he':(er != 0)=true:=by simpa using he
  obtain ⟨e1,e2⟩:W=V∧er=E:=by simpa using hV1
  subst e2
  subst e1
  clear he hV1 hV
  go_wp2_with fail
  go_ret
  exact ⟨rfl,⟨_,h.out.below hB2,Kp.below hB2⟩,hB2.mono hBs⟩
end Go.Proofs.YteikncnldbdfmaaGreatDoor
