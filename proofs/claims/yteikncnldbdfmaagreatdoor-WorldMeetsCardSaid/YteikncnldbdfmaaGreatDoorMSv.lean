import Derived.Test.YteikncnldbdfmaaGreatDoorMPl
import Derived.Test.YteikncnldbdfmaaGreatDoorMDoc
namespace Go.Mh
open Go.RowKit
theorem RLog.at {F:Nat→Prop} {w wr:World} {a:Option Addr} {n cap:Nat} {L:List En} (h:RLog F w (.slice a n cap) L) (hb:Below w.heap.size w wr) {k:Nat} {x:En} (hx:L[k]?=some x) :
  ∃ b o ov,a=some ⟨b,o,none⟩∧ROp F w ov x.o∧wr.cell? ⟨b,o+k * 3,none⟩=some (.int .i64 x.client)∧wr.cell? ⟨b,o+k * 3+1,none⟩=some (.int .i64 x.seq)∧wr.cell? ⟨b,o+k * 3+2,none⟩=some ov:=by
 obtain ⟨a',cap',e,_,_,_,hel⟩:=h
 cases e
 obtain ⟨b,o,cs,e1,_,hl,hat,ov,hcs,hr⟩:=hel k x hx
 subst hcs
 obtain ⟨c0,c1,c2⟩:=(hat.to (hb.block b (hat.lt (by simp)))).three
 exact ⟨b,o,ov,e1,hr,c0,c1,c2⟩
theorem foldG_step {d:List It} {l:List En} {k:Nat} {x:En} (h:l[k]?=some x):foldG d (l.drop k)=if (applyP d x.o).2≠0 then ([],(applyP d x.o).2) else foldG (applyP d x.o).1 (l.drop (k+1)):=by
 have h1:=List.getElem?_eq_some_iff.1 h
 obtain ⟨hk,e⟩:=h1
 rw [List.drop_eq_getElem_cons hk,e,foldG]
def P3 (w:World) (g:Nat) (v0 v1 v2:Value):Prop:=w.cell? ⟨g,0,none⟩=some v0∧w.cell? ⟨g,1,none⟩=some v1∧w.cell? ⟨g,2,none⟩=some v2
theorem P3.of {w:World} {g T:Nat} {fr:Nat × Nat} {v0 v1 v2:Value} (h:w.heap[g]?=some (.cells #[v0,v1,v2] T fr)):P3 w g v0 v1 v2:=by
 refine ⟨?_, ?_, ?_⟩ <;> (unfold World.cell?;rw [h];rfl)
end Go.Mh
namespace Go.Proofs.YteikncnldbdfmaaGreatDoor
open Go.RowKit Go.Mh
set_option maxRecDepth 100000 in
set_option maxHeartbeats 2000000 in
theorem svEntry_any (F:Nat→Prop) (ov:Value) (x:En) (w:World) (h:ROp F w ov x.o) :
  Calls Tryz.prog 112 #[.agg #[.int .i64 x.client,.int .i64 x.seq,ov]] w fun e w'=>e=.returned (.int .i64 (chkEn x))∧Below w.heap.size w w':=by
 obtain ⟨oa,oc,rfl,_⟩:=RdS.len h
 have H:=Lib.hid h
 clear h
 obtain ⟨r,hr⟩:∃ r,Hid (chkEn x=r):=⟨_,Lib.hid rfl⟩
 rw [hr.out]
 have hb0:Below w.heap.size w (w.alloc (.cells #[.int .i64 x.client,.int .i64 x.seq,.slice oa x.o.length oc] 77)):=bal (brf w) _
 go_enter Tryz.func112,Tryz.ntmps112
 by_cases h1:x.client < 0∨4≤x.client
 ·have e:=hr.out
  rw [chkEn,if_pos h1] at e
  subst e
  have way:decide (x.client < 0)=true∨(decide (x.client < 0)=false∧decide (4≤x.client)=true):=by
   simp only [decide_eq_true_eq,decide_eq_false_iff_not];omega
  clear hr h1
  rcases way with d1 | ⟨d1,d2⟩
  all_goals
   go_wp2
   go_ret
   exact ⟨rfl,hb0⟩
 ·obtain ⟨d1,d2⟩:decide (x.client < 0)=false∧decide (4≤x.client)=false:=by simp only [decide_eq_false_iff_not];omega
  by_cases h2:x.seq < 1∨10000 < x.seq
  ·have e:=hr.out
   rw [chkEn,if_neg h1,if_pos h2] at e
   subst e
   have way:decide (x.seq < 1)=true∨(decide (x.seq < 1)=false∧decide (10000 < x.seq)=true):=by
    simp only [decide_eq_true_eq,decide_eq_false_iff_not];omega
   clear hr h1 h2
   rcases way with d3 | ⟨d3,d4⟩
   all_goals
    go_wp2
    go_ret
    exact ⟨rfl,hb0⟩
  ·obtain ⟨d3,d4⟩:decide (x.seq < 1)=false∧decide (10000 < x.seq)=false:=by simp only [decide_eq_false_iff_not];omega
   have e:=hr.out
   rw [chkEn,if_neg h1,if_neg h2] at e
   subst e
   clear hr h1 h2
   go_wp2_with fail
   refine (opCheck_any _ _ x.o _ (ROp.to H.out (Kp.below hb0))).mono ?_
   rintro e w1 ⟨rfl,hb1⟩
   go_wp2
   go_ret
   exact ⟨rfl,btr hb0 hb1⟩
set_option maxRecDepth 100000 in
set_option maxHeartbeats 4000000 in
theorem svFold_any (F G:Nat→Prop) (v u:Value) (d:List It) (l:List En) (w:World) (h:RItems F w v d) (g:RLog G w u l) :
  Calls Tryz.prog 32 #[v,u] w fun e w'=>∃ r,e=.returned (.tuple #[r,.int .i64 (foldP d l).2])∧RItems (w.heap.size≤·) w' r (foldP d l).1∧Below w.heap.size w w':=by
 obtain ⟨da,dc,rfl,_⟩:=RdS.len h
 obtain ⟨la,lc,rfl,_⟩:=RdS.len g
 have H:=Lib.hid h
 have V:=Lib.hid g
 clear h g
 have hres:∃ r,Hid (foldP d l=r):=⟨_,Lib.hid rfl⟩
 obtain ⟨⟨R1,R2⟩,hres⟩:=hres
 rw [hres.out]
 go_enter Tryz.func32,Tryz.ntmps32
 go_wp2_with fail
 refine (check_any _ _ d w H.out).mono ?_
 rintro e w1 ⟨rfl,hb1⟩
 by_cases hk:chkDoc d=0
 ·have hl8:d.length≤100000:=by have:=(chkDoc_ok hk).2;omega
  by_cases hl:60 < l.length
  ·have hr:=hres.out
   rw [foldP,if_neg (by simpa using hk),if_pos hl] at hr
   cases hr
   have d1:decide ((60:Int) < (l.length:Int))=true:=by simp;omega
   rw [hk]
   clear hk hres hl
   go_wp2
   go_ret2
   exact ⟨.slice none 0 0,rfl,RdS.nil,hb1⟩
  ·have hr:=hres.out
   rw [foldP,if_neg (by simpa using hk),if_neg hl] at hr
   have hF:=Lib.hid hr
   have d1:decide ((60:Int) < (l.length:Int))=false:=by simp;omega
   have hl60:l.length≤60:=by omega
   rw [hk]
   clear hk hres hl hr
   go_wp2_with fail
   refine (cloneDoc_any _ _ d w1 (RItems.to H.out (Kp.below hb1)) hl8).mono ?_
   rintro e w2 ⟨u2,rfl,hu2,hb2⟩
   have B2:=hb1.trans (hb2.mono hb1.size)
   have U2:=Lib.hid (RItems.to hu2.rd (fun i hi hl=>⟨Nat.le_trans hb1.size hi,rfl⟩):RItems (w.heap.size≤·) w2 u2 d)
   clear hu2 hb2 hb1 d1
   go_wp2
   go_loopw [0,22] (fun dv i wr=>∃ k:Nat,k≤l.length∧i=.int .i64 k∧∃ D,RItems (w.heap.size≤·) wr dv D∧Hid (foldG d l=foldG D (l.drop k))∧Below w.heap.size w wr) (fun _ i _=>l.length - (intOf i).toNat)
   case atStart=>exact ⟨0,Nat.zero_le _,rfl,d,U2.out,Lib.hid (by simp),B2⟩
   case round =>
    obtain ⟨k,hk,rfl,D,hD,hf,hb⟩:=hrel
    have hD':=Lib.hid hD
    clear hD
    by_cases hlt:k < l.length
    ·obtain ⟨x,hx⟩:∃ x,l[k]?=some x:=⟨_,List.getElem?_eq_getElem hlt⟩
     obtain ⟨b,o,ov,e1,hr,c0,c1,c2⟩:=RLog.at V.out hb hx
     subst e1
     obtain ⟨oa,oc,rfl,_⟩:=RdS.len hr
     have hO:=Lib.hid hr
     have hst:=Lib.hid (foldG_step (d:=D) hx)
     have hbs:b < wr.heap.size:=lt_of_cell c0
     have hb0:Below wr.heap.size wr (wr.alloc (.cells #[.int .i64 x.client,.int .i64 x.seq,.slice oa x.o.length oc] 77)):=bal (brf wr) _
     have C:=Lib.hid (opApply_any _ _ _ _ D x.o _ (RItems.to hD'.out (Kp.below hb0)) (ROp.to hO.out (Kp.below (btr hb hb0))))
     clear hx hr
     by_cases he:(applyP D x.o).2=0
     ·have hnx:Hid (foldG d l=foldG (applyP D x.o).1 (l.drop (k+1))):=Lib.hid (by rw [hf.out,hst.out,if_neg (by simpa using he)])
      rw [he] at C
      clear he hst hf
      go_wp2_with fail
      refine C.out.mono ?_
      rintro e w3 ⟨r3,rfl,hr3,hb3⟩
      have hr3':=Lib.hid (RItems.to hr3 (fun i hi hl=>⟨Nat.le_trans (btr hb hb0).size hi,rfl⟩):RItems (w.heap.size≤·) w3 r3 (applyP D x.o).1)
      clear hr3 C c0 c1 c2
      go_wp2
      go_roundw
      case rel=>exact ⟨k+1,by omega,by go_num,_,hr3'.out,hnx,btr (btr hb hb0) hb3⟩
      case measure=>simp [intOf];omega
     ·have hnx:foldG d l=([],(applyP D x.o).2):=by rw [hf.out,hst.out,if_pos he]
      have hF2:=hF.out
      rw [hnx] at hF2
      cases hF2
      have he':((applyP D x.o).2 != 0)=true:=by simpa using he
      clear he hst hf hnx hF
      go_wp2_with fail
      refine C.out.mono ?_
      rintro e w3 ⟨r3,rfl,hr3,hb3⟩
      clear hr3 C c0 c1 c2
      go_wp2
      go_ret2
      exact ⟨.slice none 0 0,rfl,RdS.nil,btr (btr hb hb0) hb3⟩
    ·obtain rfl:k=l.length:=by omega
     have hF2:=hF.out
     rw [hf.out,List.drop_length,foldG] at hF2
     cases hF2
     clear hf hF
     go_wp2
     go_ret2
     exact ⟨_,rfl,hD'.out,hb⟩
 ·have hr:=hres.out
  rw [foldP,if_pos hk] at hr
  cases hr
  have hk':(chkDoc d != 0)=true:=by simpa using hk
  clear hk hres
  go_wp2
  go_ret2
  exact ⟨.slice none 0 0,rfl,RdS.nil,hb1⟩
end Go.Proofs.YteikncnldbdfmaaGreatDoor
