import Derived.Test.YteikncnldbdfmaaGreatDoorMSv
import Derived.Test.YteikncnldbdfmaaGreatDoorMDoc
import Derived.Test.YteikncnldbdfmaaGreatDoorMMem
namespace Go.Mh
open Go.RowKit
def RSrv (F:Nat→Prop) (w:World) (v:Value) (s:Srv):Prop:=∃ a l n,v=.agg #[a,l,n]∧RItems F w a s.first∧RLog F w l s.log∧RItems F w n s.now
theorem RSrv.to {F F':Nat→Prop} {w w':World} {v:Value} {s:Srv} (h:RSrv F w v s) (k:Kp F F' w w'):RSrv F' w' v s:=by
 obtain ⟨a,l,n,e,h1,h2,h3⟩:=h
 exact ⟨a,l,n,e,RItems.to h1 k,RLog.to h2 k,RItems.to h3 k⟩
theorem chkEns_step {l:List En} {k:Nat} {x:En} (h:l[k]?=some x):chkEns (l.drop k)=if chkEn x≠0 then chkEn x else chkEns (l.drop (k+1)):=by
 obtain ⟨hk,e⟩:=List.getElem?_eq_some_iff.1 h
 rw [List.drop_eq_getElem_cons hk,e,chkEns]
end Go.Mh
namespace Go.Proofs.YteikncnldbdfmaaGreatDoor
open Go.RowKit Go.Mh
set_option maxRecDepth 100000 in
set_option maxHeartbeats 4000000 in
theorem svCheck_any (F:Nat→Prop) (v:Value) (s:Srv) (w:World) (h:RSrv F w v s) :
  Calls Tryz.prog 61 #[v] w fun e w'=>e=.returned (.int .i64 (chkSrv s))∧Below w.heap.size w w':=by
 obtain ⟨a,l,n,rfl,h1,h2,h3⟩:=h
 obtain ⟨aa,ac,rfl,_⟩:=RdS.len h1
 obtain ⟨la,lc,rfl,_⟩:=RdS.len h2
 obtain ⟨na,nc,rfl,_⟩:=RdS.len h3
 have HA:=Lib.hid h1
 have HL:=Lib.hid h2
 have HN:=Lib.hid h3
 clear h1 h2 h3
 obtain ⟨w0,hw0⟩:∃ w0,w0=w.alloc (.cells #[.slice aa s.first.length ac,.slice la s.log.length lc,.slice na s.now.length nc] 26):=⟨_,rfl⟩
 have hb0:Below w.heap.size w w0:=by rw [hw0];exact bal (brf w) _
 have E0:=Lib.hid (by rw [hw0];exact heap_at rfl:w0.heap[w.heap.size]?=some (.cells #[.slice aa s.first.length ac,.slice la s.log.length lc,.slice na s.now.length nc] 26 (0,0)))
 have hl0:=lt_of_heap E0.out
 obtain ⟨r,hr⟩:∃ r,Hid (chkSrv s=r):=⟨_,Lib.hid rfl⟩
 rw [hr.out]
 go_enter Tryz.func61,Tryz.ntmps61
 go_upto_region 1 with fail
 rw [← hw0]
 clear hw0
 obtain ⟨x0,x1,x2⟩:=P3.of E0.out
 by_cases hl:60 < s.log.length
 ·have e:=hr.out
  rw [chkSrv,if_pos hl] at e
  subst e
  have d1:decide ((60:Int) < (s.log.length:Int))=true:=by simp;omega
  clear hr hl
  go_wp2
  go_ret
  exact ⟨rfl,hb0⟩
 ·have e:=hr.out
  rw [chkSrv,if_neg hl] at e
  have hR:=Lib.hid e
  have d1:decide ((60:Int) < (s.log.length:Int))=false:=by simp;omega
  have hl60:s.log.length≤60:=by omega
  clear hr hl e
  go_wp2
  go_loopw [15] (fun i wr=>∃ k:Nat,k≤s.log.length∧i=.int .i64 k∧Hid (chkEns s.log=chkEns (s.log.drop k))∧Below w0.heap.size w0 wr) (fun i _=>s.log.length - (intOf i).toNat)
  case atStart=>exact ⟨0,Nat.zero_le _,rfl,Lib.hid (by simp),brf _⟩
  case round =>
   clear x0 x1 x2
   obtain ⟨k,hk,rfl,hf,hb⟩:=hrel
   have B:=hb0.trans (hb.mono hb0.size)
   by_cases hlt:k < s.log.length
   ·obtain ⟨x,hx⟩:∃ x,s.log[k]?=some x:=⟨_,List.getElem?_eq_getElem hlt⟩
    obtain ⟨b,o,ov,e1,hr,c0,c1,c2⟩:=RLog.at HL.out B hx
    subst e1
    obtain ⟨oa,oc,rfl,_⟩:=RdS.len hr
    have hO:=Lib.hid hr
    have hst:=Lib.hid (chkEns_step hx)
    have hbs:b < wr.heap.size:=lt_of_cell c0
    have hbx:Below wr.heap.size wr (wr.alloc (.cells #[.int .i64 x.client,.int .i64 x.seq,.slice oa x.o.length oc] 77)):=bal (brf wr) _
    have C:=Lib.hid (svEntry_any _ _ x _ (ROp.to hO.out (Kp.below (btr B hbx))))
    clear hx hr
    by_cases he:chkEn x=0
    ·have hnx:Hid (chkEns s.log=chkEns (s.log.drop (k+1))):=Lib.hid (by rw [hf.out,hst.out,if_neg (by simpa using he)])
     rw [he] at C
     clear he hst hf
     go_wp2_with fail
     refine C.out.mono ?_
     rintro e w3 ⟨rfl,hb3⟩
     clear C c0 c1 c2
     go_wp2
     go_roundw
     case rel=>exact ⟨k+1,by omega,by go_num,hnx,btr (btr hb hbx) hb3⟩
     case measure=>simp [intOf];omega
    ·have hnx:chkEns s.log=chkEn x:=by rw [hf.out,hst.out,if_pos he]
     have hF2:=hR.out
     rw [hnx,if_pos he] at hF2
     subst hF2
     have he':(chkEn x != 0)=true:=by simpa using he
     clear he hst hf hnx hR
     go_wp2_with fail
     refine C.out.mono ?_
     rintro e w3 ⟨rfl,hb3⟩
     clear C c0 c1 c2
     go_wp2
     go_ret
     exact ⟨rfl,btr (btr B hbx) hb3⟩
   ·obtain rfl:k=s.log.length:=by omega
    have hF2:=hR.out
    rw [hf.out,List.drop_length,chkEns] at hF2
    simp only [ne_eq,not_true_eq_false,if_false] at hF2
    have hR2:=Lib.hid hF2
    clear hf hR hF2
    obtain ⟨x0,x1,x2⟩:=P3.of ((hb.block _ hl0).trans E0.out)
    have C:=Lib.hid (svFold_any _ _ _ _ s.first s.log wr (RItems.to HA.out (Kp.below B)) (RLog.to HL.out (Kp.below B)))
    by_cases he:(foldP s.first s.log).2=0
    ·have hF3:=hR2.out
     rw [if_neg (by simpa using he)] at hF3
     have hR3:=Lib.hid hF3
     rw [he] at C
     clear he hF3 hR2
     go_wp2_with fail
     refine C.out.mono ?_
     rintro e w3 ⟨r3,rfl,hr3,hb3⟩
     have hb03:Below w0.heap.size w0 w3:=hb.trans (hb3.mono hb.size)
     have B3:=B.trans (hb3.mono B.size)
     have S:=Lib.hid (same_any _ _ r3 _ (foldP s.first s.log).1 s.now w3 hr3 (RItems.to HN.out (Kp.below B3)))
     clear x0 x1 x2 hr3 C
     obtain ⟨x0,x1,x2⟩:=P3.of ((hb03.block _ hl0).trans E0.out)
     by_cases hn:(foldP s.first s.log).1=s.now
     ·have hF4:=hR3.out
      rw [if_pos hn] at hF4
      subst hF4
      rw [decide_eq_true hn] at S
      clear hn hR3
      go_wp2_with fail
      refine S.out.mono ?_
      rintro e w4 ⟨rfl,hb4⟩
      go_wp2
      go_ret
      exact ⟨rfl,B3.trans (hb4.mono B3.size)⟩
     ·have hF4:=hR3.out
      rw [if_neg hn] at hF4
      subst hF4
      rw [decide_eq_false hn] at S
      clear hn hR3
      go_wp2_with fail
      refine S.out.mono ?_
      rintro e w4 ⟨rfl,hb4⟩
      go_wp2
      go_ret
      exact ⟨rfl,B3.trans (hb4.mono B3.size)⟩
    ·have hF3:=hR2.out
     rw [if_pos he] at hF3
     subst hF3
     have he':((foldP s.first s.log).2 != 0)=true:=by simpa using he
     clear he hR2
     go_wp2_with fail
     refine C.out.mono ?_
     rintro e w3 ⟨r3,rfl,hr3,hb3⟩
     clear hr3 C
     go_wp2
     go_ret
     exact ⟨rfl,B.trans (hb3.mono B.size)⟩
end Go.Proofs.YteikncnldbdfmaaGreatDoor
namespace Go.Mh
theorem has_step {l:List En} {k:Nat} {x:En} {client seq:Int} (h:l[k]?=some x):hasP (l.take (k+1)) client seq=(hasP (l.take k) client seq || (x.client == client && x.seq == seq)):=by
 unfold hasP
 rw [List.take_add_one,h]
 simp [List.any_append]
theorem has_of {l:List En} {k:Nat} {x:En} {client seq:Int} (h:l[k]?=some x) (he:(x.client == client && x.seq == seq)=true):hasP l client seq=true:=by
 unfold hasP
 rw [List.any_eq_true]
 exact ⟨x,List.mem_of_getElem? h,he⟩
end Go.Mh
namespace Go.Proofs.YteikncnldbdfmaaGreatDoor
open Go.RowKit Go.Mh
set_option maxRecDepth 100000 in
set_option maxHeartbeats 2000000 in
theorem svHas1_any (ov:Value) (x:En) (gc gs:Nat) (client seq:Int) (w:World) (hov:∃ a l c,ov=.slice a l c) (hc:w.cell? ⟨gc,0,none⟩=some (.int .i64 client)) (hs:w.cell? ⟨gs,0,none⟩=some (.int .i64 seq)) :
  Calls Tryz.prog 226 #[.agg #[.int .i64 x.client,.int .i64 x.seq,ov],.pointer (some ⟨gc,0,none⟩),.pointer (some ⟨gs,0,none⟩)] w fun e w'=>e=.returned (.bool (x.client == client && x.seq == seq))∧Below w.heap.size w w':=by
 obtain ⟨a,l,c,rfl⟩:=hov
 have hlc:=lt_of_cell hc
 have hls:=lt_of_cell hs
 go_enter Tryz.func226,Tryz.ntmps226
 cases h1:x.client == client with
 | true =>
  go_wp2
  go_ret
  exact ⟨by simp,bal (brf w) _⟩
 | false =>
  go_wp2
  go_ret
  exact ⟨by simp,bal (brf w) _⟩
set_option maxRecDepth 100000 in
set_option maxHeartbeats 2000000 in
theorem svIdx_any (F:Nat→Prop) (v:Value) (l:List En) (gc gs:Nat) (client seq:Int) (w:World) (h:RLog F w v l) (hc:w.cell? ⟨gc,0,none⟩=some (.int .i64 client)) (hs:w.cell? ⟨gs,0,none⟩=some (.int .i64 seq)) :
  Calls Tryz.prog 240 #[v,.func (Fn.func 226) #[] #[.pointer (some ⟨gc,0,none⟩),.pointer (some ⟨gs,0,none⟩)]] w fun e w'=>∃ n:Int,e=.returned (.int .i64 n)∧hasP l client seq=decide (0≤n)∧Below w.heap.size w w':=by
 obtain ⟨la,lc,rfl,hn⟩:=RdS.len h
 have HL:=Lib.hid h
 have HC:=Lib.hid hc
 have HS:=Lib.hid hs
 clear h hc hs
 go_enter Tryz.func240,Tryz.ntmps240
 go_wp2
 go_loopw [8] (fun i wr=>∃ k:Nat,k≤l.length∧i=.int .i64 k∧Hid (hasP (l.take k) client seq=false)∧Below w.heap.size w wr) (fun i _=>l.length - (intOf i).toNat)
 case atStart=>exact ⟨0,Nat.zero_le _,rfl,Lib.hid (by simp [hasP]),brf _⟩
 case round =>
  obtain ⟨k,hk,rfl,hf,hb⟩:=hrel
  by_cases hlt:k < l.length
  ·obtain ⟨x,hx⟩:∃ x,l[k]?=some x:=⟨_,List.getElem?_eq_getElem hlt⟩
   obtain ⟨b,o,ov,e1,hr,c0,c1,c2⟩:=RLog.at HL.out hb hx
   subst e1
   obtain ⟨oa,oc,rfl,_⟩:=RdS.len hr
   have hst:=Lib.hid (has_step (client:=client) (seq:=seq) hx)
   have hof:=Lib.hid (has_of (client:=client) (seq:=seq) hx)
   have C:=Lib.hid (svHas1_any (.slice oa x.o.length oc) x gc gs client seq wr ⟨_,_,_,rfl⟩ ((hb.cell (lt_of_cell HC.out)).trans HC.out) ((hb.cell (lt_of_cell HS.out)).trans HS.out))
   clear hx hr
   by_cases he:(x.client == client && x.seq == seq)=true
   ·have hfin:=Lib.hid (hof.out he)
    rw [he] at C
    clear he hst hof hf
    go_wp2_with fail
    refine C.out.mono ?_
    rintro e w1 ⟨rfl,hb1⟩
    go_wp2
    go_ret
    exact ⟨_,rfl,by rw [hfin.out];simp,btr hb hb1⟩
   ·have he':(x.client == client && x.seq == seq)=false:=by simpa using he
    have hnx:Hid (hasP (l.take (k+1)) client seq=false):=Lib.hid (by rw [hst.out,hf.out,he'];rfl)
    rw [he'] at C
    clear he he' hst hof hf
    go_wp2_with fail
    refine C.out.mono ?_
    rintro e w1 ⟨rfl,hb1⟩
    clear c0 c1 c2 C
    go_wp2
    go_roundw
    case rel=>exact ⟨k+1,by omega,by go_num,hnx,btr hb hb1⟩
    case measure=>simp [intOf];omega
  ·obtain rfl:k=l.length:=by omega
   have hfin:Hid (hasP l client seq=false):=Lib.hid (by have:=hf.out;rwa [List.take_length] at this)
   clear hf
   go_wp2
   go_ret
   exact ⟨_,rfl,by rw [hfin.out];simp,hb⟩
set_option maxRecDepth 100000 in
set_option maxHeartbeats 2000000 in
theorem svCont_any (F:Nat→Prop) (v:Value) (l:List En) (gc gs:Nat) (client seq:Int) (w:World) (h:RLog F w v l) (hc:w.cell? ⟨gc,0,none⟩=some (.int .i64 client)) (hs:w.cell? ⟨gs,0,none⟩=some (.int .i64 seq)) :
  Calls Tryz.prog 225 #[v,.func (Fn.func 226) #[] #[.pointer (some ⟨gc,0,none⟩),.pointer (some ⟨gs,0,none⟩)]] w fun e w'=>e=.returned (.bool (hasP l client seq))∧Below w.heap.size w w':=by
 have C:=Lib.hid (svIdx_any F v l gc gs client seq w h hc hs)
 obtain ⟨la,lc,rfl,hn⟩:=RdS.len h
 clear h hc hs
 go_enter Tryz.func225,Tryz.ntmps225
 go_wp2_with fail
 refine C.out.mono ?_
 rintro e w1 ⟨n,rfl,hh,hb1⟩
 have hh':=Lib.hid hh
 clear hh C
 by_cases hn0:0≤n
 ·have d:decide (0≤n)=true:=by simpa using hn0
  have hfin:=Lib.hid (hh'.out.trans d)
  clear hn0 hh'
  go_wp2
  go_ret
  exact ⟨by rw [hfin.out];rfl,hb1⟩
 ·have d:decide (0≤n)=false:=by simpa using hn0
  have hfin:=Lib.hid (hh'.out.trans d)
  clear hn0 hh'
  go_wp2
  go_ret
  exact ⟨by rw [hfin.out];rfl,hb1⟩
set_option maxRecDepth 100000 in
set_option maxHeartbeats 2000000 in
theorem svHas_any (F:Nat→Prop) (v:Value) (s:Srv) (client seq:Int) (w:World) (h:RSrv F w v s) :
  Calls Tryz.prog 195 #[v,.int .i64 client,.int .i64 seq] w fun e w'=>e=.returned (.bool (hasP s.log client seq))∧Below w.heap.size w w':=by
 obtain ⟨a,l,n,rfl,h1,h2,h3⟩:=h
 obtain ⟨aa,ac,rfl,_⟩:=RdS.len h1
 obtain ⟨la,lc,rfl,_⟩:=RdS.len h2
 obtain ⟨na,nc,rfl,_⟩:=RdS.len h3
 have HL:=Lib.hid h2
 clear h1 h2 h3
 go_enter Tryz.func195,Tryz.ntmps195
 have hb0:Below w.heap.size w (((w.alloc (.cells #[.slice aa s.first.length ac,.slice la s.log.length lc,.slice na s.now.length nc] 26)).alloc (.cells #[.int .i64 client] 3)).alloc (.cells #[.int .i64 seq] 3)):=bal (bal (bal (brf w) _) _) _
 go_wp2_with fail
 refine (svCont_any _ _ s.log (w.heap.size+1) (w.heap.size+1+1) client seq _ (RLog.to HL.out (Kp.below hb0)) ?_ ?_).mono ?_
 ·unfold World.cell?
  rw [heap_at2 (by simp)]
  rfl
 ·unfold World.cell?
  rw [heap_at (by simp)]
  rfl
 rintro e w1 ⟨rfl,hb1⟩
 go_wp2
 go_ret
 exact ⟨rfl,btr hb0 hb1⟩
end Go.Proofs.YteikncnldbdfmaaGreatDoor
