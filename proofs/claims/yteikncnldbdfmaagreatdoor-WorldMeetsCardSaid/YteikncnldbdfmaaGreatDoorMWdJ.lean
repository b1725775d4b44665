import Derived.Test.YteikncnldbdfmaaGreatDoorMWdI
import Derived.Test.YteikncnldbdfmaaGreatDoorMConcatQ
namespace Go.Mh
open Go.RowKit
def RWd (F:Nat→Prop) (w:World) (v:Value) (W:Wd):Prop:=∃ a l n vc vu vd,v=.agg #[a,l,n,vc,vu,vd]∧RSrv F w (.agg #[a,l,n]) W.s∧RdS 7 (RClc F) F w vc W.cl∧RdS 1 (RSl 4 (RMsg F) F) F w vu W.up∧RdS 1 (RSl 4 (RMsg F) F) F w vd W.down
theorem RMsgs.to {F F':Nat→Prop} {w w':World} {v:Value} {q:List Msg} (h:RdS 4 (RMsg F) F w v q) (k:Kp F F' w w'):RdS 4 (RMsg F') F' w' v q:=RdS.to h (by decide) k fun _ _ _ r=>RMsg.to r k
theorem RQs.to {F F':Nat→Prop} {w w':World} {v:Value} {q:List (List Msg)} (h:RdS 1 (RSl 4 (RMsg F) F) F w v q) (k:Kp F F' w w'):RdS 1 (RSl 4 (RMsg F') F') F' w' v q:=RdS.to h (by decide) k fun _ _ _ r=>by
 obtain ⟨u,e,r⟩:=r
 exact ⟨u,e,RMsgs.to r k⟩
theorem RWd.to {F F':Nat→Prop} {w w':World} {v:Value} {W:Wd} (h:RWd F w v W) (k:Kp F F' w w'):RWd F' w' v W:=by
 obtain ⟨a,l,n,vc,vu,vd,e,h1,h2,h3,h4⟩:=h
 exact ⟨a,l,n,vc,vu,vd,e,RSrv.to h1 k,RdS.to h2 (by decide) k fun _ _ _ r=>RClc.to r k,RQs.to h3 k,RQs.to h4 k⟩
theorem RMsgs.at {F G:Nat→Prop} {w wr:World} {a:Option Addr} {n cap:Nat} {L:List Msg} (h:RdS 4 (RMsg F) G w (.slice a n cap) L) (hb:Below w.heap.size w wr) {k:Nat} {x:Msg} (hx:L[k]?=some x) :
  ∃ b o ov,a=some ⟨b,o,none⟩∧ROp F w ov x.e.o∧wr.cell? ⟨b,o+k * 4,none⟩=some (.int .i64 x.rev)∧wr.cell? ⟨b,o+k * 4+1,none⟩=some (.int .i64 x.e.client)∧wr.cell? ⟨b,o+k * 4+2,none⟩=some (.int .i64 x.e.seq)∧wr.cell? ⟨b,o+k * 4+3,none⟩=some ov:=by
 obtain ⟨a',cap',e,_,_,_,hel⟩:=h
 cases e
 obtain ⟨b,o,cs,e1,_,hl,hat,ov,hcs,hr⟩:=hel k x hx
 subst hcs
 obtain ⟨c0,c1,c2,c3⟩:=(hat.to (hb.block b (hat.lt (by simp)))).four
 exact ⟨b,o,ov,e1,hr,c0,c1,c2,c3⟩
theorem RClcs.at {F G:Nat→Prop} {w wr:World} {a:Option Addr} {n cap:Nat} {L:List Cl} (h:RdS 7 (RClc F) G w (.slice a n cap) L) (hb:Below w.heap.size w wr) {k:Nat} {x:Cl} (hx:L[k]?=some x) :
  ∃ b o v0 v1 v2 v3 v4 v5 v6,a=some ⟨b,o,none⟩∧RCl F w (.agg #[v0,v1,v2,v3,v4,v5,v6]) x∧wr.cell? ⟨b,o+k * 7,none⟩=some v0∧wr.cell? ⟨b,o+k * 7+1,none⟩=some v1∧wr.cell? ⟨b,o+k * 7+2,none⟩=some v2∧wr.cell? ⟨b,o+k * 7+3,none⟩=some v3 ∧
   wr.cell? ⟨b,o+k * 7+4,none⟩=some v4∧wr.cell? ⟨b,o+k * 7+5,none⟩=some v5∧wr.cell? ⟨b,o+k * 7+6,none⟩=some v6:=by
 obtain ⟨a',cap',e,_,_,_,hel⟩:=h
 cases e
 obtain ⟨b,o,cs,e1,_,hl,hat,b',n',s',h',hcs,r1,r2,r3,r4⟩:=hel k x hx
 subst hcs
 obtain ⟨c0,c1,c2,c3,c4,c5,c6⟩:=(hat.to (hb.block b (hat.lt (by simp)))).seven
 exact ⟨b,o,_,_,_,_,_,_,_,e1,⟨b',n',s',h',rfl,r1,r2,r3,r4⟩,c0,c1,c2,c3,c4,c5,c6⟩
theorem chkMsgs_step {l:List Msg} {k:Nat} {x:Msg} (h:l[k]?=some x):chkMsgs (l.drop k)=if x.e.o=[] then chkMsgs (l.drop (k+1)) else if chkOp x.e.o≠0 then chkOp x.e.o else chkMsgs (l.drop (k+1)):=by
 obtain ⟨hk,e⟩:=List.getElem?_eq_some_iff.1 h
 rw [List.drop_eq_getElem_cons hk,e,chkMsgs]
theorem chkCls_step {l:List Cl} {k:Nat} {x:Cl} (h:l[k]?=some x):chkCls (l.drop k)=if chkCl x≠0 then chkCl x else chkCls (l.drop (k+1)):=by
 obtain ⟨hk,e⟩:=List.getElem?_eq_some_iff.1 h
 rw [List.drop_eq_getElem_cons hk,e,chkCls]
theorem chkQs_step {l:List (List Msg)} {k:Nat} {x:List Msg} (h:l[k]?=some x):chkQs (l.drop k)=if chkQ x≠0 then chkQ x else chkQs (l.drop (k+1)):=by
 obtain ⟨hk,e⟩:=List.getElem?_eq_some_iff.1 h
 rw [List.drop_eq_getElem_cons hk,e,chkQs]
theorem RVals.at {G:Nat→Prop} {w wr:World} {a:Option Addr} {n cap:Nat} {L:List Value} (h:RdS 1 RVal1 G w (.slice a n cap) L) (hb:Below w.heap.size w wr) {k:Nat} {q:Value} (hx:L[k]?=some q) :
  ∃ b o,a=some ⟨b,o,none⟩∧wr.cell? ⟨b,o+k,none⟩=some q:=by
 obtain ⟨a',cap',e,_,_,_,hel⟩:=h
 cases e
 obtain ⟨b,o,cs,e1,_,_,hat,rfl,_⟩:=hel k q hx
 exact ⟨b,o,e1,by simpa using (hat.to (hb.block b (hat.lt (by simp)))).one⟩
theorem RWd.zero {F:Nat→Prop} {w:World}:RWd F w (.agg #[.slice none 0 0,.slice none 0 0,.slice none 0 0,.slice none 0 0,.slice none 0 0,.slice none 0 0]) wd0:=⟨_,_,_,_,_,_,rfl,RSrv.zero,RdS.nil,RdS.nil,RdS.nil⟩
theorem P6.of {w:World} {b:Nat} {a0 a1 a2 a3 a4 a5:Value} {e:TypeId} {fr:Nat × Nat} (h:w.heap[b]?=some (.cells #[a0,a1,a2,a3,a4,a5] e fr)):w.cell? ⟨b,0,none⟩=some a0∧w.cell? ⟨b,1,none⟩=some a1∧w.cell? ⟨b,2,none⟩=some a2∧w.cell? ⟨b,3,none⟩=some a3∧w.cell? ⟨b,4,none⟩=some a4∧w.cell? ⟨b,5,none⟩=some a5:=by
 refine ⟨?_, ?_, ?_, ?_, ?_, ?_⟩ <;> (unfold World.cell?;rw [h];rfl)
end Go.Mh
namespace Go.Proofs.YteikncnldbdfmaaGreatDoor
open Go.RowKit Go.Mh
theorem RCl.shape {F:Nat→Prop} {w:World} {v0 v1 v2 v3 v4 v5 v6:Value} {c:Cl} (h:RCl F w (.agg #[v0,v1,v2,v3,v4,v5,v6]) c):∃ ba bc na nc sa sc ha hc,v0=.int .i64 c.rev∧v1=.slice ba c.base.length bc∧v2=.slice na c.now.length nc∧v3=.int .i64 c.seq∧v4=.slice sa c.sent.length sc∧v5=.slice ha c.held.length hc∧v6=.bool c.joined:=by
 obtain ⟨b,n,s,g,e,h1,h2,h3,h4⟩:=h
 simp at e
 obtain ⟨rfl,rfl,rfl,rfl,rfl,rfl,rfl⟩:=e
 obtain ⟨ba,bc,rfl,_⟩:=RdS.len h1
 obtain ⟨na,nc,rfl,_⟩:=RdS.len h2
 obtain ⟨sa,sc,rfl,_⟩:=RdS.len h3
 obtain ⟨ga,gc,rfl,_⟩:=RdS.len h4
 exact ⟨ba,bc,na,nc,sa,sc,ga,gc,rfl,rfl,rfl,rfl,rfl,rfl,rfl⟩
theorem RQs.vals {F:Nat→Prop} {w:World} {v:Value} {L:List (List Msg)} (h:RdS 1 (RSl 4 (RMsg F) F) F w v L):∃ us:List Value,us.length=L.length∧RdS 1 RVal1 F w v us∧∀ (i:Nat) q x,us[i]?=some q→L[i]?=some x→RdS 4 (RMsg F) F w q x:=by
 obtain ⟨a,cap,rfl,h1,h2,h3,hel⟩:=h
 have key:∀ n,n≤L.length→∃ us:List Value,us.length=n∧∀ (i:Nat) q,us[i]?=some q→∃ b o x,a=some ⟨b,o,none⟩∧F b∧At w b (o+i * 1) [q]∧L[i]?=some x∧RdS 4 (RMsg F) F w q x:=by
  intro n
  induction n with
  | zero=>intro _;exact ⟨[],rfl,fun i q hi=>by simp at hi⟩
  | succ n ih =>
   intro hn
   obtain ⟨us,hl,hc⟩:=ih (by omega)
   obtain ⟨b,o,cs,e1,hF,_,hat,q,rfl,hr⟩:=hel n L[n] (List.getElem?_eq_getElem (by omega))
   refine ⟨us ++ [q],by simp [hl],fun i q' hi=>?_⟩
   rcases Nat.lt_or_ge i us.length with hlt | hge
   ·rw [List.getElem?_append_left hlt] at hi
    exact hc i q' hi
   ·rw [List.getElem?_append_right hge] at hi
    obtain rfl:i=n:=by
     have:=(List.getElem?_eq_some_iff.1 hi).1
     simp at this
     omega
    simp [hl] at hi
    subst hi
    exact ⟨b,o,_,e1,hF,hat,List.getElem?_eq_getElem (by omega),hr⟩
 obtain ⟨us,hl,hc⟩:=key L.length (Nat.le_refl _)
 refine ⟨us,hl,⟨a,cap,by rw [hl],by omega,h2,h3,fun i q hi=>?_⟩,fun i q x hi hx=>?_⟩
 ·obtain ⟨b,o,x,e1,hF,hat,_,hr⟩:=hc i q hi
  obtain ⟨_,_,rfl,_⟩:=RdS.len hr
  exact ⟨b,o,_,e1,hF,rfl,hat,rfl,rfl⟩
 ·obtain ⟨b,o,y,_,_,_,hy,hr⟩:=hc i q hi
  rw [hx] at hy
  cases hy
  exact hr
set_option maxRecDepth 100000 in
set_option maxHeartbeats 4000000 in
theorem wdQueue_any (F:Nat→Prop) (v:Value) (q:List Msg) (w:World) (h:RdS 4 (RMsg F) F w v q) :
  Calls Tryz.prog 64 #[v] w fun e w'=>e=.returned (.int .i64 (chkQ q))∧Below w.heap.size w w':=by
 obtain ⟨qa,qc,rfl,_⟩:=RdS.len h
 have HQ:=Lib.hid h
 clear h
 obtain ⟨r,hr⟩:∃ r,Hid (chkQ q=r):=⟨_,Lib.hid rfl⟩
 rw [hr.out]
 go_enter Tryz.func64,Tryz.ntmps64
 by_cases hl:90 < q.length
 ·have e:=hr.out
  rw [chkQ,if_pos hl] at e
  subst e
  have d1:decide ((90:Int) < (q.length:Int))=true:=by simp;omega
  clear hr hl
  go_wp2
  go_ret
  exact ⟨rfl,brf _⟩
 ·have e:=hr.out
  rw [chkQ,if_neg hl] at e
  have hR:=Lib.hid e
  have d1:decide ((90:Int) < (q.length:Int))=false:=by simp;omega
  have hl90:q.length≤90:=by omega
  clear hr hl e
  go_wp2
  go_loopw [11] (fun i wr=>∃ k:Nat,k≤q.length∧i=.int .i64 k∧Hid (chkMsgs q=chkMsgs (q.drop k))∧Below w.heap.size w wr) (fun i _=>q.length - (intOf i).toNat)
  case atStart=>exact ⟨0,Nat.zero_le _,rfl,Lib.hid (by simp),brf _⟩
  case round =>
   obtain ⟨k,hk,rfl,hf,hb⟩:=hrel
   by_cases hlt:k < q.length
   ·obtain ⟨x,hx⟩:∃ x,q[k]?=some x:=⟨_,List.getElem?_eq_getElem hlt⟩
    obtain ⟨b,o,ov,e1,hr,c0,c1,c2,c3⟩:=RMsgs.at HQ.out hb hx
    subst e1
    obtain ⟨oa,oc,rfl,_⟩:=RdS.len hr
    have hO:=Lib.hid hr
    have hst:=Lib.hid (chkMsgs_step hx)
    have hbs:b < wr.heap.size:=lt_of_cell c0
    have hbx:Below wr.heap.size wr (wr.alloc (.cells #[.int .i64 x.rev,.int .i64 x.e.client,.int .i64 x.e.seq,.slice oa x.e.o.length oc] 79)):=bal (brf wr) _
    have C:=Lib.hid (opCheck_any _ _ x.e.o _ (ROp.to hO.out (Kp.below (btr hb hbx))))
    clear hx hr
    by_cases ho:x.e.o=[]
    ·have t1:=len0_true ho
     have hnx:Hid (chkMsgs q=chkMsgs (q.drop (k+1))):=Lib.hid (by rw [hf.out,hst.out,if_pos ho])
     clear ho hst hf C
     go_wp2
     go_roundw
     case rel=>exact ⟨k+1,by omega,by go_num,hnx,btr hb hbx⟩
     case measure=>simp [intOf];omega
    ·have t1:=len0_false ho
     by_cases he:chkOp x.e.o=0
     ·have hnx:Hid (chkMsgs q=chkMsgs (q.drop (k+1))):=Lib.hid (by rw [hf.out,hst.out,if_neg ho,if_neg (by simpa using he)])
      rw [he] at C
      clear he hst hf ho
      go_wp2_with fail
      refine C.out.mono ?_
      rintro e w3 ⟨rfl,hb3⟩
      clear C c0 c1 c2 c3
      go_wp2
      go_roundw
      case rel=>exact ⟨k+1,by omega,by go_num,hnx,btr (btr hb hbx) hb3⟩
      case measure=>simp [intOf];omega
     ·have hnx:chkMsgs q=chkOp x.e.o:=by rw [hf.out,hst.out,if_neg ho,if_pos he]
      have hF2:=hR.out
      rw [hnx] at hF2
      subst hF2
      have he':(chkOp x.e.o != 0)=true:=by simpa using he
      clear he hst hf hnx hR ho
      go_wp2_with fail
      refine C.out.mono ?_
      rintro e w3 ⟨rfl,hb3⟩
      clear C c0 c1 c2 c3
      go_wp2
      go_ret
      exact ⟨rfl,btr (btr hb hbx) hb3⟩
   ·obtain rfl:k=q.length:=by omega
    have hF2:=hR.out
    rw [hf.out,List.drop_length,chkMsgs] at hF2
    subst hF2
    clear hf hR
    go_wp2
    go_ret
    exact ⟨rfl,hb⟩
set_option maxRecDepth 100000 in
set_option maxHeartbeats 4000000 in
theorem wdCheck_any (F:Nat→Prop) (v:Value) (W:Wd) (w:World) (h:RWd F w v W) :
  Calls Tryz.prog 18 #[v] w fun e w'=>e=.returned (.int .i64 (chkWd W))∧Below w.heap.size w w':=by
 have h:=RWd.to h (Kp.lt w)
 obtain ⟨a,l,n,vc,vu,vd,rfl,hs,hc,hu,hd⟩:=h
 obtain ⟨aa,ac,la,lc,na,nc,rfl,rfl,rfl⟩:=rsrv_shape hs
 obtain ⟨ca,cc,rfl,_⟩:=RdS.len hc
 obtain ⟨ua,uc,rfl,_⟩:=RdS.len hu
 obtain ⟨da,dc,rfl,_⟩:=RdS.len hd
 obtain ⟨us,hul,hU,hUq⟩:=RQs.vals hu
 obtain ⟨ds,hdl,hD,hDq⟩:=RQs.vals hd
 have hs:=Lib.hid hs
 have hc:=Lib.hid hc
 have hU:=Lib.hid hU
 have hD:=Lib.hid hD
 have hUq:=Lib.hid hUq
 have hDq:=Lib.hid hDq
 have hul:=Lib.hid hul
 have hdl:=Lib.hid hdl
 clear hu hd
 obtain ⟨w0,hw0⟩:∃ w0,w0=w.alloc (.cells #[.slice aa W.s.first.length ac,.slice la W.s.log.length lc,.slice na W.s.now.length nc,.slice ca W.cl.length cc,.slice ua W.up.length uc,.slice da W.down.length dc] 30):=⟨_,rfl⟩
 have hb0:Below w.heap.size w w0:=by rw [hw0];exact bal (brf w) _
 have E0:=Lib.hid (by rw [hw0];exact heap_at rfl:w0.heap[w.heap.size]?=some (.cells #[.slice aa W.s.first.length ac,.slice la W.s.log.length lc,.slice na W.s.now.length nc,.slice ca W.cl.length cc,.slice ua W.up.length uc,.slice da W.down.length dc] 30 (0,0)))
 obtain ⟨r,hr⟩:∃ r,Hid (chkWd W=r):=⟨_,Lib.hid rfl⟩
 rw [hr.out]
 have C:=Lib.hid (svCheck_any _ _ W.s w0 (RSrv.to hs.out (Kp.below hb0)))
 go_enter Tryz.func18,Tryz.ntmps18
 go_upto_region 1 with fail
 rw [← hw0]
 clear hw0
 obtain ⟨x0,x1,x2,x3,x4,x5⟩:=P6.of E0.out
 go_wp2_with fail
 refine C.out.mono ?_
 rintro e w1 ⟨rfl,hb1⟩
 have B1:=hb0.trans (hb1.mono hb0.size)
 have E1:=Lib.hid ((hb1.block _ (lt_of_heap E0.out)).trans E0.out)
 clear x0 x1 x2 x3 x4 x5 E0 C hs hb1 hb0
 obtain ⟨x0,x1,x2,x3,x4,x5⟩:=P6.of E1.out
 by_cases h1:chkSrv W.s=0
 ·by_cases h2:W.cl.length < 1∨4 < W.cl.length∨W.up.length≠W.cl.length∨W.down.length≠W.cl.length
  ·have e:=hr.out
   rw [chkWd,if_neg (by simp [h1]),if_pos h2] at e
   subst e
   have way:decide ((W.cl.length:Int) < 1)=true∨(decide ((W.cl.length:Int) < 1)=false∧decide (4 < (W.cl.length:Int))=true)∨(decide ((W.cl.length:Int) < 1)=false∧decide (4 < (W.cl.length:Int))=false∧((W.up.length:Int) != (W.cl.length:Int))=true) ∨
     (decide ((W.cl.length:Int) < 1)=false∧decide (4 < (W.cl.length:Int))=false∧((W.up.length:Int) != (W.cl.length:Int))=false∧((W.down.length:Int) != (W.cl.length:Int))=true):=by
    simp only [decide_eq_true_eq,decide_eq_false_iff_not,bne_iff_ne,bne_eq_false_iff_eq,ne_eq];omega
   rw [h1]
   clear hr h1 h2
   rcases way with d1 | ⟨d1,d2⟩ | ⟨d1,d2,d3⟩ | ⟨d1,d2,d3,d4⟩
   all_goals
    go_wp2
    go_ret
    exact ⟨rfl,B1⟩
  ·have e:=hr.out
   rw [chkWd,if_neg (by simp [h1]),if_neg h2] at e
   have hR:=Lib.hid e
   have d1:decide ((W.cl.length:Int) < 1)=false:=by simp;omega
   have d2:decide (4 < (W.cl.length:Int))=false:=by simp;omega
   have d3:((W.up.length:Int) != (W.cl.length:Int))=false:=by simp;omega
   have d4:((W.down.length:Int) != (W.cl.length:Int))=false:=by simp;omega
   have hn:=Lib.hid (show 1≤W.cl.length∧W.cl.length≤4∧W.up.length=W.cl.length∧W.down.length=W.cl.length by omega)
   rw [h1]
   clear hr h1 h2 e
   go_wp2
   go_loopw [43] (fun i wr=>∃ k:Nat,k≤W.cl.length∧i=.int .i64 k∧Hid (chkCls W.cl=chkCls (W.cl.drop k))∧Below w1.heap.size w1 wr) (fun i _=>W.cl.length - (intOf i).toNat)
   case atStart=>exact ⟨0,Nat.zero_le _,rfl,Lib.hid (by simp),brf _⟩
   case round =>
    clear x0 x1 x2 x3 x4 x5 d1 d2 d3 d4
    obtain ⟨k,hk,rfl,hf,hb⟩:=hrel
    have BW:=B1.trans (hb.mono B1.size)
    by_cases hlt:k < W.cl.length
    ·obtain ⟨x,hx⟩:∃ x,W.cl[k]?=some x:=⟨_,List.getElem?_eq_getElem hlt⟩
     obtain ⟨b,o,v0,v1,v2,v3,v4,v5,v6,e1,hcl,c0,c1,c2,c3,c4,c5,c6⟩:=RClcs.at hc.out BW hx
     subst e1
     obtain ⟨ba,bc,na,nc,sa,sc,ha,hc',rfl,rfl,rfl,rfl,rfl,rfl,rfl⟩:=RCl.shape hcl
     have hst:=Lib.hid (chkCls_step hx)
     have hbs:b < wr.heap.size:=lt_of_cell c0
     have hbx:Below wr.heap.size wr (wr.alloc (.cells #[.int .i64 x.rev,.slice ba x.base.length bc,.slice na x.now.length nc,.int .i64 x.seq,.slice sa x.sent.length sc,.slice ha x.held.length hc',.bool x.joined] 52)):=bal (brf wr) _
     have C:=Lib.hid (clCheck_any _ _ x _ (RCl.to hcl (Kp.below (btr BW hbx))))
     clear hx hcl
     by_cases he:chkCl x=0
     ·have hnx:Hid (chkCls W.cl=chkCls (W.cl.drop (k+1))):=Lib.hid (by rw [hf.out,hst.out,if_neg (by simpa using he)])
      rw [he] at C
      clear he hst hf
      go_wp2_with fail
      refine C.out.mono ?_
      rintro e w3 ⟨rfl,hb3⟩
      clear C c0 c1 c2 c3 c4 c5 c6
      go_wp2
      go_roundw
      case rel=>exact ⟨k+1,by omega,by go_num,hnx,btr (btr hb hbx) hb3⟩
      case measure=>simp [intOf];omega
     ·have hnx:chkCls W.cl=chkCl x:=by rw [hf.out,hst.out,if_pos he]
      have hF2:=hR.out
      rw [hnx,if_pos he] at hF2
      subst hF2
      have he':(chkCl x != 0)=true:=by simpa using he
      clear he hst hf hnx hR
      go_wp2_with fail
      refine C.out.mono ?_
      rintro e w3 ⟨rfl,hb3⟩
      clear C c0 c1 c2 c3 c4 c5 c6
      go_wp2
      go_ret
      exact ⟨rfl,btr (btr BW hbx) hb3⟩
    ·obtain rfl:k=W.cl.length:=by omega
     have hF2:=hR.out
     rw [hf.out,List.drop_length,chkCls,if_neg (by simp)] at hF2
     have hR2:=Lib.hid hF2
     have E2:=Lib.hid ((hb.block _ (lt_of_heap E1.out)).trans E1.out)
     clear hf hR hF2 hlt hk
     obtain ⟨x0,x1,x2,x3,x4,x5⟩:=P6.of E2.out
     obtain ⟨w3,hw3⟩:∃ w3,w3=wr.alloc (.cells #[.slice ua W.up.length uc,.slice da W.down.length dc] 28):=⟨_,rfl⟩
     have hb3:Below wr.heap.size wr w3:=by rw [hw3];exact bal (brf wr) _
     have B3:=BW.trans (hb3.mono BW.size)
     have hLL:RdS 1 (RSl 1 RVal1 fun _=>True) (fun _=>True) w3 (.slice (some ⟨wr.heap.size,0,none⟩) 2 2) [us,ds]:=by
      have q1:RdS 1 RVal1 (fun _=>True) w3 (.slice ua W.up.length uc) us:=RdS.to hU.out (by decide) (fun j hj _=>⟨trivial,B3.block j hj.2⟩) (fun _ _ _ r=>r)
      have q2:RdS 1 RVal1 (fun _=>True) w3 (.slice da W.down.length dc) ds:=RdS.to hD.out (by decide) (fun j hj _=>⟨trivial,B3.block j hj.2⟩) (fun _ _ _ r=>r)
      rw [hw3] at q1 q2 ⊢
      exact RdS.two (sz:=1) [.slice ua W.up.length uc] [.slice da W.down.length dc] 28 rfl rfl trivial ⟨_,rfl,q1⟩ ⟨_,rfl,q2⟩
     have hlen:(us ++ ds).length=(W.up ++ W.down).length:=by simp [hul.out,hdl.out]
     have hl8:(us ++ ds).length≤8∧0 < (us ++ ds).length:=by have:=hn.out;have:=hul.out;have:=hdl.out;simp;omega
     have hall:∀ (i:Nat) q x,(us ++ ds)[i]?=some q→(W.up ++ W.down)[i]?=some x→RdS 4 (RMsg fun j=>F j∧j < w.heap.size) (fun j=>F j∧j < w.heap.size) w q x:=fun i q x h1 h2=>by
      have hl1:=hul.out
      rcases Nat.lt_or_ge i us.length with hlt | hge
      ·rw [List.getElem?_append_left hlt] at h1
       rw [List.getElem?_append_left (by omega)] at h2
       exact hUq.out i q x h1 h2
      ·rw [List.getElem?_append_right hge] at h1
       rw [List.getElem?_append_right (by omega),← hl1] at h2
       exact hDq.out _ q x h1 h2
     have CC:=concatQ (fun _=>True) _ [us,ds] w3 hLL (by simp) (by have:=hl8.1;simp at this ⊢;omega) (by have:=hl8.2;simp at this ⊢;omega)
     rw [show [us,ds].flatten=us ++ ds by simp] at CC
     obtain ⟨qs,hqs⟩:∃ qs,us ++ ds=qs:=⟨_,rfl⟩
     obtain ⟨QS,hQS⟩:∃ QS,W.up ++ W.down=QS:=⟨_,rfl⟩
     rw [hqs] at CC hlen hl8 hall
     rw [hQS] at hlen hall hR2
     have CC:=Lib.hid CC
     have hall:=Lib.hid hall
     have hlen:=Lib.hid hlen
     clear hqs hQS hLL
     go_wp2_with fail
     rw [← hw3]
     clear hw3
     refine CC.out.mono ?_
     rintro e w4 ⟨rv,rfl,hO,hb4⟩
     have B4:=B3.trans (hb4.mono B3.size)
     obtain ⟨ra,rc,rfl,_⟩:=RdS.len hO.rd
     have hO:=Lib.hid hO.rd
     clear CC x0 x1 x2 x3 x4 x5 E2 hb3 hb4
     go_wp2
     go_loopw [60] (fun i ws=>∃ k:Nat,k≤qs.length∧i=.int .i64 k∧Hid (chkQs QS=chkQs (QS.drop k))∧Below w4.heap.size w4 ws) (fun i _=>qs.length - (intOf i).toNat)
     case atStart=>exact ⟨0,Nat.zero_le _,rfl,Lib.hid (by simp),brf _⟩
     case round =>
      obtain ⟨k,hk,rfl,hf,hb5⟩:=hrel
      have B5:=B4.trans (hb5.mono B4.size)
      by_cases hlt:k < qs.length
      ·obtain ⟨q,hq⟩:∃ q,qs[k]?=some q:=⟨_,List.getElem?_eq_getElem hlt⟩
       obtain ⟨x,hx⟩:∃ x,QS[k]?=some x:=⟨_,List.getElem?_eq_getElem (by rw [← hlen.out];exact hlt)⟩
       obtain ⟨b,o,e1,c0⟩:=RVals.at hO.out hb5 hq
       subst e1
       have hrq:=hall.out k q x hq hx
       obtain ⟨qa,qc,rfl,_⟩:=RdS.len hrq
       have hst:=Lib.hid (chkQs_step hx)
       have C:=Lib.hid (wdQueue_any _ _ x _ (RMsgs.to hrq (Kp.below B5)))
       clear hx hq hrq
       by_cases he:chkQ x=0
       ·have hnx:Hid (chkQs QS=chkQs (QS.drop (k+1))):=Lib.hid (by rw [hf.out,hst.out,if_neg (by simpa using he)])
        rw [he] at C
        clear he hst hf
        go_wp2_with fail
        refine C.out.mono ?_
        rintro e w6 ⟨rfl,hb6⟩
        clear C c0
        go_wp2
        go_roundw
        case rel=>exact ⟨k+1,by omega,by go_num,hnx,btr hb5 hb6⟩
        case measure=>simp [intOf];omega
       ·have hnx:chkQs QS=chkQ x:=by rw [hf.out,hst.out,if_pos he]
        have hF2:=hR2.out
        rw [hnx] at hF2
        subst hF2
        have he':(chkQ x != 0)=true:=by simpa using he
        clear he hst hf hnx hR2
        go_wp2_with fail
        refine C.out.mono ?_
        rintro e w6 ⟨rfl,hb6⟩
        clear C c0
        go_wp2
        go_ret
        exact ⟨rfl,btr B5 hb6⟩
      ·obtain rfl:k=qs.length:=by omega
       have hF2:=hR2.out
       rw [hf.out,hlen.out,List.drop_length,chkQs] at hF2
       subst hF2
       clear hf hR2
       go_wp2
       go_ret
       exact ⟨rfl,B5⟩
 ·have e:=hr.out
  rw [chkWd,if_pos h1] at e
  subst e
  have he':(chkSrv W.s != 0)=true:=by simpa using h1
  clear hr h1
  go_wp2
  go_ret
  exact ⟨rfl,B1⟩
end Go.Proofs.YteikncnldbdfmaaGreatDoor
