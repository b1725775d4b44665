import Derived.Test.YteikncnldbdfmaaGreatDoorMSvB
import Derived.Test.YteikncnldbdfmaaGreatDoorMDoc
import Derived.Test.YteikncnldbdfmaaGreatDoorMRegT
import Derived.Deep.RegionHeld3
import Derived.Deep.DeepFit
import Derived.Deep.DeepCutAuto
import Derived.Test.YteikncnldbdfmaaGreatDoorMOtTurn
import Derived.Deep.RegionLaw
import Derived.Deep.CutBlock
namespace Go.Mh
open Go.RowKit
theorem kpS {g B:Nat} {v0 v1 v2:Value} {w0 wc w':World} (h:wc.cell? ⟨g,0,none⟩=some v0∧wc.cell? ⟨g,1,none⟩=some v1∧wc.cell? ⟨g,2,none⟩=some v2∧B≤wc.heap.size∧Below B w0 wc) (hb:Below wc.heap.size wc w') :
  w'.cell? ⟨g,0,none⟩=some v0∧w'.cell? ⟨g,1,none⟩=some v1∧w'.cell? ⟨g,2,none⟩=some v2∧B≤w'.heap.size∧Below B w0 w':=
 ⟨(hb.cell (lt_of_cell h.1)).trans h.1,(hb.cell (lt_of_cell h.2.1)).trans h.2.1,(hb.cell (lt_of_cell h.2.2.1)).trans h.2.2.1,Nat.le_trans h.2.2.2.1 hb.size,h.2.2.2.2.trans (hb.mono h.2.2.2.1)⟩
theorem kpS_b {g B:Nat} {v0 v1 v2:Value} {w0 wc:World} (h:wc.cell? ⟨g,0,none⟩=some v0∧wc.cell? ⟨g,1,none⟩=some v1∧wc.cell? ⟨g,2,none⟩=some v2∧B≤wc.heap.size∧Below B w0 wc):Below B w0 wc:=h.2.2.2.2
theorem kpS_z {g B:Nat} {v0 v1 v2:Value} {w0 wc:World} (h:wc.cell? ⟨g,0,none⟩=some v0∧wc.cell? ⟨g,1,none⟩=some v1∧wc.cell? ⟨g,2,none⟩=some v2∧B≤wc.heap.size∧Below B w0 wc):B≤wc.heap.size:=h.2.2.2.1
theorem set021 {w:World} {g e:Nat} {u0 u1 u2:Value} (h:w.heap[g]?=some (.cells #[u0,u1,u2] e (0,0))) (v0 v2 v1:Value) :
  (((w.setCell ⟨g,0,none⟩ v0).setCell ⟨g,2,none⟩ v2).setCell ⟨g,1,none⟩ v1).heap[g]?=some (.cells #[v0,v1,v2] e (0,0))∧Stays g w (((w.setCell ⟨g,0,none⟩ v0).setCell ⟨g,2,none⟩ v2).setCell ⟨g,1,none⟩ v1):=by
 constructor
 ·have h1:(w.setCell ⟨g,0,none⟩ v0).heap[g]?=some (.cells #[v0,u1,u2] e (0,0)):=by rw [heap_setCell_same _ g 0 _ e v0 h];rfl
  have h2:((w.setCell ⟨g,0,none⟩ v0).setCell ⟨g,2,none⟩ v2).heap[g]?=some (.cells #[v0,u1,v2] e (0,0)):=by rw [heap_setCell_same _ g 2 _ e v2 h1];rfl
  rw [heap_setCell_same _ g 1 _ e v1 h2];rfl
 ·exact (Stays.set.trans Stays.set).trans Stays.set
theorem set012 {w:World} {g e:Nat} {u0 u1 u2:Value} (h:w.heap[g]?=some (.cells #[u0,u1,u2] e (0,0))) (v0 v1 v2:Value) :
  (((w.setCell ⟨g,0,none⟩ v0).setCell ⟨g,1,none⟩ v1).setCell ⟨g,2,none⟩ v2).heap[g]?=some (.cells #[v0,v1,v2] e (0,0))∧Stays g w (((w.setCell ⟨g,0,none⟩ v0).setCell ⟨g,1,none⟩ v1).setCell ⟨g,2,none⟩ v2):=by
 constructor
 ·have h1:(w.setCell ⟨g,0,none⟩ v0).heap[g]?=some (.cells #[v0,u1,u2] e (0,0)):=by rw [heap_setCell_same _ g 0 _ e v0 h];rfl
  have h2:((w.setCell ⟨g,0,none⟩ v0).setCell ⟨g,1,none⟩ v1).heap[g]?=some (.cells #[v0,v1,u2] e (0,0)):=by rw [heap_setCell_same _ g 1 _ e v1 h1];rfl
  rw [heap_setCell_same _ g 2 _ e v2 h2];rfl
 ·exact (Stays.set.trans Stays.set).trans Stays.set
theorem OwnS.mono {α:Type} {base base' e sz:Nat} {R:World→List Value→α→Prop} {w:World} {v:Value} {L:List α} (h:OwnS base e sz R w v L) (hb:base'≤base):OwnS base' e sz R w v L:=by
 obtain ⟨css,⟨h0,h1⟩,h2⟩:=h
 refine ⟨css,⟨h0, ?_⟩,h2⟩
 rcases h1 with h1 | ⟨g,cap,cur,e1,hg,hh⟩
 ·exact Or.inl h1
 ·exact Or.inr ⟨g,cap,cur,e1,Nat.le_trans hb hg,hh⟩
end Go.Mh
namespace Go.Proofs.YteikncnldbdfmaaGreatDoor
open Go.RowKit Go.Mh
end Go.Proofs.YteikncnldbdfmaaGreatDoor
namespace Go.Mh
open Go.RowKit
def newS (d:List It):Srv × Int:=if chkDoc d≠0 then (srv0,chkDoc d) else (⟨d,[],d⟩,0)
theorem RSrv.zero {F:Nat→Prop} {w:World}:RSrv F w (.agg #[.slice none 0 0,.slice none 0 0,.slice none 0 0]) srv0:=⟨_,_,_,rfl,RdS.nil,RdS.nil,RdS.nil⟩
end Go.Mh
namespace Go.Proofs.YteikncnldbdfmaaGreatDoor
open Go.RowKit Go.Mh
abbrev svZero:Obj:=.cells #[.slice none 0 0,.slice none 0 0,.slice none 0 0] 26
set_option maxRecDepth 100000 in
set_option maxHeartbeats 2000000 in
theorem svNew_any (F:Nat→Prop) (v:Value) (d:List It) (w:World) (h:RItems F w v d) :
  Calls Tryz.prog 58 #[v] w fun e w'=>∃ v',e=.returned (.tuple #[v',.int .i64 (newS d).2])∧RSrv (fun _=>True) w' v' (newS d).1∧Below w.heap.size w w':=by
 have h:=RItems.to h (Kp.lt w)
 obtain ⟨a,cc,rfl,_⟩:=RdS.len h
 obtain ⟨w1,hw1⟩:∃ w1,w1=w.alloc svZero:=⟨_,rfl⟩
 have hb1:Below w.heap.size w w1:=by rw [hw1];exact bal (brf w) _
 have hG:=Lib.hid (by rw [hw1];exact heap_at rfl:w1.heap[w.heap.size]?=some svZero)
 have H:=Lib.hid h
 clear h
 have hres:∃ r,Hid (newS d=r):=⟨_,Lib.hid rfl⟩
 obtain ⟨⟨R1,R2⟩,hres⟩:=hres
 rw [hres.out]
 go_enter Tryz.func58,Tryz.ntmps58
 go_upto_region 1 with fail
 rw [← hw1]
 clear hw1
 go_wp2_with fail
 refine (check_any _ _ d w1 (RItems.to H.out (Kp.below hb1))).mono ?_
 rintro e w2 ⟨rfl,hb2⟩
 have hz:=lt_of_heap hG.out
 have hB2:=hb1.trans (hb2.mono hb1.size)
 have hG2:=Lib.hid ((hb2.block _ hz).trans hG.out)
 clear hG hb1 hb2 hz
 by_cases hk:chkDoc d=0
 ·have hr:=hres.out
  rw [newS,if_neg (by simpa using hk)] at hr
  cases hr
  have hl:d.length≤100000:=by have:=(chkDoc_ok hk).2;omega
  rw [hk]
  clear hk hres
  go_wp2_with fail
  refine (cloneDoc_any _ _ d w2 (RItems.to H.out (Kp.below hB2)) hl).mono ?_
  rintro e w3 ⟨u3,rfl,hu3,hb3⟩
  have hB3:=hB2.trans (hb3.mono hB2.size)
  have hz2:=lt_of_heap hG2.out
  have hG3:=Lib.hid ((hb3.block _ hz2).trans hG2.out)
  have U3:=Lib.hid hu3.rd
  clear hu3 hG2
  go_wp2_with fail
  refine (cloneDoc_any _ _ d w3 (RItems.to H.out (Kp.below hB3)) hl).mono ?_
  rintro e w4 ⟨u4,rfl,hu4,hb4⟩
  have hB4:=hB3.trans (hb4.mono hB3.size)
  have hz3:=lt_of_heap hG3.out
  have hG4:=Lib.hid ((hb4.block _ hz3).trans hG3.out)
  have U4:=Lib.hid hu4.rd
  have U3':=Lib.hid (RItems.to U3.out (Kp.below hb4))
  obtain ⟨a3,c3,rfl,_⟩:=RdS.len U3.out
  obtain ⟨a4,c4,rfl,_⟩:=RdS.len U4.out
  have hfz2:∀ i,w4.frozen? ⟨w.heap.size,i,none⟩=false:=fun i=>Lib.frozen_of_heap hG4.out _
  have hz4:=lt_of_heap hG4.out
  obtain ⟨y0,y1,y2⟩:=P3.of hG4.out
  clear hu4 U3 hG3 hB2 hB3
  go_wp2
  obtain ⟨q1,q2⟩:=set012 hG4.out (.slice a3 d.length c3) (.slice none 0 0) (.slice a4 d.length c4)
  generalize hwz:(((w4.setCell ⟨w.heap.size,0,none⟩ _).setCell ⟨w.heap.size,1,none⟩ _).setCell ⟨w.heap.size,2,none⟩ _)=wz at *
  obtain ⟨z0,z1,z2⟩:=P3.of q1
  exact bodyPost_ret (v:=.tuple #[.agg #[.slice a3 d.length c3,.slice none 0 0,.slice a4 d.length c4],.int .i64 0]) (by simp [results,Tryz.results58,go_sem,z0,z1,z2]) rfl ⟨_,rfl,⟨_,_,_,rfl,RItems.to U3'.out (fun i hi hl'=>⟨trivial,q2.same i hl' (by omega)⟩),RdS.nil,RItems.to U4.out (fun i hi hl'=>⟨trivial,q2.same i hl' (by omega)⟩)⟩,hB4.trans (q2.bel.mono (Nat.le_refl _))⟩
 ·have hr:=hres.out
  rw [newS,if_pos hk] at hr
  cases hr
  have hk':(chkDoc d != 0)=true:=by simpa using hk
  have hfz2:∀ i,w2.frozen? ⟨w.heap.size,i,none⟩=false:=fun i=>Lib.frozen_of_heap hG2.out _
  have hz2:=lt_of_heap hG2.out
  obtain ⟨y0,y1,y2⟩:=P3.of hG2.out
  clear hk hres
  go_wp2
  obtain ⟨q1,q2⟩:=set012 hG2.out (.slice none 0 0) (.slice none 0 0) (.slice none 0 0)
  generalize hwz:(((w2.setCell ⟨w.heap.size,0,none⟩ _).setCell ⟨w.heap.size,1,none⟩ _).setCell ⟨w.heap.size,2,none⟩ _)=wz at *
  obtain ⟨z0,z1,z2⟩:=P3.of q1
  exact bodyPost_ret (v:=.tuple #[.agg #[.slice none 0 0,.slice none 0 0,.slice none 0 0],.int .i64 (chkDoc d)]) (by simp [results,Tryz.results58,go_sem,z0,z1,z2]) rfl ⟨_,rfl,RSrv.zero,hB2.trans (q2.bel.mono (Nat.le_refl _))⟩
end Go.Proofs.YteikncnldbdfmaaGreatDoor
namespace Go.Mh
open Go.RowKit
theorem rebase_step {o:List Pt} {l:List En} {k:Nat} {x:En} (h:l[k]?=some x):rebase o (l.drop k)=if (turnP x.o o).2.2≠0 then ([],(turnP x.o o).2.2) else rebase (turnP x.o o).2.1 (l.drop (k+1)):=by
 obtain ⟨hk,e⟩:=List.getElem?_eq_some_iff.1 h
 rw [List.drop_eq_getElem_cons hk,e,rebase]
theorem RE_src {F:Nat→Prop} {e:TypeId} {fr:Nat × Nat} {w:World} {g:Nat} {c s:Int} {ov:Value} {o:List Pt} (h:w.heap[g]?=some (.cells #[.int .i64 c,.int .i64 s,ov] e fr)) (ho:ROp F w ov o):RdS 3 (REn F) (fun _=>True) w (.slice (some ⟨g,0,none⟩) 1 1) [⟨c,s,o⟩]:=by
 refine ⟨_,1,rfl,by simp,by simp [maxLen],fun h=>by simp at h,fun i y hy=>?_⟩
 cases i with
 | succ i=>simp at hy
 | zero =>
  simp at hy
  subst hy
  refine ⟨_,0,[.int .i64 c,.int .i64 s,ov],rfl,trivial,rfl,fun j u hj=>?_,ov,rfl,ho⟩
  unfold World.cell?
  rw [h]
  match j,hj with
  | 0,hj=>simpa using hj
  | 1,hj=>simpa using hj
  | 2,hj=>simpa using hj
  | n+3,hj=>simp at hj
theorem frOwn {e T e1 e2:TypeId} (hT:T≠e) {B0 B g1 g2:Nat} {R:World→List Value→En→Prop} {w:World} {l:Value} {L:List En} (ho:OwnS B0 e 3 R w l L) {xs1 xs2:Array Value} {fr1 fr2:Nat × Nat} (h1:w.heap[g1]?=some (.cells xs1 e1 fr1)) (ht1:e1≠T) (h2:w.heap[g2]?=some (.cells xs2 e2 fr2)) (ht2:e2≠T) (hg:∀ k,l.ownBlock=some k→k < B) (b1:g1 < B) (b2:g2 < B) :
  Kp (Fr T B w) (fun k=>l.ownBlock≠some k∧k≠g1∧k≠g2) w w:=fun k hk _=>by
 refine ⟨?_,rfl⟩
 rcases hk with h | ⟨xs,fr,e'⟩
 ·exact ⟨fun he=>by have:=hg k he;omega,by omega,by omega⟩
 ·refine ⟨fun he=>ho.ne e' hT he.symm,fun he=>?_,fun he=>?_⟩
  ·subst he;rw [h1] at e';cases e';exact ht1 rfl
  ·subst he;rw [h2] at e';cases e';exact ht2 rfl
theorem OwnS.shape0 {α:Type} {base e sz:Nat} {R:World→List Value→α→Prop} {w:World} {la:Option Addr} {n c:Nat} {L:List α} (h:OwnS base e sz R w (.slice la n c) L) (hc:c≠0):∃ g,la=some ⟨g,0,none⟩:=by
 obtain ⟨css,⟨_,h1⟩,_⟩:=h
 rcases h1 with ⟨e1,_⟩ | ⟨g,cap,cur,e1,_⟩
 ·cases e1;exact absurd rfl hc
 ·cases e1;exact ⟨g,rfl⟩
theorem kpT {g1 g2 g3 o1 o2 o3:Nat} {v0 v1 v2:Value} {wc w':World} (h:wc.cell? ⟨g1,o1,none⟩=some v0∧wc.cell? ⟨g2,o2,none⟩=some v1∧wc.cell? ⟨g3,o3,none⟩=some v2) (hb:Below wc.heap.size wc w') :
  w'.cell? ⟨g1,o1,none⟩=some v0∧w'.cell? ⟨g2,o2,none⟩=some v1∧w'.cell? ⟨g3,o3,none⟩=some v2:=
 ⟨(hb.cell (lt_of_cell h.1)).trans h.1,(hb.cell (lt_of_cell h.2.1)).trans h.2.1,(hb.cell (lt_of_cell h.2.2)).trans h.2.2⟩
theorem set21 {w:World} {g e:Nat} {u0 u1 u2:Value} (h:w.heap[g]?=some (.cells #[u0,u1,u2] e (0,0))) (v2 v1:Value) :
  ((w.setCell ⟨g,2,none⟩ v2).setCell ⟨g,1,none⟩ v1).heap[g]?=some (.cells #[u0,v1,v2] e (0,0))∧Stays g w ((w.setCell ⟨g,2,none⟩ v2).setCell ⟨g,1,none⟩ v1):=by
 constructor
 ·have h1:(w.setCell ⟨g,2,none⟩ v2).heap[g]?=some (.cells #[u0,u1,v2] e (0,0)):=by rw [heap_setCell_same _ g 2 _ e v2 h];rfl
  rw [heap_setCell_same _ g 1 _ e v1 h1];rfl
 ·exact Stays.set.trans Stays.set
theorem RdS.nilX {α:Type} {sz:Nat} {R:World→List Value→α→Prop} {F:Nat→Prop} {w:World} {a:Option Addr}:RdS sz R F w (.slice a 0 0) ([]:List α):=
 ⟨_,_,rfl,Nat.le_refl _,by simp [maxLen],fun _=>rfl,fun i x h=>by simp at h⟩
end Go.Mh
namespace Go.Proofs.YteikncnldbdfmaaGreatDoor
open Go.RowKit Go.Mh
end Go.Proofs.YteikncnldbdfmaaGreatDoor
namespace Go.Mh
open Go.RowKit
theorem SrvOk.lens {s:Srv} (h:SrvOk s):s.first.length≤100000∧s.now.length≤100000∧s.log.length≤60∧∀ x ∈ s.log,x.o.length≤100000∧∀ p ∈ x.o,p.its.length≤100000:=by
 refine ⟨by have:=(chkDoc_ok h.doc).2;omega,by have:=(chkDoc_ok (foldG_doc h.fold h.doc)).2;omega,h.len,fun x hx=>?_⟩
 have he:=h.ens x hx
 unfold chkEn at he
 split at he;· simp at he
 split at he;· simp at he
 have hk:=chkOp_ok he
 exact ⟨by have:=hk.len;omega,fun p hp=>by have:=hk.i80 p hp;omega⟩
theorem RLog.ne {F:Nat→Prop} {w:World} {v:Value} {L:List En} {g:Nat} (h:RLog F w v L) (hg:NoIt w g):RLog (fun k=>F k∧k≠g) w v L:=by
 obtain ⟨a,cap,e,h1,h2,h3,h4⟩:=h
 refine ⟨a,cap,e,h1,h2,h3,fun i x hx=>?_⟩
 obtain ⟨b,o,cs,e1,hF,hl,hat,sv,hR,hI⟩:=h4 i x hx
 refine ⟨b,o,cs,e1,⟨hF,fun hb=>?_⟩,hl,hat,sv,hR,ROp.ne hI hg⟩
 subst hb
 subst hR
 exact hg.p _ _ _ (hat 0 _ rfl) (hat 1 _ rfl)
theorem RSrv.ne {F:Nat→Prop} {w:World} {v:Value} {s:Srv} {g:Nat} (h:RSrv F w v s) (hg:NoIt w g):RSrv (fun k=>F k∧k≠g) w v s:=by
 obtain ⟨a,l,n,e,h1,h2,h3⟩:=h
 exact ⟨a,l,n,e,RItems.ne h1 hg,RLog.ne h2 hg,RItems.ne h3 hg⟩
end Go.Mh
namespace Go.Proofs.YteikncnldbdfmaaGreatDoor
open Go.RowKit Go.Mh
theorem rsrv_shape {F:Nat→Prop} {w:World} {a l n:Value} {s:Srv} (h:RSrv F w (.agg #[a,l,n]) s):∃ aa ac la lc na nc,a=.slice aa s.first.length ac∧l=.slice la s.log.length lc∧n=.slice na s.now.length nc:=by
 obtain ⟨_,_,_,e,h1,h2,h3⟩:=h
 simp at e
 obtain ⟨rfl,rfl,rfl⟩:=e
 obtain ⟨aa,ac,rfl,_⟩:=RdS.len h1
 obtain ⟨la,lc,rfl,_⟩:=RdS.len h2
 obtain ⟨na,nc,rfl,_⟩:=RdS.len h3
 exact ⟨_,_,_,_,_,_,rfl,rfl,rfl⟩
end Go.Proofs.YteikncnldbdfmaaGreatDoor
namespace Go.Mh
open Go.RowKit
end Go.Mh
namespace Go.Proofs.YteikncnldbdfmaaGreatDoor
open Go.RowKit Go.Mh
instance:DecidableEq Srv:=fun a b=>decidable_of_iff (a.first=b.first∧a.log=b.log∧a.now=b.now) (by cases a;cases b;simp)
end Go.Proofs.YteikncnldbdfmaaGreatDoor
