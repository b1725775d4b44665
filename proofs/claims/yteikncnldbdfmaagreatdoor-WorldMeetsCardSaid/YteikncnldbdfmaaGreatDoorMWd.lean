import Derived.Test.YteikncnldbdfmaaGreatDoorMCl
import Derived.Test.YteikncnldbdfmaaGreatDoorMSvB
import Derived.Test.YteikncnldbdfmaaGreatDoorMPl
namespace Go.Mh
open Go.RowKit
def RMsg (F:Nat→Prop) (w:World) (cs:List Value) (m:Msg):Prop:=∃ ov,cs=[.int .i64 m.rev,.int .i64 m.e.client,.int .i64 m.e.seq,ov]∧ROp F w ov m.e.o
theorem RMsg.to {F F':Nat→Prop} {w w':World} {cs:List Value} {m:Msg} (h:RMsg F w cs m) (k:Kp F F' w w'):RMsg F' w' cs m:=by
 obtain ⟨ov,e,ho⟩:=h
 exact ⟨ov,e,ROp.to ho k⟩
def RClc (F:Nat→Prop) (w:World) (cs:List Value) (c:Cl):Prop:=
 ∃ b n s h,cs=[.int .i64 c.rev,b,n,.int .i64 c.seq,s,h,.bool c.joined]∧RItems F w b c.base∧RItems F w n c.now∧ROp F w s c.sent∧ROp F w h c.held
theorem RClc.to {F F':Nat→Prop} {w w':World} {cs:List Value} {c:Cl} (h:RClc F w cs c) (k:Kp F F' w w'):RClc F' w' cs c:=by
 obtain ⟨b,n,s,g,e,h1,h2,h3,h4⟩:=h
 exact ⟨b,n,s,g,e,RItems.to h1 k,RItems.to h2 k,ROp.to h3 k,ROp.to h4 k⟩
def RVal (_:World) (cs:List Value) (v:Value):Prop:=cs=[v]
theorem OwnS.cells {α:Type} {base e sz:Nat} {R:World→List Value→α→Prop} {w:World} {v:Value} {L:List α} (h:OwnS base e sz R w v L) {k:Nat} (hk:v.ownBlock=some k):base≤k∧∃ xs,w.heap[k]?=some (.cells xs e (0,0)):=by
 obtain ⟨css,⟨_,h1⟩,_⟩:=h
 rcases h1 with ⟨rfl,_⟩ | ⟨g,cap,cur,rfl,hg,hh,_⟩
 ·simp [Value.ownBlock] at hk
 ·simp [Value.ownBlock] at hk
  subst hk
  exact ⟨hg,cur,hh⟩
def Apart (a b:Value):Prop:=∀ k,a.ownBlock=some k→b.ownBlock≠some k
theorem Apart.symm {a b:Value} (h:Apart a b):Apart b a:=fun k hb ha=>h k ha hb
def Man (g:Nat) (rows:List Value) (k:Nat):Prop:=k=g∨∃ q ∈ rows,q.ownBlock=some k
end Go.Mh
namespace Go.Proofs.YteikncnldbdfmaaGreatDoor
open Go.RowKit Go.Mh
abbrev TW:TypeId:=30
abbrev TC:TypeId:=52
abbrev TS:TypeId:=65
abbrev TM:TypeId:=79
structure Lay where
 vc:Value
 vu:Value
 vd:Value
 us:List Value
 ds:List Value
abbrev Lay.rows (l:Lay):List Value:=l.vc :: l.vu :: l.vd :: (l.us ++ l.ds)
abbrev Lay.N (l:Lay) (g:Nat):Nat→Prop:=fun k=>¬ Man g l.rows k
structure WAt (B g:Nat) (l:Lay) (w:World) (W:Wd):Prop where
 gB:B≤g
 box:∃ a lg n,w.heap[g]?=some (.cells #[a,lg,n,l.vc,l.vu,l.vd] TW (0,0))∧RSrv (l.N g) w (.agg #[a,lg,n]) W.s
 cl:OwnS B TC 7 (RClc (l.N g)) w l.vc W.cl
 uR:OwnS B TS 1 RVal w l.vu l.us
 dR:OwnS B TS 1 RVal w l.vd l.ds
 ul:l.us.length=W.up.length
 dl:l.ds.length=W.down.length
 qu:∀ (i:Nat) q L,l.us[i]?=some q→W.up[i]?=some L→OwnS B TM 4 (RMsg (l.N g)) w q L
 qd:∀ (i:Nat) q L,l.ds[i]?=some q→W.down[i]?=some L→OwnS B TM 4 (RMsg (l.N g)) w q L
 ap:l.rows.Pairwise Apart
theorem WAt.own {B g:Nat} {l:Lay} {w:World} {W:Wd} (h:WAt B g l w W) {q:Value} (hq:q ∈ l.rows) {k:Nat} (hk:q.ownBlock=some k):B≤k∧∃ xs T,w.heap[k]?=some (.cells xs T (0,0))∧(T=TC∨T=TS∨T=TM):=by
 simp only [List.mem_cons,List.mem_append] at hq
 rcases hq with rfl | rfl | rfl | hq | hq
 ·obtain ⟨a,xs,b⟩:=h.cl.cells hk;exact ⟨a,xs,_,b,Or.inl rfl⟩
 ·obtain ⟨a,xs,b⟩:=h.uR.cells hk;exact ⟨a,xs,_,b,Or.inr (Or.inl rfl)⟩
 ·obtain ⟨a,xs,b⟩:=h.dR.cells hk;exact ⟨a,xs,_,b,Or.inr (Or.inl rfl)⟩
 ·obtain ⟨i,hi⟩:=List.mem_iff_getElem?.1 hq
  have hlt:i < W.up.length:=by rw [← h.ul];exact (List.getElem?_eq_some_iff.1 hi).1
  obtain ⟨a,xs,b⟩:=(h.qu i q _ hi (List.getElem?_eq_getElem hlt)).cells hk;exact ⟨a,xs,_,b,Or.inr (Or.inr rfl)⟩
 ·obtain ⟨i,hi⟩:=List.mem_iff_getElem?.1 hq
  have hlt:i < W.down.length:=by rw [← h.dl];exact (List.getElem?_eq_some_iff.1 hi).1
  obtain ⟨a,xs,b⟩:=(h.qd i q _ hi (List.getElem?_eq_getElem hlt)).cells hk;exact ⟨a,xs,_,b,Or.inr (Or.inr rfl)⟩
theorem WAt.man {B g:Nat} {l:Lay} {w:World} {W:Wd} (h:WAt B g l w W) {k:Nat} (hk:Man g l.rows k):B≤k∧∃ xs T,w.heap[k]?=some (.cells xs T (0,0))∧T≠58:=by
 rcases hk with rfl | ⟨q,hq,hk⟩
 ·obtain ⟨a,lg,n,hb,_⟩:=h.box
  exact ⟨h.gB,_,_,hb,by decide⟩
 ·obtain ⟨a,xs,T,b,c⟩:=h.own hq hk
  exact ⟨a,xs,T,b,by rcases c with rfl | rfl | rfl <;> decide⟩
theorem WAt.new {B g:Nat} {l:Lay} {w:World} {W:Wd} (h:WAt B g l w W):∀ k,w.heap.size≤k→l.N g k:=fun k hk hm=>by
 obtain ⟨_,xs,T,e,_⟩:=h.man hm
 have:=lt_of_heap e
 omega
theorem WAt.not {B g:Nat} {l:Lay} {w:World} {W:Wd} (h:WAt B g l w W):∀ k,¬ l.N g k→∃ xs fr T',w.heap[k]?=some (.cells xs T' fr)∧T'≠58:=fun k hk=>by
 obtain ⟨_,xs,T,e,ne⟩:=h.man (Classical.not_not.1 hk)
 exact ⟨xs,_,T,e,ne⟩
theorem WAt.below {B g:Nat} {l:Lay} {w w':World} {W:Wd} (h:WAt B g l w W) (hb:Below w.heap.size w w'):WAt B g l w' W:=by
 obtain ⟨a,lg,n,h1,h2⟩:=h.box
 exact ⟨h.gB,⟨a,lg,n,(hb.block _ (lt_of_heap h1)).trans h1,RSrv.to h2 (Kp.below hb)⟩,h.cl.below hb (fun _ _ _ r=>RClc.to r (Kp.below hb)),h.uR.below hb (fun _ _ _ r=>r),h.dR.below hb (fun _ _ _ r=>r),h.ul,h.dl,fun i q L h1 h2=>(h.qu i q L h1 h2).below hb (fun _ _ _ r=>RMsg.to r (Kp.below hb)),fun i q L h1 h2=>(h.qd i q L h1 h2).below hb (fun _ _ _ r=>RMsg.to r (Kp.below hb)),h.ap⟩
theorem modL_set {α:Type} (f:α→α) (k:Nat) (l:List α) {x:α} (h:l[k]?=some x):modL f k l=l.set k (f x):=by
 apply List.ext_getElem?
 intro i
 rw [modL_get,List.getElem?_set]
 by_cases hi:i=k
 ·subst hi
  rw [if_pos rfl,if_pos rfl,h,if_pos (List.getElem?_eq_some_iff.1 h).1]
  rfl
 ·rw [if_neg hi,if_neg (fun e=>hi e.symm)]
theorem WAt.clients {B g gc n cap:Nat} {l:Lay} {w w':World} {W:Wd} {cl:List Cl} (h:WAt B g l w W) (hv:l.vc=.slice (some ⟨gc,0,none⟩) n cap) (hk:∀ k,k < w.heap.size→k≠gc→w'.heap[k]?=w.heap[k]?)
  (hc:OwnS B TC 7 (RClc (l.N g)) w' l.vc cl):WAt B g l w' { W with cl:=cl }:=by
 have hgc:Man g l.rows gc:=Or.inr ⟨l.vc,by simp,by rw [hv];rfl⟩
 have kp:Kp (l.N g) (l.N g) w w':=fun k hN hl=>⟨hN,hk k hl (fun e=>by subst e;exact hN hgc)⟩
 have hap:=h.ap
 rw [List.pairwise_cons] at hap
 have hne:∀ q ∈ l.vu :: l.vd :: (l.us ++ l.ds),∀ k,q.ownBlock=some k→k≠gc:=fun q hq j hj e=>by
  subst e
  exact hap.1 q hq j (by rw [hv];rfl) hj
 have own:∀ {q:Value},q ∈ l.vu :: l.vd :: (l.us ++ l.ds)→∀ k,q.ownBlock=some k→k < w.heap.size→w'.heap[k]?=w.heap[k]?:=fun hq k h1 h2=>hk k h2 (hne _ hq k h1)
 obtain ⟨a,lg,nn,h1,h2⟩:=h.box
 have hgg:g≠gc:=fun e=>by
  obtain ⟨_,xs,e1⟩:=h.cl.cells (k:=gc) (by rw [hv];rfl)
  rw [← e,h1] at e1
  cases e1
 have hm:∀ (i:Nat) q,(l.us[i]?=some q→q ∈ l.vu :: l.vd :: (l.us ++ l.ds))∧(l.ds[i]?=some q→q ∈ l.vu :: l.vd :: (l.us ++ l.ds)):=fun i q =>
  ⟨fun e=>List.mem_cons_of_mem _ (List.mem_cons_of_mem _ (List.mem_append_left _ (List.mem_of_getElem? e))),fun e=>List.mem_cons_of_mem _ (List.mem_cons_of_mem _ (List.mem_append_right _ (List.mem_of_getElem? e)))⟩
 exact ⟨h.gB,⟨a,lg,nn,(hk g (lt_of_heap h1) hgg).trans h1,RSrv.to h2 kp⟩,hc,h.uR.to (own (by simp)) (fun _ _ _ r=>r),h.dR.to (own (by simp)) (fun _ _ _ r=>r),h.ul,h.dl,
  fun i q L e1 e2=>(h.qu i q L e1 e2).to (own ((hm i q).1 e1)) (fun _ _ _ r=>RMsg.to r kp),fun i q L e1 e2=>(h.qd i q L e1 e2).to (own ((hm i q).2 e1)) (fun _ _ _ r=>RMsg.to r kp),h.ap⟩
theorem pairwise_set {α:Type} {R:α→α→Prop} (hsym:∀ a b,R a b→R b a) {L:List α} (h:L.Pairwise R) (k:Nat) (x:α) (hx:∀ (j:Nat) y,j≠k→L[j]?=some y→R x y):(L.set k x).Pairwise R:=by
 rw [List.pairwise_iff_getElem] at h ⊢
 intro i j hi hj hij
 rw [List.length_set] at hi hj
 rw [List.getElem_set,List.getElem_set]
 by_cases h1:k=i
 ·rw [if_pos h1,if_neg (by omega)]
  exact hx j _ (by omega) (List.getElem?_eq_getElem hj)
 ·rw [if_neg h1]
  by_cases h2:k=j
  ·rw [if_pos h2]
   exact hsym _ _ (hx i _ (by omega) (List.getElem?_eq_getElem hi))
  ·rw [if_neg h2]
   exact h i j hi hj hij
structure QStep (w w':World) (gr:Nat) (q q':Value):Prop where
 same:∀ k,k < w.heap.size→k≠gr→q.ownBlock≠some k→w'.heap[k]?=w.heap[k]?
 own:∀ k,q'.ownBlock=some k→q.ownBlock=some k∨w.heap.size≤k
theorem WAt.upSet {B g gu n cap i:Nat} {l:Lay} {w w':World} {W:Wd} {q q':Value} {L':List Msg} (h:WAt B g l w W) (hv:l.vu=.slice (some ⟨gu,0,none⟩) n cap) (hi:l.us[i]?=some q) (hs:QStep w w' gu q q')
  (hu:OwnS B TS 1 RVal w' l.vu (l.us.set i q')) (hL:OwnS B TM 4 (RMsg (({ l with us:=l.us.set i q' }:Lay).N g)) w' q' L'):WAt B g { l with us:=l.us.set i q' } w' { W with up:=W.up.set i L' }:=by
 have hgu:l.vu.ownBlock=some gu:=by rw [hv];rfl
 have mq:q ∈ l.rows:=by simp;exact Or.inr (Or.inr (Or.inr (Or.inl (List.mem_of_getElem? hi))))
 have mu:l.vu ∈ l.rows:=by simp
 have kp:Kp (l.N g) (({ l with us:=l.us.set i q' }:Lay).N g) w w':=fun k hN hl=>by
  refine ⟨fun hm=>hN ?_,hs.same k hl (fun e=>hN (Or.inr ⟨_,mu,by rw [e];exact hgu⟩)) (fun e=>hN (Or.inr ⟨q,mq,e⟩))⟩
  rcases hm with e | ⟨r,hr,hk⟩
  ·exact Or.inl e
  ·simp only [List.mem_cons,List.mem_append] at hr
   rcases hr with rfl | rfl | rfl | hr | hr
   ·exact Or.inr ⟨_,by simp,hk⟩
   ·exact Or.inr ⟨_,by simp,hk⟩
   ·exact Or.inr ⟨_,by simp,hk⟩
   ·rcases List.mem_or_eq_of_mem_set hr with hr | rfl
    ·exact Or.inr ⟨r,by simp [hr],hk⟩
    ·rcases hs.own k hk with e | e
     ·exact Or.inr ⟨q,mq,e⟩
     ·omega
   ·exact Or.inr ⟨r,by simp [hr],hk⟩
 have hpw:=List.pairwise_iff_getElem.1 h.ap
 -- a row that is neither the queue nor the row of queues
 have own:∀ {r:Value} (j:Nat),l.rows[j]?=some r→j≠3+i→j≠1→∀ k,r.ownBlock=some k→k < w.heap.size→w'.heap[k]?=w.heap[k]?:=fun {r} j hj h1 h2 k hk hl=>by
  refine hs.same k hl (fun e=>?_) (fun e=>?_)
  ·subst e
   have hjl:=(List.getElem?_eq_some_iff.1 hj)
   rcases Nat.lt_or_gt_of_ne h2 with h3 | h3
   ·exact hpw j 1 hjl.1 (by simp) h3 k (by rw [hjl.2];exact hk) hgu
   ·exact hpw 1 j (by simp) hjl.1 h3 k hgu (by rw [hjl.2];exact hk)
  ·have hjl:=(List.getElem?_eq_some_iff.1 hj)
   have hql:l.rows[3+i]?=some q:=by
    have hlt:=(List.getElem?_eq_some_iff.1 hi).1
    show (l.vc :: l.vu :: l.vd :: (l.us ++ l.ds))[3+i]?=some q
    rw [show 3+i=i+1+1+1 by omega]
    simp only [List.getElem?_cons_succ]
    rw [List.getElem?_append_left hlt];exact hi
   have hql':=List.getElem?_eq_some_iff.1 hql
   rcases Nat.lt_or_gt_of_ne h1 with h3 | h3
   ·exact hpw j (3+i) hjl.1 hql'.1 h3 k (by rw [hjl.2];exact hk) (by rw [hql'.2];exact e)
   ·exact hpw (3+i) j hql'.1 hjl.1 h3 k (by rw [hql'.2];exact e) (by rw [hjl.2];exact hk)
 obtain ⟨a,lg,nn,h1,h2⟩:=h.box
 have hgne:∀ r ∈ l.rows,r.ownBlock≠some g:=fun r hr e=>by
  obtain ⟨_,xs,T,e1,e2⟩:=h.own hr e
  rw [h1] at e1
  cases e1
  rcases e2 with e2 | e2 | e2 <;> exact absurd e2 (by decide)
 have hilt:=(List.getElem?_eq_some_iff.1 hi).1
 refine ⟨h.gB,⟨a,lg,nn,(hs.same g (lt_of_heap h1) (fun e=>hgne _ mu (by rw [e];exact hgu)) (hgne q mq)).trans h1,RSrv.to h2 kp⟩,h.cl.to (own 0 rfl (by omega) (by omega)) (fun _ _ _ r=>RClc.to r kp),hu,h.dR.to (own 2 rfl (by omega) (by omega)) (fun _ _ _ r=>r),by simp [h.ul],h.dl,fun j r L e1 e2=>?_,fun j r L e1 e2=>?_, ?_⟩
 ·by_cases hj:i=j
  ·subst hj
   rw [List.getElem?_set_self hilt] at e1
   rw [List.getElem?_set_self (by rw [← h.ul];exact hilt)] at e2
   cases e1
   cases e2
   exact hL
  ·rw [List.getElem?_set_ne hj] at e1 e2
   refine (h.qu j r L e1 e2).to (own (3+j) ?_ (by omega) (by omega)) (fun _ _ _ r=>RMsg.to r kp)
   show (l.vc :: l.vu :: l.vd :: (l.us ++ l.ds))[3+j]?=some r
   rw [show 3+j=j+1+1+1 by omega]
   simp only [List.getElem?_cons_succ]
   rw [List.getElem?_append_left (List.getElem?_eq_some_iff.1 e1).1];exact e1
 ·refine (h.qd j r L e1 e2).to (own (3+l.us.length+j) ?_ (by omega) (by omega)) (fun _ _ _ r=>RMsg.to r kp)
  show (l.vc :: l.vu :: l.vd :: (l.us ++ l.ds))[3+l.us.length+j]?=some r
  rw [show 3+l.us.length+j=l.us.length+j+1+1+1 by omega]
  simp only [List.getElem?_cons_succ]
  rw [List.getElem?_append_right (by omega),Nat.add_sub_cancel_left];exact e1
 ·have e:({ l with us:=l.us.set i q' }:Lay).rows=l.rows.set (3+i) q':=by
   show l.vc :: l.vu :: l.vd :: (l.us.set i q' ++ l.ds)=_
   rw [show 3+i=i+1+1+1 by omega]
   simp only [List.set_cons_succ]
   rw [List.set_append_left _ _ hilt]
  rw [e]
  refine pairwise_set (fun _ _ x=>x.symm) h.ap (3+i) q' (fun j y hj hy k hk hyk=>?_)
  obtain ⟨_,xs,T,e1,_⟩:=h.own (List.mem_of_getElem? hy) hyk
  have hlt:=lt_of_heap e1
  rcases hs.own k hk with e2 | e2
  ·have hjl:=List.getElem?_eq_some_iff.1 hy
   have hql:l.rows[3+i]?=some q:=by
    show (l.vc :: l.vu :: l.vd :: (l.us ++ l.ds))[3+i]?=some q
    rw [show 3+i=i+1+1+1 by omega]
    simp only [List.getElem?_cons_succ]
    rw [List.getElem?_append_left hilt];exact hi
   have hql':=List.getElem?_eq_some_iff.1 hql
   rcases Nat.lt_or_gt_of_ne hj with h3 | h3
   ·exact hpw j (3+i) hjl.1 hql'.1 h3 k (by rw [hjl.2];exact hyk) (by rw [hql'.2];exact e2)
   ·exact hpw (3+i) j hql'.1 hjl.1 h3 k (by rw [hql'.2];exact e2) (by rw [hjl.2];exact hyk)
  ·omega
theorem WAt.downSet {B g gd n cap i:Nat} {l:Lay} {w w':World} {W:Wd} {q q':Value} {L':List Msg} (h:WAt B g l w W) (hv:l.vd=.slice (some ⟨gd,0,none⟩) n cap) (hi:l.ds[i]?=some q) (hs:QStep w w' gd q q')
  (hu:OwnS B TS 1 RVal w' l.vd (l.ds.set i q')) (hL:OwnS B TM 4 (RMsg (({ l with ds:=l.ds.set i q' }:Lay).N g)) w' q' L'):WAt B g { l with ds:=l.ds.set i q' } w' { W with down:=W.down.set i L' }:=by
 have hgd:l.vd.ownBlock=some gd:=by rw [hv];rfl
 have mq:q ∈ l.rows:=by simp;exact Or.inr (Or.inr (Or.inr (Or.inr (List.mem_of_getElem? hi))))
 have mu:l.vd ∈ l.rows:=by simp
 have kp:Kp (l.N g) (({ l with ds:=l.ds.set i q' }:Lay).N g) w w':=fun k hN hl=>by
  refine ⟨fun hm=>hN ?_,hs.same k hl (fun e=>hN (Or.inr ⟨_,mu,by rw [e];exact hgd⟩)) (fun e=>hN (Or.inr ⟨q,mq,e⟩))⟩
  rcases hm with e | ⟨r,hr,hk⟩
  ·exact Or.inl e
  ·simp only [List.mem_cons,List.mem_append] at hr
   rcases hr with rfl | rfl | rfl | hr | hr
   ·exact Or.inr ⟨_,by simp,hk⟩
   ·exact Or.inr ⟨_,by simp,hk⟩
   ·exact Or.inr ⟨_,by simp,hk⟩
   ·exact Or.inr ⟨r,by simp [hr],hk⟩
   ·rcases List.mem_or_eq_of_mem_set hr with hr | rfl
    ·exact Or.inr ⟨r,by simp [hr],hk⟩
    ·rcases hs.own k hk with e | e
     ·exact Or.inr ⟨q,mq,e⟩
     ·omega
 have hpw:=List.pairwise_iff_getElem.1 h.ap
 -- a row that is neither the queue nor the row of queues
 have own:∀ {r:Value} (j:Nat),l.rows[j]?=some r→j≠3+l.us.length+i→j≠2→∀ k,r.ownBlock=some k→k < w.heap.size→w'.heap[k]?=w.heap[k]?:=fun {r} j hj h1 h2 k hk hl=>by
  refine hs.same k hl (fun e=>?_) (fun e=>?_)
  ·subst e
   have hjl:=(List.getElem?_eq_some_iff.1 hj)
   rcases Nat.lt_or_gt_of_ne h2 with h3 | h3
   ·exact hpw j 2 hjl.1 (by simp) h3 k (by rw [hjl.2];exact hk) hgd
   ·exact hpw 2 j (by simp) hjl.1 h3 k hgd (by rw [hjl.2];exact hk)
  ·have hjl:=(List.getElem?_eq_some_iff.1 hj)
   have hql:l.rows[3+l.us.length+i]?=some q:=by
    show (l.vc :: l.vu :: l.vd :: (l.us ++ l.ds))[3+l.us.length+i]?=some q
    rw [show 3+l.us.length+i=l.us.length+i+1+1+1 by omega]
    simp only [List.getElem?_cons_succ]
    rw [List.getElem?_append_right (by omega),Nat.add_sub_cancel_left];exact hi
   have hql':=List.getElem?_eq_some_iff.1 hql
   rcases Nat.lt_or_gt_of_ne h1 with h3 | h3
   ·exact hpw j (3+l.us.length+i) hjl.1 hql'.1 h3 k (by rw [hjl.2];exact hk) (by rw [hql'.2];exact e)
   ·exact hpw (3+l.us.length+i) j hql'.1 hjl.1 h3 k (by rw [hql'.2];exact e) (by rw [hjl.2];exact hk)
 obtain ⟨a,lg,nn,h1,h2⟩:=h.box
 have hgne:∀ r ∈ l.rows,r.ownBlock≠some g:=fun r hr e=>by
  obtain ⟨_,xs,T,e1,e2⟩:=h.own hr e
  rw [h1] at e1
  cases e1
  rcases e2 with e2 | e2 | e2 <;> exact absurd e2 (by decide)
 have hilt:=(List.getElem?_eq_some_iff.1 hi).1
 refine ⟨h.gB,⟨a,lg,nn,(hs.same g (lt_of_heap h1) (fun e=>hgne _ mu (by rw [e];exact hgd)) (hgne q mq)).trans h1,RSrv.to h2 kp⟩,h.cl.to (own 0 rfl (by omega) (by omega)) (fun _ _ _ r=>RClc.to r kp),h.uR.to (own 1 rfl (by omega) (by omega)) (fun _ _ _ r=>r),hu,h.ul,by simp [h.dl],fun j r L e1 e2=>?_,fun j r L e1 e2=>?_, ?_⟩
 ·refine (h.qu j r L e1 e2).to (own (3+j) ?_ (by have:j < l.us.length:=(List.getElem?_eq_some_iff.1 e1).1;omega) (by omega)) (fun _ _ _ r=>RMsg.to r kp)
  show (l.vc :: l.vu :: l.vd :: (l.us ++ l.ds))[3+j]?=some r
  rw [show 3+j=j+1+1+1 by omega]
  simp only [List.getElem?_cons_succ]
  rw [List.getElem?_append_left (List.getElem?_eq_some_iff.1 e1).1];exact e1
 ·by_cases hj:i=j
  ·subst hj
   rw [List.getElem?_set_self hilt] at e1
   rw [List.getElem?_set_self (by rw [← h.dl];exact hilt)] at e2
   cases e1
   cases e2
   exact hL
  ·rw [List.getElem?_set_ne hj] at e1 e2
   refine (h.qd j r L e1 e2).to (own (3+l.us.length+j) ?_ (by omega) (by omega)) (fun _ _ _ r=>RMsg.to r kp)
   show (l.vc :: l.vu :: l.vd :: (l.us ++ l.ds))[3+l.us.length+j]?=some r
   rw [show 3+l.us.length+j=l.us.length+j+1+1+1 by omega]
   simp only [List.getElem?_cons_succ]
   rw [List.getElem?_append_right (by omega),Nat.add_sub_cancel_left];exact e1
 ·have e:({ l with ds:=l.ds.set i q' }:Lay).rows=l.rows.set (3+l.us.length+i) q':=by
   show l.vc :: l.vu :: l.vd :: (l.us ++ l.ds.set i q')=_
   rw [show 3+l.us.length+i=l.us.length+i+1+1+1 by omega]
   simp only [List.set_cons_succ]
   rw [List.set_append_right _ _ (by omega),Nat.add_sub_cancel_left]
  rw [e]
  refine pairwise_set (fun _ _ x=>x.symm) h.ap (3+l.us.length+i) q' (fun j y hj hy k hk hyk=>?_)
  obtain ⟨_,xs,T,e1,_⟩:=h.own (List.mem_of_getElem? hy) hyk
  have hlt:=lt_of_heap e1
  rcases hs.own k hk with e2 | e2
  ·have hjl:=List.getElem?_eq_some_iff.1 hy
   have hql:l.rows[3+l.us.length+i]?=some q:=by
    show (l.vc :: l.vu :: l.vd :: (l.us ++ l.ds))[3+l.us.length+i]?=some q
    rw [show 3+l.us.length+i=l.us.length+i+1+1+1 by omega]
    simp only [List.getElem?_cons_succ]
    rw [List.getElem?_append_right (by omega),Nat.add_sub_cancel_left];exact hi
   have hql':=List.getElem?_eq_some_iff.1 hql
   rcases Nat.lt_or_gt_of_ne hj with h3 | h3
   ·exact hpw j (3+l.us.length+i) hjl.1 hql'.1 h3 k (by rw [hjl.2];exact hyk) (by rw [hql'.2];exact e2)
   ·exact hpw (3+l.us.length+i) j hql'.1 hjl.1 h3 k (by rw [hql'.2];exact e2) (by rw [hjl.2];exact hyk)
  ·omega
end Go.Proofs.YteikncnldbdfmaaGreatDoor
