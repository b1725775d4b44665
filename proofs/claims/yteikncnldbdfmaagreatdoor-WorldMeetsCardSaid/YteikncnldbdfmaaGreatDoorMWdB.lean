import Derived.Test.YteikncnldbdfmaaGreatDoorMWdA
namespace Go.Mh
open Go Go.RowKit
theorem heap_setCells_other (b:Nat):∀ (vs:List Value) (o:Nat) (w:World) (k:Nat),k≠b→(w.setCells b o vs).heap[k]?=w.heap[k]?
 | [],_,_,_,_=>rfl
 | v :: r,o,w,k,h=>by
  rw [World.setCells,heap_setCells_other b r (o+1) _ k h]
  exact heap_setCell_other _ _ _ _ h
theorem below_setCells {B b:Nat} {w:World} (hB:B≤b):∀ (vs:List Value) (o:Nat) (u:World),Below B w u→Below B w (u.setCells b o vs)
 | [],_,_,h=>h
 | v :: r,o,_,h=>below_setCells hB r (o+1) _ (h.setCell (p:=⟨b,o,none⟩) hB v)
theorem OwnS.putN {base e sz:Nat} {g n cap:Nat} {k:Nat}:∀ (vs:List Value) (j:Nat) (w:World) (css:List (List Value)) (pre old:List Value),OwnS base e sz (fun _ cs c=>cs=c) w (.slice (some ⟨g,0,none⟩) n cap) css→css[k]?=some (pre ++ old)→pre.length=j→old.length=vs.length→j+vs.length=sz→(∀ v ∈ vs,v.oneCell'=true) →
  OwnS base e sz (fun _ cs c=>cs=c) (w.setCells g (k * sz+j) vs) (.slice (some ⟨g,0,none⟩) n cap) (css.set k (pre ++ vs))
 | [],j,w,css,pre,old,h,hk,hp,ho,hs,h1=>by
  cases old with
  | nil=>rw [set_self hk];exact h
  | cons _ _=>simp at ho
 | v :: r,j,w,css,pre,old,h,hk,hp,ho,hs,h1=>by
  cases old with
  | nil=>simp at ho
  | cons x old =>
   have a:=h.set hk (j:=j) (x':=pre ++ v :: old) (R':=fun _ cs c=>cs=c) (by simp at hs;omega) v (h1 v (by simp)) (fun _ _ _ r=>r) (fun cs _ e=>by
    subst e
    rw [List.set_append_right _ _ (by omega),hp,Nat.sub_self]
    rfl)
   have hkl:=(List.getElem?_eq_some_iff.1 hk).1
   have b:=OwnS.putN r (j+1) _ (css.set k (pre ++ v :: old)) (pre ++ [v]) old a (by rw [List.getElem?_set_self hkl];simp) (by simp [hp]) (by simpa using ho) (by simp at hs;omega) (fun u hu=>h1 u (by simp [hu]))
   rw [World.setCells]
   rw [List.set_set] at b
   simpa [Nat.add_assoc] using b
theorem OwnS.put {α:Type} {base e sz:Nat} {R R':World→List Value→α→Prop} {w:World} {g n cap:Nat} {L:List α} (h:OwnS base e sz R w (.slice (some ⟨g,0,none⟩) n cap) L) {k:Nat} {x x':α} (hx:L[k]?=some x) (vs:List Value) (hv:vs.length=sz) (h1:∀ v ∈ vs,v.oneCell'=true)
  (hR:∀ cs y,y ∈ L→R w cs y→R' (w.setCells g (k * sz) vs) cs y) (hRx:R' (w.setCells g (k * sz) vs) vs x'):OwnS base e sz R' (w.setCells g (k * sz) vs) (.slice (some ⟨g,0,none⟩) n cap) (L.set k x'):=by
 obtain ⟨css,ho,h2,h3⟩:=h
 have hkl:k < L.length:=(List.getElem?_eq_some_iff.1 hx).1
 have raw:OwnS base e sz (fun _ cs c=>cs=c) w (.slice (some ⟨g,0,none⟩) n cap) css:=⟨css,by rw [h2];exact ho,rfl,fun i cs c e1 e2=>by
  rw [e1] at e2
  cases e2
  obtain ⟨y,hy⟩:∃ y,L[i]?=some y:=⟨_,List.getElem?_eq_getElem (by rw [← h2];exact (List.getElem?_eq_some_iff.1 e1).1)⟩
  obtain ⟨a,b,c⟩:=h3 i cs y e1 hy
  exact ⟨a,rfl,c⟩⟩
 obtain ⟨cs,hcs⟩:∃ cs,css[k]?=some cs:=⟨_,List.getElem?_eq_getElem (by omega)⟩
 have hcl:=(h3 k cs x hcs hx).1
 have key:=OwnS.putN vs 0 w css [] cs raw (by simpa using hcs) rfl (by omega) (by omega) h1
 simp only [Nat.add_zero,List.nil_append] at key
 obtain ⟨css',ho',h2',h3'⟩:=key
 have e:css'=css.set k vs:=by
  apply List.ext_getElem?
  intro i
  by_cases hi:i < css'.length
  ·have e1:=List.getElem?_eq_getElem hi
   have e2:(css.set k vs)[i]?=some (css.set k vs)[i]:=List.getElem?_eq_getElem (by omega)
   rw [e1,e2,(h3' i _ _ e1 e2).2.1]
  ·rw [List.getElem?_eq_none (by omega),List.getElem?_eq_none (by omega)]
 subst e
 refine ⟨css.set k vs,by rw [List.length_set,← h2];simpa using ho',by simp [h2],fun i cs' y hi hy=>?_⟩
 by_cases hik:i=k
 ·subst hik
  rw [List.getElem?_set_self (by omega)] at hi hy
  cases hi
  cases hy
  exact ⟨hv,hRx,h1⟩
 ·rw [List.getElem?_set_ne (by omega)] at hi hy
  obtain ⟨a,b,c⟩:=h3 i cs' y hi hy
  exact ⟨a,hR cs' y (List.mem_of_getElem? hy) b,c⟩
end Go.Mh
namespace Go.Proofs.YteikncnldbdfmaaGreatDoor
open Go.RowKit Go.Mh
theorem getD_some {α:Type} {l:List α} {k:Nat} {x d:α} (h:l[k]?=some x):l.getD k d=x:=by simp [List.getD_eq_getElem?_getD,h]
theorem RClc_one (F:Nat→Prop) {w:World} {cs:List Value} {c:Cl} (h:RClc F w cs c):∀ v ∈ cs,v.oneCell'=true:=by
 obtain ⟨b,n,s,g,rfl,h1,h2,h3,h4⟩:=h
 obtain ⟨_,_,rfl,_⟩:=RdS.len h1
 obtain ⟨_,_,rfl,_⟩:=RdS.len h2
 obtain ⟨_,_,rfl,_⟩:=RdS.len h3
 obtain ⟨_,_,rfl,_⟩:=RdS.len h4
 intro v hv
 simp at hv
 rcases hv with rfl | rfl | rfl | rfl | rfl | rfl | rfl <;> rfl
theorem WAt.putClient {B g:Nat} {l:Lay} {w:World} {W:Wd} (h:WAt B g l w W) {k gc cap n:Nat} {c c':Cl} (hv:l.vc=.slice (some ⟨gc,0,none⟩) n cap) (hc:W.cl[k]?=some c) (cs:List Value) (hr:RClc (l.N g) w cs c'):WAt B g l (w.setCells gc (k * 7) cs) (setC W k c'):=by
 have hcl:=h.cl
 rw [hv] at hcl
 have hm:Man g l.rows gc:=Or.inr ⟨l.vc,by simp,by rw [hv];rfl⟩
 have kp:Kp (l.N g) (l.N g) w (w.setCells gc (k * 7) cs):=fun i hN _=>⟨hN,heap_setCells_other gc cs _ w i (fun e=>hN (by rw [e];exact hm))⟩
 have e:setC W k c'={ W with cl:=W.cl.set k c' }:=by unfold setC;rw [modL_set _ k W.cl hc]
 rw [e]
 refine h.clients hv (fun i _ hne=>heap_setCells_other gc cs _ w i hne) ?_
 rw [hv]
 have hlen:cs.length=7:=by obtain ⟨_,_,_,_,rfl,_⟩:=hr;rfl
 exact hcl.put hc cs hlen (RClc_one _ hr) (fun cs y _ r=>RClc.to r kp) (RClc.to hr kp)
theorem kpClient {g gc n cap o:Nat} {l:Lay} {w:World} (hv:l.vc=.slice (some ⟨gc,0,none⟩) n cap) (cs:List Value):Kp (l.N g) (l.N g) w (w.setCells gc o cs):=fun i hN _=>⟨hN,heap_setCells_other gc cs _ w i (fun e=>hN (by rw [e];exact Or.inr ⟨l.vc,by simp,by rw [hv];rfl⟩))⟩
abbrev opSm (o:List Pt):Prop:=o.length≤100000∧∀ p ∈ o,p.its.length≤100000
set_option maxRecDepth 100000 in
set_option maxHeartbeats 4000000 in
theorem wdUp_any (B g:Nat) (l:Lay) (w:World) (W:Wd) (k:Nat) (h:WAt B g l w W) (hk:k < W.cl.length) (hul:W.up.length=W.cl.length) (hdl:W.down.length=W.cl.length) (hsm:opSm (clAt W k).sent) :
  Calls Tryz.prog 158 #[.pointer (some ⟨g,0,none⟩),.int .i64 k] w fun e w'=>e=.returned (.tuple #[])∧(∃ l',WAt B g l' w' (upW W k)∧Kp (l.N g) (l'.N g) w w')∧Below B w w':=by
 obtain ⟨gc,gu,gd,cc,cu,cd,c,b,n,s,hh,uq,dq,H⟩:=h.facts hk hul hdl
 have ec:clAt W k=c:=getD_some H.hc
 obtain ⟨L,hL⟩:∃ L,W.up[k]?=some L:=⟨_,List.getElem?_eq_getElem (by omega)⟩
 have eL:upAt W k=L:=getD_some hL
 rw [ec] at hsm
 have hq:=h.qu k uq L H.hu hL
 obtain ⟨sa,sc,rfl,_⟩:=RdS.len H.rs
 obtain ⟨ua,uc,rfl,_⟩:=RdS.len hq.rd
 by_cases h0:c.joined=false∨c.sent=[]
 ·have eW:upW W k=W:=by unfold upW;rw [ec,if_pos h0]
  rw [eW]
  have x3:=H.b3
  have x6:=H.c6
  have x4:=H.c4
  have HW:=Lib.hid h
  clear h H hsm hq hL eL ec eW
  cases hj:c.joined with
  | false =>
   rw [hj] at x6
   clear h0 x4
   go_enter Tryz.func158,Tryz.ntmps158
   go_wp2_with fail
   refine bodyPost_ret (results_none rfl _ _ _) rfl ?_
   exact ⟨rfl,⟨_,HW.out,Kp.weak w fun _ h=>h⟩,Below.refl _ _⟩
  | true =>
   rw [hj] at x6
   have hs:c.sent=[]:=by rcases h0 with h0 | h0;rw [hj] at h0;cases h0;exact h0
   rw [hs] at x4
   clear h0 hs
   go_enter Tryz.func158,Tryz.ntmps158
   go_wp2_with fail
   refine bodyPost_ret (results_none rfl _ _ _) rfl ?_
   exact ⟨rfl,⟨_,HW.out,Kp.weak w fun _ h=>h⟩,Below.refl _ _⟩
 ·have hj:c.joined=true:=by cases e:c.joined;exact absurd (Or.inl e) h0;rfl
  have hs:c.sent≠[]:=fun e=>h0 (Or.inr e)
  by_cases h30:30≤L.length
  ·have eW:upW W k=cutW W k:=by unfold upW;rw [ec,if_neg h0,eL,if_pos h30]
   rw [eW]
   have C:=Lib.hid (wdCut_any B g l w W k h hk hul hdl)
   have x3:=H.b3
   have x4:=H.b4
   have xu:=H.u
   have x6:=H.c6
   have xs:=H.c4
   rw [hj] at x6
   have hs0:((c.sent.length:Int) == 0)=false:=by
    rw [beq_eq_false_iff_ne]
    cases hc:c.sent with
    | nil=>exact absurd hc hs
    | cons _ _=>simp;omega
   have h30':decide ((30:Int)≤(L.length:Int))=true:=by simp;omega
   clear h H hsm hq hL eL ec eW h0 hj hs h30
   go_enter Tryz.func158,Tryz.ntmps158
   go_wp2_with fail
   refine C.out.mono ?_
   rintro e w' ⟨rfl,hl,hb⟩
   go_wp2_with fail
   refine bodyPost_ret (results_none rfl _ _ _) rfl ?_
   exact ⟨rfl,hl,hb⟩
  ·have eW:upW W k={ W with up:=W.up.set k (L ++ [⟨c.rev,⟨k,c.seq,c.sent⟩⟩]) }:=by unfold upW;rw [ec,if_neg h0,eL,if_neg h30,modL_set _ k W.up hL]
   rw [eW]
   exact wdUp_send B g l w W k gc gu gd cc cu cd c b n _ hh _ dq L h H hk hj hs hsm hL (by omega)
end Go.Proofs.YteikncnldbdfmaaGreatDoor
