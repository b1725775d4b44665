import Derived.Test.YteikncnldbdfmaaGreatDoorMPl
namespace Go.Mh
def hapK (kind:Int) (k:Nat):Hap:=⟨kind,k,0,[],[]⟩
def rep (f:Wd→Wd × Int):Nat→Wd→Wd
 | 0,w=>w
 | n+1,w=>if (f w).2≠0 then w else rep f n (f w).1
def passW (pg:Bs→List It × Int) (k:Nat) (w:Wd):Wd:=rep (doW pg · (hapK 4 k)) 70 (rep (doW pg · (hapK 3 k)) 70 (rep (doW pg · (hapK 6 k)) 70 w))
def passes (pg:Bs→List It × Int) (w:Wd):Nat→Wd
 | 0=>w
 | j+1=>passW pg j (passes pg w j)
def calmN (pg:Bs→List It × Int):Nat→Wd→Wd
 | 0,w=>w
 | j+1,w=>calmN pg j (passes pg w w.cl.length)
section
variable {pg:Bs→List It × Int} {w:Wd} {k:Nat}
theorem do_kind (h:Inv w) (hk:k < w.cl.length):(doW pg w (hapK 3 k)=if (serveW w k).2≠0 then (wd0,(serveW w k).2) else serveW w k)∧(doW pg w (hapK 4 k)=if (hearW w k).2≠0 then (wd0,(hearW w k).2) else hearW w k) ∧
  (doW pg w (hapK 6 k)=if (joinW w k).2≠0 then (wd0,(joinW w k).2) else joinW w k):=by
 have h1:∀ kind:Int,¬ ((hapK kind k).client < 0∨(w.cl.length:Int)≤(hapK kind k).client):=fun kind=>by simp [hapK];omega
 have h2:∀ kind:Int,(hapK kind k).client.toNat=k:=fun kind=>by simp [hapK]
 refine ⟨?_, ?_, ?_⟩
 ·have e:stepW pg w (hapK 3 k)=serveW w k:=by unfold stepW;rw [if_neg (h1 3),if_neg (show ¬ (hapK 3 k).kind=1 by simp [hapK]),if_neg (show ¬ (hapK 3 k).kind=2 by simp [hapK]),if_pos (show (hapK 3 k).kind=3 from rfl),h2]
  rw [(inv_do h).1,e]
 ·have e:stepW pg w (hapK 4 k)=hearW w k:=by unfold stepW;rw [if_neg (h1 4),if_neg (show ¬ (hapK 4 k).kind=1 by simp [hapK]),if_neg (show ¬ (hapK 4 k).kind=2 by simp [hapK]),if_neg (show ¬ (hapK 4 k).kind=3 by simp [hapK]),if_pos (show (hapK 4 k).kind=4 from rfl),h2]
  rw [(inv_do h).1,e]
 ·have e:stepW pg w (hapK 6 k)=joinW w k:=by unfold stepW;rw [if_neg (h1 6),if_neg (show ¬ (hapK 6 k).kind=1 by simp [hapK]),if_neg (show ¬ (hapK 6 k).kind=2 by simp [hapK]),if_neg (show ¬ (hapK 6 k).kind=3 by simp [hapK]),if_neg (show ¬ (hapK 6 k).kind=4 by simp [hapK]),if_neg (show ¬ (hapK 6 k).kind=5 by simp [hapK]),if_pos (show (hapK 6 k).kind=6 from rfl),h2]
  rw [(inv_do h).1,e]
theorem rep_stop {f:Wd→Wd × Int} (n:Nat) (h:(f w).2≠0):rep f n w=w:=by
 cases n with
 | zero=>rfl
 | succ n=>simp only [rep,if_pos h]
theorem rep_go {f:Wd→Wd × Int} (n:Nat) {w':Wd} (h:f w=(w',0)):rep f (n+1) w=rep f n w':=by
 simp [rep,h]
theorem step_len (w:Wd) (k:Nat) (c:Cl) (uq dq:List Msg):(put3 w k c uq dq).cl.length=w.cl.length:=by simp [put3,modL_len]
theorem upW_len:(upW w k).cl.length=w.cl.length∧(upW w k).s=w.s:=by
 unfold upW
 split
 ·exact ⟨rfl,rfl⟩
 ·split
  ·rw [cutW_put];exact ⟨step_len ..,rfl⟩
  ·exact ⟨rfl,rfl⟩
theorem upW_trip {ex:Option Nat} (h:InvX ex w) (hk:k < w.cl.length) (hu:(upAt w k).length < 30) :
  (∀ i,i≠k→trip (upW w k) i=trip w i)∧clAt (upW w k) k=clAt w k∧downAt (upW w k) k=downAt w k∧(upAt (upW w k) k).length≤(upAt w k).length+1:=by
 unfold upW
 split
 ·exact ⟨fun i _=>rfl,rfl,rfl,by omega⟩
 ·rw [if_neg (by omega),push_put]
  have ht:=put3_trip h.shp hk (clAt w k) (upAt w k ++ [⟨(clAt w k).rev,⟨k,(clAt w k).seq,(clAt w k).sent⟩⟩]) (downAt w k)
  refine ⟨fun i hi=>by rw [ht,if_neg hi], ?_⟩
  have h0:=ht k
  simp only [if_true,trip,Prod.mk.injEq] at h0
  obtain ⟨e1,e2,e3⟩:=h0
  exact ⟨e1,e3,by rw [e2];simp⟩
theorem rep_join (h:Inv w) (hk:k < w.cl.length) (n:Nat):∃ w',rep (doW pg · (hapK 6 k)) (n+1) w=w'∧Inv w'∧w'.cl.length=w.cl.length∧w'.s=w.s∧(∀ i,i≠k→trip w' i=trip w i)∧(clAt w' k).joined=true ∧
  ((clAt w k).joined=true→w'=w)∧((clAt w k).joined=false→(upAt w' k).length≤1∧(downAt w' k).length≤w.s.log.length):=by
 have hd:=(do_kind (pg:=pg) h hk).2.2
 cases hj:(clAt w k).joined with
 | true =>
  have e:joinW w k=(w,7):=by unfold joinW;rw [if_pos hj]
  refine ⟨w,rep_stop _ (by rw [hd,e];simp),h,rfl,rfl,fun _ _=>rfl,hj,fun _=>rfl,fun e=>by simp at e⟩
 | false =>
  obtain ⟨h1,h2⟩:=join_put h hk hj
  have hI:Inv (upW (put3 w k { clAt w k with joined:=true } [] (tellL (clAt w k).rev.toNat (w.s.log.drop (clAt w k).rev.toNat))) k):=h1.upK (by rw [step_len];exact hk)
  have ht:=put3_trip h.shp hk { clAt w k with joined:=true } [] (tellL (clAt w k).rev.toNat (w.s.log.drop (clAt w k).rev.toNat))
  have h0:=ht k
  simp only [if_true,trip,Prod.mk.injEq] at h0
  obtain ⟨e1,e2,e3⟩:=h0
  obtain ⟨u1,u2,u3,u4⟩:=upW_trip h1 (by rw [step_len];exact hk) (by rw [e2];simp)
  obtain ⟨l1,l2⟩:=upW_len (w:=put3 w k { clAt w k with joined:=true } [] (tellL (clAt w k).rev.toNat (w.s.log.drop (clAt w k).rev.toNat))) (k:=k)
  rw [h2] at hd
  have hjj:(clAt (upW (put3 w k { clAt w k with joined:=true } [] (tellL (clAt w k).rev.toNat (w.s.log.drop (clAt w k).rev.toNat))) k) k).joined=true:=by rw [u2,e1]
  refine ⟨_, ?_,hI,by rw [l1,step_len],by rw [l2];rfl,fun i hi=>by rw [u1 i hi,ht,if_neg hi],hjj,fun e=>by simp at e,fun _=>⟨by rw [e2] at u4;simpa using u4,by rw [u3,e3,tellL_len];simp⟩⟩
  rw [if_neg (by simp)] at hd
  rw [rep_go n hd]
  have hd2:=(do_kind (pg:=pg) hI (by rw [l1,step_len];exact hk)).2.2
  refine rep_stop n ?_
  rw [hd2]
  unfold joinW
  rw [if_pos hjj]
  simp
theorem down1_room {c:Cl} {uq dq:List Msg} (hj:c.joined=true) (hl:dq.length < 90) (m:Msg):down1 (c,uq,dq) m=(c,uq,dq ++ [m]):=by
 unfold down1
 simp only [hj]
 rw [if_neg (by simp),if_neg (by omega)]
theorem serve_step (h:Inv w) (hk:k < w.cl.length) {m:Msg} {q:List Msg} (hq:upAt w k=m :: q):∃ w' g,serveW w k=(w',0)∧Inv w'∧w'.cl.length=w.cl.length∧w'.s.log.length=w.s.log.length+g ∧
  (∀ i,i≠k→i < w.cl.length→((clAt w i).joined=false→trip w' i=trip w i)∧((clAt w i).joined=true→(downAt w i).length < 90→clAt w' i=clAt w i∧upAt w' i=upAt w i∧(downAt w' i).length=(downAt w i).length+g)) ∧
  ((downAt w k).length < 90→clAt w' k=clAt w k∧upAt w' k=q∧(downAt w' k).length≤(downAt w k).length+1) ∧
  ((clAt w' k).joined=false∨(clAt w' k=clAt w k∧upAt w' k=q)):=by
 have hci:=h.ci k hk
 have hj:(clAt w k).joined=true:=by
  cases hj:(clAt w k).joined with
  | true=>rfl
  | false=>have:=(hci.out hj).1;rw [hq] at this;simp at this
 have hsh:=h.shp
 have hsh1:Shp (put3 w k (clAt w k) q (downAt w k)) w.cl.length:=put3_shp hsh _ _ _
 have hI:∀ w',serveW w k=(w',0)→Inv w':=fun w' e=>by have:=inv_serve h hk (by rw [e]);rw [e] at this;exact this
 have ht:=put3_trip hsh hk (clAt w k) q (downAt w k)
 rcases serve_cases hq with ⟨_,e⟩ | ⟨_,e⟩ | ⟨o,_,_,e⟩
 ·obtain ⟨h1,h2⟩:=downW_shp (k:=k) hsh1 ⟨0,⟨k,m.e.seq,[]⟩⟩
  have hd:=downW_trip hsh1 hk ⟨0,⟨k,m.e.seq,[]⟩⟩
  have h0:=hd k
  rw [if_pos rfl,ht,if_pos rfl] at h0
  refine ⟨_,0,e,hI _ e,h1.cl,by rw [h2];rfl,fun i hi hil=>?_,fun hl=>?_, ?_⟩
  ·have hdi:=hd i
   rw [if_neg hi,ht,if_neg hi] at hdi
   simp only [trip,Prod.mk.injEq] at hdi
   refine ⟨fun _=>by simp only [trip,Prod.mk.injEq];exact hdi,fun _ _=>⟨hdi.1,hdi.2.1,by rw [hdi.2.2];rfl⟩⟩
  ·rw [down1_room hj hl] at h0
   simp only [trip,Prod.mk.injEq] at h0
   exact ⟨h0.1,h0.2.1,by rw [h0.2.2];simp⟩
  ·unfold down1 at h0
   simp only [hj] at h0
   rw [if_neg (by simp)] at h0
   split at h0
   ·simp only [trip,Prod.mk.injEq] at h0;left;rw [h0.1]
   ·simp only [trip,Prod.mk.injEq] at h0;right;exact ⟨h0.1,h0.2.1⟩
 ·have h0:=ht k
  rw [if_pos rfl] at h0
  simp only [trip,Prod.mk.injEq] at h0
  refine ⟨_,0,e,hI _ e,step_len ..,rfl,fun i hi hil=>?_,fun _=>⟨h0.1,h0.2.1,by rw [h0.2.2];omega⟩,Or.inr ⟨h0.1,h0.2.1⟩⟩
  have hdi:=ht i
  rw [if_neg hi] at hdi
  simp only [trip,Prod.mk.injEq] at hdi
  refine ⟨fun _=>by simp only [trip,Prod.mk.injEq];exact hdi,fun _ _=>⟨hdi.1,hdi.2.1,by rw [hdi.2.2];rfl⟩⟩
 ·have hsh2:Shp { put3 w k (clAt w k) q (downAt w k) with s:=⟨w.s.first,w.s.log ++ [⟨k,m.e.seq,o⟩],doA w.s.now (acts o)⟩ } w.cl.length:=⟨hsh1.cl,hsh1.ul,hsh1.dl⟩
  obtain ⟨h1,h2,h3⟩:=allDown_trip hsh2 ⟨((w.s.log.length+1:Nat):Int),⟨k,m.e.seq,o⟩⟩ w.cl.length (Nat.le_refl _)
  have ht2:∀ i,trip { put3 w k (clAt w k) q (downAt w k) with s:=⟨w.s.first,w.s.log ++ [⟨k,m.e.seq,o⟩],doA w.s.now (acts o)⟩ } i=if i=k then (clAt w k,q,downAt w k) else trip w i:=fun i=>ht i
  have h0:=h3 k
  rw [if_pos hk,ht2,if_pos rfl] at h0
  refine ⟨_,1,e,hI _ e,h1.cl,by rw [h2];simp,fun i hi hil=>?_,fun hl=>?_, ?_⟩
  ·have hdi:=h3 i
   rw [if_pos hil,ht2,if_neg hi] at hdi
   refine ⟨fun hji=>?_,fun hji hl=>?_⟩
   ·rw [hdi];unfold down1;rw [if_pos hji]
   ·rw [down1_room hji hl] at hdi
    simp only [trip,Prod.mk.injEq] at hdi
    exact ⟨hdi.1,hdi.2.1,by rw [hdi.2.2];simp⟩
  ·rw [down1_room hj hl] at h0
   simp only [trip,Prod.mk.injEq] at h0
   exact ⟨h0.1,h0.2.1,by rw [h0.2.2];simp⟩
  ·unfold down1 at h0
   simp only [hj] at h0
   rw [if_neg (by simp)] at h0
   split at h0
   ·simp only [trip,Prod.mk.injEq] at h0;left;rw [h0.1]
   ·simp only [trip,Prod.mk.injEq] at h0;right;exact ⟨h0.1,h0.2.1⟩
theorem rep_serve (n:Nat):∀ (w:Wd),Inv w→k < w.cl.length→(upAt w k).length≤n→∃ w',rep (doW pg · (hapK 3 k)) n w=w'∧Inv w'∧w'.cl.length=w.cl.length∧w.s.log.length≤w'.s.log.length ∧
  (∀ i,i≠k→i < w.cl.length→((clAt w i).joined=false→trip w' i=trip w i)∧((clAt w i).joined=true→(downAt w i).length+60≤89+w.s.log.length→clAt w' i=clAt w i∧upAt w' i=upAt w i∧(downAt w' i).length+w.s.log.length=(downAt w i).length+w'.s.log.length)) ∧
  upAt w' k=[]∧((downAt w k).length+(upAt w k).length≤90→clAt w' k=clAt w k∧(downAt w' k).length≤(downAt w k).length+(upAt w k).length) ∧
  ((clAt w' k).joined=false∨clAt w' k=clAt w k)∧(upAt w k=[]→w'=w):=by
 induction n with
 | zero =>
  intro w h hk hl
  have hu:upAt w k=[]:=List.eq_nil_of_length_eq_zero (by omega)
  exact ⟨w,rfl,h,rfl,Nat.le_refl _,fun i _ _=>⟨fun _=>rfl,fun _ _=>⟨rfl,rfl,rfl⟩⟩,hu,fun _=>⟨rfl,by omega⟩,Or.inr rfl,fun _=>rfl⟩
 | succ n ih =>
  intro w h hk hl
  have hd:=(do_kind (pg:=pg) h hk).1
  cases hq:upAt w k with
  | nil =>
   have e:serveW w k=(w,7):=by unfold serveW;rw [hq]
   exact ⟨w,rep_stop _ (by rw [hd,e];simp),h,rfl,Nat.le_refl _,fun i _ _=>⟨fun _=>rfl,fun _ _=>⟨rfl,rfl,rfl⟩⟩,hq,fun _=>⟨rfl,by omega⟩,Or.inr rfl,fun _=>rfl⟩
  | cons m q =>
   obtain ⟨w1,g,e,hI,hL,hG,hoth,hroom,hany⟩:=serve_step h hk hq
   rw [e,if_neg (by simp)] at hd
   have hql:(m :: q).length≤n+1:=by rw [← hq];exact hl
   simp at hql
   have hu1:(upAt w1 k).length≤n:=by
    rcases hany with hany | hany
    ·have:=((hI.ci k (by omega)).out hany).1;rw [this];simp
    ·rw [hany.2];exact hql
   obtain ⟨w',r1,r2,r3,r4,r5,r6,r7,r8,_⟩:=ih w1 hI (by omega) hu1
   have hsl:=hI.srv.len
   refine ⟨w',by rw [rep_go n hd];exact r1,r2,by omega,by omega,fun i hi hil=>?_,r6,fun hr=>?_, ?_,fun e=>by simp at e⟩
   ·obtain ⟨o1,o2⟩:=hoth i hi hil
    obtain ⟨p1,p2⟩:=r5 i hi (by omega)
    refine ⟨fun hj=>?_,fun hj hb=>?_⟩
    ·have e1:=o1 hj
     have hj1:(clAt w1 i).joined=false:=by
      have:=e1;simp only [trip,Prod.mk.injEq] at this;rw [this.1];exact hj
     rw [p1 hj1,e1]
    ·have hsl0:=h.srv.len
     obtain ⟨a1,a2,a3⟩:=o2 hj (by omega)
     obtain ⟨b1,b2,b3⟩:=p2 (by rw [a1];exact hj) (by omega)
     exact ⟨b1.trans a1,b2.trans a2,by omega⟩
   ·simp only [List.length_cons] at hr
    obtain ⟨a1,a2,a3⟩:=hroom (by omega)
    obtain ⟨b1,b2⟩:=r7 (by rw [a2];omega)
    rw [a2] at b2
    exact ⟨b1.trans a1,by simp only [List.length_cons];omega⟩
   ·rcases hany with hany | hany
    ·left
     have hu:upAt w1 k=[]:=((hI.ci k (by omega)).out hany).1
     rcases r8 with r8 | r8
     ·exact r8
     ·rw [r8];exact hany
    ·rcases r8 with r8 | r8
     ·exact Or.inl r8
     ·exact Or.inr (r8.trans hany.1)
theorem rep_hear (n:Nat):∀ (w:Wd),Inv w→k < w.cl.length→(clAt w k).joined=true→(upAt w k).length+(if (clAt w k).held=[] then 0 else 1)≤1→∃ w',rep (doW pg · (hapK 4 k)) n w=w'∧Inv w'∧w'.cl.length=w.cl.length∧w'.s=w.s ∧
  (∀ i,i≠k→trip w' i=trip w i)∧(clAt w' k).joined=true∧(downAt w' k).length=(downAt w k).length - n∧(upAt w' k).length+(if (clAt w' k).held=[] then 0 else 1)≤1 ∧
  (upAt w' k=upAt w k∨(clAt w' k).held=[])∧((clAt w k).held=[]→(clAt w' k).held=[]∧upAt w' k=upAt w k)∧((clAt w k).sent=[]→(clAt w' k).sent=[]):=by
 induction n with
 | zero =>
  intro w h hk hj hp
  exact ⟨w,rfl,h,rfl,rfl,fun _ _=>rfl,hj,rfl,hp,Or.inl rfl,fun e=>⟨e,rfl⟩,fun e=>e⟩
 | succ n ih =>
  intro w h hk hj hp
  have hd:=(do_kind (pg:=pg) h hk).2.1
  cases hq:downAt w k with
  | nil =>
   have e:hearW w k=(w,7):=by unfold hearW;rw [hq]
   exact ⟨w,rep_stop _ (by rw [hd,e];simp),h,rfl,rfl,fun _ _=>rfl,hj,by rw [hq];simp,hp,Or.inl rfl,fun e=>⟨e,rfl⟩,fun e=>e⟩
  | cons m q =>
   have hci:=h.ci k hk
   have hfl:=h.fly k hk (by simp)
   rw [hq] at hci hfl
   obtain ⟨y,b,h1,h2,h3,h4,h5,h6,_,_,h7⟩:=CI.hear h.srv hci hfl hj
   have hw1:setC { w with down:=modL (fun _=>q) k w.down } k y=put3 w k y (upAt w k) q:=by
    rw [popD_put,setC_put]
    obtain ⟨_,e2,e3⟩:=put3_at h hk (clAt w k) (upAt w k) q k
    rw [e2,e3,put3_put3]
    simp
   have he:hearW w k=(if b=true then upW (put3 w k y (upAt w k) q) k else put3 w k y (upAt w k) q,0):=by
    unfold hearW
    rw [hq]
    simp only [h1]
    rw [if_neg (by simp),hw1]
   have ht:=put3_trip h.shp hk y (upAt w k) q
   have h0:=ht k
   rw [if_pos rfl] at h0
   simp only [trip,Prod.mk.injEq] at h0
   obtain ⟨e1,e2,e3⟩:=h0
   have hul:(upAt w k).length≤1:=by omega
   have hI:Inv (if b=true then upW (put3 w k y (upAt w k) q) k else put3 w k y (upAt w k) q):=by
    have:=inv_hear h hk (by rw [he]);rw [he] at this;exact this
   -- the world after this one
   obtain ⟨w1,hw1e,hL,hS,hO,hC,hD,hP,hU,hH⟩:∃ w1,(if b=true then upW (put3 w k y (upAt w k) q) k else put3 w k y (upAt w k) q)=w1∧w1.cl.length=w.cl.length∧w1.s=w.s∧(∀ i,i≠k→trip w1 i=trip w i)∧clAt w1 k=y∧downAt w1 k=q ∧
     (upAt w1 k).length+(if y.held=[] then 0 else 1)≤1∧(upAt w1 k=upAt w k∨y.held=[])∧((clAt w k).held=[]→upAt w1 k=upAt w k):=by
    cases b with
    | false =>
     refine ⟨_,rfl,step_len ..,rfl,fun i hi=>by simp only [Bool.false_eq_true,if_false];rw [ht,if_neg hi],e1,e3, ?_,Or.inl e2,fun _=>e2⟩
     simp only [Bool.false_eq_true,if_false]
     rw [e2]
     by_cases hh:(clAt w k).held=[]
     ·rw [if_pos (h5 hh).2];rw [if_pos hh] at hp;exact hp
     ·rw [if_neg hh] at hp;split <;> omega
    | true =>
     have hX:InvX (some k) (put3 w k y (upAt w k) q):=h.put3 h2 (some k) (fun e=>absurd rfl e) (fun i hi e=>by simp at e)
     obtain ⟨u1,u2,u3,u4⟩:=upW_trip hX (by rw [step_len];exact hk) (by rw [e2];omega)
     obtain ⟨l1,l2⟩:=upW_len (w:=put3 w k y (upAt w k) q) (k:=k)
     have hhn:(clAt w k).held≠[]:=fun e=>by have:=(h5 e).1;simp at this
     rw [if_neg hhn] at hp
     refine ⟨_,rfl,by simp only [if_true];rw [l1,step_len],by simp only [if_true];rw [l2];rfl,fun i hi=>by simp only [if_true];rw [u1 i hi,ht,if_neg hi],by simp only [if_true];rw [u2,e1],by simp only [if_true];rw [u3,e3], ?_,Or.inr (h6 rfl),fun e=>absurd e hhn⟩
     simp only [if_true]
     rw [e2] at u4
     rw [if_pos (h6 rfl)]
     omega
   rw [hw1e] at hI he
   rw [he,if_neg (by simp)] at hd
   obtain ⟨w',r1,r2,r3,r4,r5,r6,r7,r8,r9,r10,r11⟩:=ih w1 hI (by omega) (by rw [hC,h4]) (by rw [hC];exact hP)
   refine ⟨w',by rw [rep_go n hd];exact r1,r2,by omega,r4.trans hS,fun i hi=>(r5 i hi).trans (hO i hi),r6,by rw [r7,hD];simp,r8, ?_,fun hh=>?_,fun hs=>r11 (by rw [hC];exact h7 hs)⟩
   ·rcases r9 with r9 | r9
    ·rcases hU with hU | hU
     ·exact Or.inl (r9.trans hU)
     ·exact Or.inr (r10 (by rw [hC];exact hU)).1
    ·exact Or.inr r9
   ·have hy:=(h5 hh).2
    obtain ⟨a,b⟩:=r10 (by rw [hC];exact hy)
    exact ⟨a,b.trans (hH hh)⟩
structure Pass (pg:Bs→List It × Int) (k:Nat) (w w':Wd):Prop where
 eq:passW pg k w=w'
 inv:Inv w'
 len:w'.cl.length=w.cl.length
 log:w.s.log.length≤w'.s.log.length
 off:∀ i,i≠k→i < w.cl.length→(clAt w i).joined=false→trip w' i=trip w i
 on:∀ i,i≠k→i < w.cl.length→(clAt w i).joined=true→(downAt w i).length+60≤89+w.s.log.length→clAt w' i=clAt w i∧upAt w' i=upAt w i∧(downAt w' i).length+w.s.log.length=(downAt w i).length+w'.s.log.length
theorem pass_any (h:Inv w) (hk:k < w.cl.length):∃ w',Pass pg k w w'∧((clAt w' k).joined=false∨((upAt w' k).length≤1∧(downAt w' k).length≤20)) ∧
  (((clAt w k).joined=false∨((upAt w k).length≤1∧(downAt w k).length≤89))→(clAt w' k).joined=true∧(upAt w' k).length≤1∧((downAt w' k).length=0∨((clAt w k).joined=true∧(downAt w' k).length+69≤(downAt w k).length)) ∧
   ((clAt w k).joined=true→(clAt w k).held=[]→(clAt w' k).held=[]∧upAt w' k=[])∧((downAt w' k).length=0→(clAt w' k).held=[])∧((downAt w' k).length=0→upAt w' k=[]→(clAt w' k).sent=[])) ∧
  ((clAt w k).joined=true→upAt w k=[]→w'.s=w.s∧∀ i,i≠k→trip w' i=trip w i):=by
 obtain ⟨w1,a1,a2,a3,a4,a5,a6,a7,a8⟩:=rep_join (pg:=pg) h hk 69
 have hci1:=a2.ci k (by omega)
 obtain ⟨w2,b1,b2,b3,b4,b5,b6,b7,b8,b9⟩:=rep_serve (pg:=pg) (k:=k) 70 w1 a2 (by omega) (by have:=hci1.ul;omega)
 have hlog:w1.s.log.length=w.s.log.length:=by rw [a4]
 have hlen60:=h.srv.len
 have hoff:∀ i,i≠k→i < w.cl.length→(clAt w i).joined=false→trip w2 i=trip w i:=fun i hi hil hj=>by
  have e:=a5 i hi
  have e':=e
  simp only [trip,Prod.mk.injEq] at e'
  rw [(b5 i hi (by omega)).1 (by rw [e'.1];exact hj),e]
 have hon:∀ i,i≠k→i < w.cl.length→(clAt w i).joined=true→(downAt w i).length+60≤89+w.s.log.length→clAt w2 i=clAt w i∧upAt w2 i=upAt w i∧(downAt w2 i).length+w.s.log.length=(downAt w i).length+w2.s.log.length:=fun i hi hil hj hb=>by
  have e:=a5 i hi
  simp only [trip,Prod.mk.injEq] at e
  obtain ⟨e1,e2,e3⟩:=e
  have:=(b5 i hi (by omega)).2 (by rw [e1];exact hj) (by rw [e3,hlog];exact hb)
  rw [e1,e2,e3,hlog] at this
  exact this
 by_cases hj2:(clAt w2 k).joined=true
 ·have hp:(upAt w2 k).length+(if (clAt w2 k).held=[] then 0 else 1)≤1:=by rw [b6];split <;> simp
  obtain ⟨w3,c1,c2,c3,c4,c5,c6,c7,c8,c9,c10,c11⟩:=rep_hear (pg:=pg) (k:=k) 70 w2 b2 (by omega) hj2 hp
  have hup1:(upAt w3 k).length≤1:=by omega
  have hd2:=(b2.ci k (by omega)).dl
  refine ⟨w3,⟨?_,c2,by omega,by rw [c4];omega,fun i hi hil hj=>(c5 i hi).trans (hoff i hi hil hj),fun i hi hil hj hb=>?_⟩,Or.inr ⟨hup1,by omega⟩,fun hyp=>?_,fun hj hu=>?_⟩
  ·unfold passW;rw [a1,b1,c1]
  ·have e:=c5 i hi
   simp only [trip,Prod.mk.injEq] at e
   rw [e.1,e.2.1,e.2.2,c4]
   exact hon i hi hil hj hb
  ·have hc3:=c2.ci k (by omega)
   have hf3:=c2.fly k (by omega) (by simp)
   have hstart:(upAt w1 k).length≤1∧(downAt w1 k).length≤89∧((clAt w k).joined=false→(downAt w1 k).length≤60)∧((clAt w k).joined=true→w1=w):=by
    cases hj:(clAt w k).joined with
    | false=>obtain ⟨x,y⟩:=a8 hj;exact ⟨x,by omega,fun _=>by omega,fun e=>by simp at e⟩
    | true =>
     have e:=a7 hj
     rcases hyp with hyp | hyp
     ·rw [hj] at hyp;simp at hyp
     ·rw [e];exact ⟨hyp.1,hyp.2,fun e=>by simp at e,fun _=>rfl⟩
   obtain ⟨s1,s2,s3,s4⟩:=hstart
   obtain ⟨d1,d2⟩:=b7 (by omega)
   have hheld0:(downAt w3 k).length=0→(clAt w3 k).held=[]:=fun h0=>by
    rcases c9 with c9 | c9
    ·rw [b6] at c9
     have hd0:downAt w3 k=[]:=List.eq_nil_of_length_eq_zero h0
     have hs:(clAt w3 k).sent=[]:=by
      refine Decidable.not_not.1 fun hs=>?_
      rcases hf3 c6 hs with ⟨x,hx,_⟩ | ⟨x,hx,_⟩
      ·rw [c9] at hx;simp at hx
      ·rw [hd0] at hx;simp at hx
     exact hc3.ok.hs hs
    ·exact c9
   refine ⟨c6,hup1, ?_,fun hj hh=>?_,hheld0,fun h0 hu=>?_⟩
   ·cases hj:(clAt w k).joined with
    | false=>left;have:=s3 hj;omega
    | true =>
     rw [s4 hj] at d2 s1
     by_cases h0:(downAt w3 k).length=0
     ·exact Or.inl h0
     ·right;exact ⟨rfl,by omega⟩
   ·rw [s4 hj] at d1
    obtain ⟨x,y⟩:=c10 (by rw [d1];exact hh)
    exact ⟨x,by rw [y,b6]⟩
   ·refine Decidable.not_not.1 fun hs=>?_
    have hd0:downAt w3 k=[]:=List.eq_nil_of_length_eq_zero h0
    rcases hf3 c6 hs with ⟨x,hx,_⟩ | ⟨x,hx,_⟩
    ·rw [hu] at hx;simp at hx
    ·rw [hd0] at hx;simp at hx
  ·have e1:=a7 hj
   have e2:=b9 (by rw [e1];exact hu)
   exact ⟨by rw [c4,e2,e1],fun i hi=>by rw [c5 i hi,e2,e1]⟩
 ·have hj2':(clAt w2 k).joined=false:=by simpa using hj2
  have hd0:=((b2.ci k (by omega)).out hj2').2
  have e:rep (doW pg · (hapK 4 k)) 70 w2=w2:=rep_stop _ (by
   rw [(do_kind (pg:=pg) b2 (by omega)).2.1]
   have:hearW w2 k=(w2,7):=by unfold hearW;rw [hd0]
   rw [this];simp)
  refine ⟨w2,⟨by unfold passW;rw [a1,b1,e],b2,by omega,by omega,hoff,hon⟩,Or.inl hj2',fun hyp=>?_,fun hj hu=>?_⟩
  ·exfalso
   have hstart:(upAt w1 k).length≤1∧(downAt w1 k).length≤89:=by
    cases hj:(clAt w k).joined with
    | false=>obtain ⟨x,y⟩:=a8 hj;exact ⟨x,by omega⟩
    | true =>
     have e:=a7 hj
     rcases hyp with hyp | hyp
     ·rw [hj] at hyp;simp at hyp
     ·rw [e];exact hyp
   have:=(b7 (by omega)).1
   rw [this,a6] at hj2'
   simp at hj2'
  ·have e1:=a7 hj
   have e2:=b9 (by rw [e1];exact hu)
   exact ⟨by rw [e2,e1],fun i hi=>by rw [e2,e1]⟩
theorem passes_gen (Qo Qn:Nat→Wd→Prop)
  (step:∀ (w:Wd) (k:Nat),Inv w→k < w.cl.length→Qo k w→∀ w',Pass pg k w w'→Qn k w')
  (so:∀ (w:Wd) (k i:Nat),Inv w→k < w.cl.length→i < w.cl.length→i≠k→Qo k w→Qo i w→∀ w',Pass pg k w w'→Qo i w')
  (sn:∀ (w:Wd) (k i:Nat),Inv w→k < w.cl.length→i < w.cl.length→i≠k→Qo k w→Qn i w→∀ w',Pass pg k w w'→Qn i w') (j:Nat) :
  ∀ w,Inv w→j≤w.cl.length→(∀ i,i < w.cl.length→Qo i w)→Inv (passes pg w j)∧(passes pg w j).cl.length=w.cl.length∧(∀ i,i < j→Qn i (passes pg w j))∧∀ i,j≤i→i < w.cl.length→Qo i (passes pg w j):=by
 induction j with
 | zero=>intro w h _ hq;exact ⟨h,rfl,fun i hi=>by omega,fun i _ hi=>hq i hi⟩
 | succ j ih =>
  intro w h hj hq
  obtain ⟨i1,i2,i3,i4⟩:=ih w h (by omega) hq
  obtain ⟨w',hp,_⟩:=pass_any (pg:=pg) (k:=j) i1 (by omega)
  have hqj:=i4 j (Nat.le_refl _) (by omega)
  simp only [passes]
  rw [hp.eq]
  refine ⟨hp.inv,hp.len.trans i2,fun i hi=>?_,fun i hi hil=>so _ j i i1 (by omega) (by omega) (by omega) hqj (i4 i (by omega) hil) w' hp⟩
  by_cases e:i=j
  ·subst e;exact step _ i i1 (by omega) hqj w' hp
  ·exact sn _ j i i1 (by omega) (by omega) e hqj (i3 i (by omega)) w' hp
def Bd (B u:Nat) (H:Cl→Prop) (k:Nat) (w:Wd):Prop:=(clAt w k).joined=true∧(upAt w k).length≤u∧(downAt w k).length+60≤B+w.s.log.length∧H (clAt w k)
def Q1 (k:Nat) (w:Wd):Prop:=(clAt w k).joined=false∨Bd 80 1 (fun _=>True) k w
theorem bd_stable {B u:Nat} (hB:B≤89) {H:Cl→Prop} {i:Nat} {w w':Wd} (hi:i≠k) (hil:i < w.cl.length) (h:Bd B u H i w) (hp:Pass pg k w w'):Bd B u H i w':=by
 obtain ⟨h1,h2,h3,h4⟩:=h
 obtain ⟨e1,e2,e3⟩:=hp.on i hi hil h1 (by omega)
 exact ⟨by rw [e1];exact h1,by rw [e2];exact h2,by omega,by rw [e1];exact h4⟩
theorem q1_stable {i:Nat} {w w':Wd} (hi:i≠k) (hil:i < w.cl.length) (h:Q1 i w) (hp:Pass pg k w w'):Q1 i w':=by
 rcases h with h | h
 ·left
  have e:=hp.off i hi hil h
  simp only [trip,Prod.mk.injEq] at e
  rw [e.1];exact h
 ·exact Or.inr (bd_stable (by omega) hi hil h hp)
theorem pass_get (h:Inv w) (hk:k < w.cl.length) {w':Wd} (hp:Pass pg k w w'):((clAt w' k).joined=false∨((upAt w' k).length≤1∧(downAt w' k).length≤20)) ∧
  (((clAt w k).joined=false∨((upAt w k).length≤1∧(downAt w k).length≤89))→(clAt w' k).joined=true∧(upAt w' k).length≤1∧((downAt w' k).length=0∨((clAt w k).joined=true∧(downAt w' k).length+69≤(downAt w k).length)) ∧
   ((clAt w k).joined=true→(clAt w k).held=[]→(clAt w' k).held=[]∧upAt w' k=[])∧((downAt w' k).length=0→(clAt w' k).held=[])∧((downAt w' k).length=0→upAt w' k=[]→(clAt w' k).sent=[])) ∧
  ((clAt w k).joined=true→upAt w k=[]→w'.s=w.s∧∀ i,i≠k→trip w' i=trip w i):=by
 obtain ⟨w2,hp2,h1,h2,h3⟩:=pass_any (pg:=pg) h hk
 obtain rfl:w2=w':=by rw [← hp2.eq,hp.eq]
 exact ⟨h1,h2,h3⟩
theorem round_of {Qo Qn:Nat→Wd→Prop} (hr:∀ w,Inv w→(∀ i,i < w.cl.length→Qo i w)→Inv (passes pg w w.cl.length)∧(passes pg w w.cl.length).cl.length=w.cl.length∧(∀ i,i < w.cl.length→Qn i (passes pg w w.cl.length))∧∀ i,w.cl.length≤i→i < w.cl.length→Qo i (passes pg w w.cl.length))
  {w:Wd} (h:Inv w) (hq:∀ i,i < w.cl.length→Qo i w):Inv (passes pg w w.cl.length)∧∀ i,i < (passes pg w w.cl.length).cl.length→Qn i (passes pg w w.cl.length):=by
 obtain ⟨h1,h2,h3,_⟩:=hr w h hq
 exact ⟨h1,fun i hi=>h3 i (by omega)⟩
theorem round1 {w:Wd} (h:Inv w):Inv (passes pg w w.cl.length)∧∀ i,i < (passes pg w w.cl.length).cl.length→Q1 i (passes pg w w.cl.length):=
 round_of (Qo:=fun _ _=>True) (fun w h hq=>passes_gen (fun _ _=>True) Q1 (fun w k hI hk _ w' hp=>by
   obtain ⟨h1,_,_⟩:=pass_get hI hk hp
   rcases h1 with h1 | h1
   ·exact Or.inl h1
   ·cases hj:(clAt w' k).joined with
    | false=>exact Or.inl hj
    | true=>exact Or.inr ⟨hj,h1.1,by omega,trivial⟩)
  (fun _ _ _ _ _ _ _ _ _ _ _=>trivial) (fun w k i _ _ hil hi _ hq w' hp=>q1_stable hi hil hq hp) _ w h (Nat.le_refl _) hq) h (fun _ _=>trivial)
theorem round2 {w:Wd} (h:Inv w) (hq:∀ i,i < w.cl.length→Q1 i w):Inv (passes pg w w.cl.length)∧∀ i,i < (passes pg w w.cl.length).cl.length→Bd 71 1 (fun _=>True) i (passes pg w w.cl.length):=
 round_of (Qo:=Q1) (fun w h hq=>passes_gen Q1 (Bd 71 1 fun _=>True) (fun w k hI hk hq w' hp=>by
   have hl:=hI.srv.len
   obtain ⟨_,h2,_⟩:=pass_get hI hk hp
   obtain ⟨a,b,c,_⟩:=h2 (by
    rcases hq with hq | ⟨_,hq1,hq2,_⟩
    ·exact Or.inl hq
    ·exact Or.inr ⟨hq1,by omega⟩)
   refine ⟨a,b, ?_,trivial⟩
   rcases c with c | ⟨c1,c2⟩
   ·omega
   ·rcases hq with hq | ⟨_,_,hq2,_⟩
    ·rw [c1] at hq;simp at hq
    ·omega)
  (fun w k i _ _ hil hi _ hq w' hp=>q1_stable hi hil hq hp) (fun w k i _ _ hil hi _ hq w' hp=>bd_stable (by omega) hi hil hq hp) _ w h (Nat.le_refl _) hq) h hq
theorem round3 {w:Wd} (h:Inv w) (hq:∀ i,i < w.cl.length→Bd 71 1 (fun _=>True) i w):Inv (passes pg w w.cl.length)∧∀ i,i < (passes pg w w.cl.length).cl.length→Bd 62 1 (fun _=>True) i (passes pg w w.cl.length):=
 round_of (Qo:=Bd 71 1 fun _=>True) (fun w h hq=>passes_gen (Bd 71 1 fun _=>True) (Bd 62 1 fun _=>True) (fun w k hI hk hq w' hp=>by
   have hl:=hI.srv.len
   obtain ⟨q1,q2,q3,_⟩:=hq
   obtain ⟨_,h2,_⟩:=pass_get hI hk hp
   obtain ⟨a,b,c,_⟩:=h2 (Or.inr ⟨q2,by omega⟩)
   exact ⟨a,b,by omega,trivial⟩)
  (fun w k i _ _ hil hi _ hq w' hp=>bd_stable (by omega) hi hil hq hp) (fun w k i _ _ hil hi _ hq w' hp=>bd_stable (by omega) hi hil hq hp) _ w h (Nat.le_refl _) hq) h hq
theorem round4 {w:Wd} (h:Inv w) (hq:∀ i,i < w.cl.length→Bd 62 1 (fun _=>True) i w):Inv (passes pg w w.cl.length)∧∀ i,i < (passes pg w w.cl.length).cl.length→Bd 60 1 (fun c=>c.held=[]) i (passes pg w w.cl.length):=
 round_of (Qo:=Bd 62 1 fun _=>True) (fun w h hq=>passes_gen (Bd 62 1 fun _=>True) (Bd 60 1 fun c=>c.held=[]) (fun w k hI hk hq w' hp=>by
   have hl:=hI.srv.len
   obtain ⟨q1,q2,q3,_⟩:=hq
   obtain ⟨_,h2,_⟩:=pass_get hI hk hp
   obtain ⟨a,b,c,_,d,_⟩:=h2 (Or.inr ⟨q2,by omega⟩)
   have c0:(downAt w' k).length=0:=by omega
   exact ⟨a,b,by omega,d c0⟩)
  (fun w k i _ _ hil hi _ hq w' hp=>bd_stable (by omega) hi hil hq hp) (fun w k i _ _ hil hi _ hq w' hp=>bd_stable (by omega) hi hil hq hp) _ w h (Nat.le_refl _) hq) h hq
theorem round5 {w:Wd} (h:Inv w) (hq:∀ i,i < w.cl.length→Bd 60 1 (fun c=>c.held=[]) i w):Inv (passes pg w w.cl.length)∧∀ i,i < (passes pg w w.cl.length).cl.length→Bd 60 0 (fun c=>c.held=[]∧c.sent=[]) i (passes pg w w.cl.length):=
 round_of (Qo:=Bd 60 1 fun c=>c.held=[]) (fun w h hq=>passes_gen (Bd 60 1 fun c=>c.held=[]) (Bd 60 0 fun c=>c.held=[]∧c.sent=[]) (fun w k hI hk hq w' hp=>by
   have hl:=hI.srv.len
   obtain ⟨q1,q2,q3,q4⟩:=hq
   obtain ⟨_,h2,_⟩:=pass_get hI hk hp
   obtain ⟨a,b,c,d,_,e⟩:=h2 (Or.inr ⟨q2,by omega⟩)
   have c0:(downAt w' k).length=0:=by omega
   obtain ⟨d1,d2⟩:=d q1 q4
   exact ⟨a,by rw [d2];simp,by omega,d1,e c0 d2⟩)
  (fun w k i _ _ hil hi _ hq w' hp=>bd_stable (by omega) hi hil hq hp) (fun w k i _ _ hil hi _ hq w' hp=>bd_stable (by omega) hi hil hq hp) _ w h (Nat.le_refl _) hq) h hq
def Calm (k:Nat) (w:Wd):Prop:=Bd 60 0 (fun c=>c.held=[]∧c.sent=[]) k w∧downAt w k=[]
theorem bd_nil {B:Nat} {H:Cl→Prop} {i:Nat} {w:Wd} (h:Bd B 0 H i w):upAt w i=[]:=List.eq_nil_of_length_eq_zero (by have:=h.2.1;omega)
theorem bd_same {B u:Nat} {H:Cl→Prop} {i:Nat} {w w':Wd} (h:Bd B u H i w) (hs:w'.s=w.s) (ht:trip w' i=trip w i):Bd B u H i w':=by
 simp only [trip,Prod.mk.injEq] at ht
 obtain ⟨e1,e2,e3⟩:=ht
 obtain ⟨h1,h2,h3,h4⟩:=h
 exact ⟨by rw [e1];exact h1,by rw [e2];exact h2,by rw [e3,hs];exact h3,by rw [e1];exact h4⟩
theorem round6 {w:Wd} (h:Inv w) (hq:∀ i,i < w.cl.length→Bd 60 0 (fun c=>c.held=[]∧c.sent=[]) i w):Inv (passes pg w w.cl.length)∧∀ i,i < (passes pg w w.cl.length).cl.length→Calm i (passes pg w w.cl.length):=
 round_of (Qo:=Bd 60 0 fun c=>c.held=[]∧c.sent=[]) (fun w h hq=>passes_gen (Bd 60 0 fun c=>c.held=[]∧c.sent=[]) Calm (fun w k hI hk hq w' hp=>by
   have hl:=hI.srv.len
   obtain ⟨q1,q2,q3,q4⟩:=hq
   obtain ⟨_,h2,_⟩:=pass_get hI hk hp
   obtain ⟨a,b,c,d,_,e⟩:=h2 (Or.inr ⟨by omega,by omega⟩)
   have c0:(downAt w' k).length=0:=by omega
   obtain ⟨d1,d2⟩:=d q1 q4.1
   exact ⟨⟨a,by rw [d2];simp,by omega,d1,e c0 d2⟩,List.eq_nil_of_length_eq_zero c0⟩)
  (fun w k i _ _ hil hi _ hq w' hp=>bd_stable (by omega) hi hil hq hp)
  (fun w k i hI hk hil hi hqk hq w' hp=>by
   obtain ⟨_,_,h3⟩:=pass_get hI hk hp
   obtain ⟨hs,ht⟩:=h3 hqk.1 (bd_nil hqk)
   have e:=ht i hi
   refine ⟨bd_same hq.1 hs e, ?_⟩
   simp only [trip,Prod.mk.injEq] at e
   rw [e.2.2];exact hq.2) _ w h (Nat.le_refl _) hq) h hq
theorem round7 {w:Wd} (h:Inv w) (hq:∀ i,i < w.cl.length→Calm i w):Inv (passes pg w w.cl.length)∧∀ i,i < (passes pg w w.cl.length).cl.length→Calm i (passes pg w w.cl.length):=
 round6 h fun i hi=>(hq i hi).1
theorem law_calm {w:Wd} (h:Inv w):Inv (calmN pg 8 w)∧∀ k,k < (calmN pg 8 w).cl.length→(clAt (calmN pg 8 w) k).joined=true∧(clAt (calmN pg 8 w) k).rev=(calmN pg 8 w).s.log.length∧(clAt (calmN pg 8 w) k).sent=[]∧(clAt (calmN pg 8 w) k).held=[] ∧
  (clAt (calmN pg 8 w) k).now=(calmN pg 8 w).s.now∧upAt (calmN pg 8 w) k=[]∧downAt (calmN pg 8 w) k=[]:=by
 have hall:Inv (calmN pg 8 w)∧∀ k,k < (calmN pg 8 w).cl.length→Calm k (calmN pg 8 w):=by
  simp only [calmN]
  obtain ⟨i1,q1⟩:=round1 (pg:=pg) h
  obtain ⟨i2,q2⟩:=round2 (pg:=pg) i1 q1
  obtain ⟨i3,q3⟩:=round3 (pg:=pg) i2 q2
  obtain ⟨i4,q4⟩:=round4 (pg:=pg) i3 q3
  obtain ⟨i5,q5⟩:=round5 (pg:=pg) i4 q4
  obtain ⟨i6,q6⟩:=round6 (pg:=pg) i5 q5
  obtain ⟨i7,q7⟩:=round7 (pg:=pg) i6 q6
  exact round7 (pg:=pg) i7 q7
 refine ⟨hall.1,fun k hk=>?_⟩
 obtain ⟨⟨h1,h2,h3,h4,h5⟩,h6⟩:=hall.2 k hk
 have hci:=hall.1.ci k hk
 have hqd:=hci.qd h1
 rw [h6] at hqd
 have r0:=hci.ok.r0;have rl:=hci.rle
 have hrev:(clAt (calmN pg 8 w) k).rev=(calmN pg 8 w).s.log.length:=by
  have:=congrArg List.length hqd
  rw [tellL_len,List.length_drop] at this
  simp only [List.filter_nil,List.length_nil] at this
  omega
 refine ⟨h1,hrev,h5,h4, ?_,List.eq_nil_of_length_eq_zero (by omega),h6⟩
 rcases hci.ok.cases with ⟨_,_,e⟩ | ⟨a,_⟩ | ⟨a,_⟩
 ·rw [e]
  have hb:=hci.base
  rw [hrev,Int.toNat_natCast,List.take_length] at hb
  have:=hall.1.srv.fold
  rw [hb] at this
  exact (Prod.mk.inj this).1
 ·exact absurd h5 a
 ·exact absurd h5 a
end
end Go.Mh
