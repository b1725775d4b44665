import Derived.Test.YteikncnldbdfmaaGreatDoorMMem
import Derived.Test.YteikncnldbdfmaaGreatDoorMDoc
import Derived.BigRegion
import Derived.RegionTactic
import Derived.IntWalk
namespace Go.Proofs.YteikncnldbdfmaaGreatDoor
open Go.RowKit Go.Mh
set_option maxRecDepth 100000 in
set_option maxHeartbeats 2000000 in
theorem over_any (p q:Pt) (sv tv:Value) (w:World) (hs:∃ a n c,sv=.slice a n c) :
  Calls Tryz.prog 242 #[pv p sv,pv q tv] w fun e w'=>e=.returned (pv (overP p q) sv)∧Below w.heap.size w w':=by
 obtain ⟨sa,sn,sc,rfl⟩:=hs
 obtain ⟨k,n,its,set,clr,tto,l⟩:=p
 obtain ⟨k',n',its',set',clr',tto',l'⟩:=q
 cases tto' with
 | false =>
  go_enter Tryz.func242,Tryz.ntmps242
  go_wp2
  exact bodyPost_ret (v:=pv (overP ⟨k,n,its,set,clr,tto,l⟩ ⟨k',n',its',set',clr',false,l'⟩) (.slice sa sn sc)) (by simp [results,Tryz.results242,go_sem,overP]) rfl ⟨rfl,bal (bal (bal (brf _) _) _) _⟩
 | true =>
  go_enter Tryz.func242,Tryz.ntmps242
  go_wp2
  exact bodyPost_ret (v:=pv (overP ⟨k,n,its,set,clr,tto,l⟩ ⟨k',n',its',set',clr',true,l'⟩) (.slice sa sn sc)) (by simp [results,Tryz.results242,go_sem,overP]) rfl ⟨rfl,bal (bal (bal (brf _) _) _) _⟩
set_option maxRecDepth 100000 in
set_option maxHeartbeats 2000000 in
theorem both_any (p q:Pt) (sv tv:Value) (w:World) (hs:∃ a n c,sv=.slice a n c) :
  Calls Tryz.prog 224 #[pv p sv,pv q tv] w fun e w'=>e=.returned (pv (bothP p q) sv)∧Below w.heap.size w w':=by
 obtain ⟨sa,sn,sc,rfl⟩:=hs
 obtain ⟨k,n,its,set,clr,tto,l⟩:=p
 obtain ⟨k',n',its',set',clr',tto',l'⟩:=q
 cases tto' with
 | false =>
  go_enter Tryz.func224,Tryz.ntmps224
  go_wp2
  go_region
  go_wp2
  exact bodyPost_ret (v:=pv (bothP ⟨k,n,its,set,clr,tto,l⟩ ⟨k',n',its',set',clr',false,l'⟩) (.slice sa sn sc)) (by simp [results,Tryz.results224,go_sem,bothP]) rfl ⟨rfl,(bal (bal (bal (brf _) _) _) _).drew⟩
 | true =>
  go_enter Tryz.func224,Tryz.ntmps224
  go_wp2
  go_region
  go_wp2
  go_region
  go_wp2
  exact bodyPost_ret (v:=pv (bothP ⟨k,n,its,set,clr,tto,l⟩ ⟨k',n',its',set',clr',true,l'⟩) (.slice sa sn sc)) (by simp [results,Tryz.results224,go_sem,bothP]) rfl ⟨rfl,(bal (bal (bal (brf _) _) _) _).drew.drew⟩
end Go.Proofs.YteikncnldbdfmaaGreatDoor
namespace Go.Proofs.YteikncnldbdfmaaGreatDoor
open Go.RowKit Go.Mh
theorem moreR_full {p:Pt} {o:List Pt} (h:¬ (p.n=0∧p.its=[])):moreR p o=(true,p,o):=by simp only [moreR,if_neg h]
theorem moreR_nil {p:Pt} (h:p.n=0∧p.its=[]):moreR p []=(false,p,[]):=by simp only [moreR,if_pos h]
theorem moreR_cons {p x:Pt} {o:List Pt} (h:p.n=0∧p.its=[]):moreR p (x :: o)=(true,x,o):=by simp only [moreR,if_pos h]
theorem rmore_full (F:Nat→Prop) (w0 w:World) (g:Nat) (p:Pt) (o:List Pt) (h:Rdr 278 F w0 w g p o) (hn:¬ (p.n=0∧p.its=[])) :
  Calls Tryz.prog 221 #[.pointer (some ⟨g,0,none⟩)] w fun e w'=>e=.returned (.bool true)∧w=w':=by
 obtain ⟨ov,sv,hb,ho,hi⟩:=h
 obtain ⟨sa,sc,rfl,_⟩:=RdS.len hi
 obtain ⟨c0,c1,c2,c3,c4,c5,c6,c7⟩:=P8.of hb
 have e:(p.n == 0)=false∨((p.n == 0)=true∧((p.its.length:Int) == 0)=false):=by
  cases e:p.n == 0 with
  | false=>exact Or.inl rfl
  | true=>exact Or.inr ⟨rfl,by simp at e;simp;exact fun h=>hn ⟨e,h⟩⟩
 clear hn hb ho hi
 rcases e with e | ⟨e,e2⟩
 all_goals
  go_enter Tryz.func221,Tryz.ntmps221
  go_wp2
  go_loop [] (True) (0)
  case atStart=>trivial
  case round =>
   go_wp2
   go_ret
   exact ⟨rfl,rfl⟩
theorem rmore_nil (F:Nat→Prop) (w0 w:World) (g:Nat) (p:Pt) (h:Rdr 278 F w0 w g p []) (hn:p.n=0∧p.its=[]) :
  Calls Tryz.prog 221 #[.pointer (some ⟨g,0,none⟩)] w fun e w'=>e=.returned (.bool false)∧w=w':=by
 obtain ⟨ov,sv,hb,ho,hi⟩:=h
 obtain ⟨k,n,its,set,clr,tto,l⟩:=p
 obtain ⟨rfl,rfl⟩:=hn
 obtain ⟨sa,sc,rfl,_⟩:=RdS.len hi
 obtain ⟨oa,oc,rfl,_⟩:=RdS.len ho
 obtain ⟨c0,c1,c2,c3,c4,c5,c6,c7⟩:=P8.of hb
 clear hb ho hi
 go_enter Tryz.func221,Tryz.ntmps221
 go_wp2
 go_loop [] (True) (0)
 case atStart=>trivial
 case round =>
  go_wp2
  go_ret
  exact ⟨rfl,rfl⟩
set_option maxRecDepth 100000 in
set_option maxHeartbeats 2000000 in
theorem rmore_next (F:Nat→Prop) (w0 w:World) (g:Nat) (p x:Pt) (o:List Pt) (h:Rdr 278 F w0 w g p (x :: o)) (hs:St F w0 w) (hn:p.n=0∧p.its=[]) (hx:¬ (x.n=0∧x.its=[])) :
  Calls Tryz.prog 221 #[.pointer (some ⟨g,0,none⟩)] w fun e w'=>e=.returned (.bool true)∧Rdr 278 F w0 w' g x o∧Stays g w w':=by
 have hlt:=h.lt
 have hlen:=Lib.hid h.len
 obtain ⟨ov,sv,hb,ho,hi⟩:=h
 obtain ⟨k,n,its,set,clr,tto,l⟩:=p
 obtain ⟨rfl,rfl⟩:=hn
 obtain ⟨sa,sc,rfl,_⟩:=RdS.len hi
 obtain ⟨oa,oc,rfl,hol⟩:=RdS.len ho
 have hb':=Lib.hid hb
 obtain ⟨b,o1,cs,eo,hFb,_,hat,tv,hR,hits⟩:=(id ho:ROp F w0 _ (x :: o)).el 0 x rfl
 subst hR eo
 obtain ⟨ta,tc,rfl,_⟩:=RdS.len hits
 have hcap:=RdS.capLe ho
 obtain ⟨d0,d1,d2,d3,d4,d5,d6⟩:=(hat.to (hs b hFb)).seven
 simp only [Nat.zero_mul,Nat.add_zero] at d0 d1 d2 d3 d4 d5 d6
 obtain ⟨c0,c1,c2,c3,c4,c5,c6,c7⟩:=P8.of hb
 have hfz:∀ i,w.frozen? ⟨g,i,none⟩=false:=fun i=>Lib.frozen_of_heap hb _
 have ho':=Lib.hid ho
 have hi':=Lib.hid hits
 have hs':=Lib.hid hs
 simp only [List.length_cons] at hcap hol c0
 clear hb ho hi hits hat hs hFb
 go_enter Tryz.func221,Tryz.ntmps221
 go_wp2
 go_loopw [] (fun wr=>wr=w∨(Rdr 278 F w0 wr g x o∧Stays g w wr)) (fun wr=>cellLen (wr.cell? ⟨g,0,none⟩))
 case atStart=>exact Or.inl rfl
 case round =>
  rcases hrel with rfl | ⟨hr,hst⟩
  ·by_cases hc:oc=1
   ·subst hc
    obtain rfl:o=[]:=List.eq_nil_of_length_eq_zero (by omega)
    go_wp2
    go_region
    go_wp2
    go_roundw
    case rel =>
     obtain ⟨q1,q2⟩:=set8 hb'.out (.slice (some ⟨b,o1,none⟩) 0 0) (.int .i64 x.k) (.int .i64 x.n) (.slice ta x.its.length tc) (.int .i64 x.set) (.int .i64 x.clr) (.bool x.to) (str x.l)
     exact Or.inr ⟨Rdr.drew ⟨_,_,q1,RdS.nil0,hi'.out⟩,q2.drew⟩
    case measure =>
     obtain ⟨q1,_⟩:=set8 hb'.out (.slice (some ⟨b,o1,none⟩) 0 0) (.int .i64 x.k) (.int .i64 x.n) (.slice ta x.its.length tc) (.int .i64 x.set) (.int .i64 x.clr) (.bool x.to) (str x.l)
     have R:=Rdr.len (Rdr.drew (F:=F) (w0:=w0) (p:=x) (o:=[]) ⟨_,_,q1,RdS.nil0,hi'.out⟩)
     rw [c0,R];simp [cellLen]
   ·have hc1:1 < oc:=by omega
    clear hc
    go_wp2
    go_region
    go_wp2
    go_roundw
    case rel =>
     obtain ⟨q1,q2⟩:=set8 hb'.out (.slice (some ⟨b,o1+7,none⟩) o.length (oc - 1)) (.int .i64 x.k) (.int .i64 x.n) (.slice ta x.its.length tc) (.int .i64 x.set) (.int .i64 x.clr) (.bool x.to) (str x.l)
     exact Or.inr ⟨Rdr.drew ⟨_,_,q1,ho'.out.tail,hi'.out⟩,q2.drew⟩
    case measure =>
     obtain ⟨q1,_⟩:=set8 hb'.out (.slice (some ⟨b,o1+7,none⟩) o.length (oc - 1)) (.int .i64 x.k) (.int .i64 x.n) (.slice ta x.its.length tc) (.int .i64 x.set) (.int .i64 x.clr) (.bool x.to) (str x.l)
     have R:=Rdr.len (Rdr.drew (F:=F) (w0:=w0) (p:=x) (o:=o) ⟨_,_,q1,ho'.out.tail,hi'.out⟩)
     rw [c0,R];simp [cellLen]
  ·clear c0 c1 c2 c3 c4 c5 c6 c7 d0 d1 d2 d3 d4 d5 d6 hfz
   have hr':=Lib.hid hr
   have hst':=Lib.hid hst
   obtain ⟨ov,sv,hb,ho,hi⟩:=hr
   obtain ⟨ya,yc,rfl,_⟩:=RdS.len hi
   obtain ⟨c0,c1,c2,c3,c4,c5,c6,c7⟩:=P8.of hb
   clear hb ho hi hst
   have e:(x.n == 0)=false∨((x.n == 0)=true∧((x.its.length:Int) == 0)=false):=by
    cases e:x.n == 0 with
    | false=>exact Or.inl rfl
    | true=>exact Or.inr ⟨rfl,by simp at e;simp;exact fun h=>hx ⟨e,h⟩⟩
   clear hx
   rcases e with e | ⟨e,e2⟩
   all_goals
    go_wp2
    go_ret
    exact ⟨rfl,hr'.out,hst'.out⟩
theorem rmore_any (F:Nat→Prop) (w0 w:World) (g:Nat) (p:Pt) (o:List Pt) (h:Rdr 278 F w0 w g p o) (hs:St F w0 w) (ht:∀ x ∈ o,TP x) :
  Calls Tryz.prog 221 #[.pointer (some ⟨g,0,none⟩)] w fun e w'=>e=.returned (.bool (moreR p o).1)∧Rdr 278 F w0 w' g (moreR p o).2.1 (moreR p o).2.2∧Stays g w w':=by
 have hr:Stays g w w:=⟨fun _ _ _=>rfl,Below.refl _ _⟩
 by_cases hn:p.n=0∧p.its=[]
 ·cases o with
  | nil =>
   rw [moreR_nil hn]
   refine (rmore_nil F w0 w g p h hn).mono ?_
   rintro e w' ⟨rfl,rfl⟩
   exact ⟨rfl,h,hr⟩
  | cons x o =>
   rw [moreR_cons hn]
   exact rmore_next F w0 w g p x o h hs hn (ht x (List.mem_cons_self ..)).full
 ·rw [moreR_full hn]
  refine (rmore_full F w0 w g p o h hn).mono ?_
  rintro e w' ⟨rfl,rfl⟩
  exact ⟨rfl,h,hr⟩
set_option maxRecDepth 100000 in
set_option maxHeartbeats 2000000 in
theorem rtake_any (F:Nat→Prop) (w0 w:World) (g:Nat) (p:Pt) (o:List Pt) (n:Int) (h:Rdr 278 F w0 w g p o) (h0:0≤n) (h1:n≤p.n) (h2:p.n≤80) :
  Calls Tryz.prog 223 #[.pointer (some ⟨g,0,none⟩),.int .i64 n] w fun e w'=>∃ a c,e=.returned (pv (takeN p n) (.slice a p.its.length c))∧RItems F w0 (.slice a p.its.length c) p.its∧Rdr 278 F w0 w' g (restN p n) o∧Stays g w w':=by
 have hlt:=h.lt
 obtain ⟨ov,sv,hb,ho,hi⟩:=h
 obtain ⟨sa,sc,rfl,_⟩:=RdS.len hi
 have hb':=Lib.hid hb
 have ho':=Lib.hid ho
 have hi':=Lib.hid hi
 obtain ⟨c0,c1,c2,c3,c4,c5,c6,c7⟩:=P8.of hb
 have hfz:∀ i,w.frozen? ⟨g,i,none⟩=false:=fun i=>Lib.frozen_of_heap hb _
 obtain ⟨k,m,its,set,clr,tto,l⟩:=p
 simp only at h1 h2 hb' hi' c1 c2 c3 c4 c5 c6 c7
 clear hb ho hi
 go_enter Tryz.func223,Tryz.ntmps223
 go_wp2
 exact bodyPost_ret (v:=pv ⟨k,n,its,set,clr,tto,l⟩ (.slice sa its.length sc)) (by simp [results,Tryz.results223,go_sem]) rfl ⟨_,_,rfl,hi'.out,⟨_,_,(by have h2:=set_two hb'.out (.int .i64 (m - n));exact ((bal (bal (brf _) _) _).block g (lt_of_heap h2)).trans h2),ho'.out,hi'.out⟩,Stays.set.trans (Stays.of (bal (bal (brf _) _) _) (Nat.le_of_lt (lt_of_heap (set_two hb'.out (.int .i64 (m - n))))))⟩
end Go.Proofs.YteikncnldbdfmaaGreatDoor
namespace Go.Mh
open Go.RowKit
abbrev Fr (T:TypeId) (B:Nat) (w:World):Nat→Prop:=fun k=>B≤k∨Ty T w k
theorem OwnS.readF {base e:Nat} {T:TypeId} {w:World} {v:Value} {L:List Pt} (h:OwnS base e 7 (RPtI T) w v L):ROp (Fr T base w) w v L:=
 RdS.to h.rd (by decide) (fun _ hk _=>⟨Or.inl hk,rfl⟩) fun _ _ _ r=>RPt.to r (Kp.weak w fun _ hk=>Or.inr hk)
theorem fr_kp {T:TypeId} {B B':Nat} {w w':World} (hB:B≤B') (hb:Below w.heap.size w w'):Kp (Fr T B' w) (Fr T B w') w w':=fun k hF hk=>by
 refine ⟨?_,hb.block k hk⟩
 rcases hF with h | ⟨xs,fr,e⟩
 ·exact Or.inl (Nat.le_trans hB h)
 ·exact Or.inr ⟨xs,fr,(hb.block k hk).trans e⟩
theorem fr_ne {T e:TypeId} {B g:Nat} {w:World} {xs:Array Value} {fr:Nat × Nat} (hg:w.heap[g]?=some (.cells xs e fr)) (hT:e≠T) (hB:g < B):Kp (Fr T B w) (·≠g) w w:=fun k hF _=>by
 refine ⟨fun h=>?_,rfl⟩
 subst h
 rcases hF with h | ⟨xs',fr',e'⟩
 ·omega
 ·rw [hg] at e'
  cases e'
  exact hT rfl
end Go.Mh
namespace Go.Proofs.YteikncnldbdfmaaGreatDoor
open Go.RowKit Go.Mh
theorem idx2_0 (v0 v1:Value) (w:World):(Instr.index 156 (.agg #[v0,v1]) (.int .i64 0)).run Tryz.prog w=.ok v0 w:=by kernel_rfl
theorem idx2_1 (v0 v1:Value) (w:World):(Instr.index 156 (.agg #[v0,v1]) (.int .i64 1)).run Tryz.prog w=.ok v1 w:=by kernel_rfl
def tidy2 (X Y:List Pt):List Pt × List Pt × Int:=
 if chkOp (madeP X)≠0 then ([],[],chkOp (madeP X)) else if chkOp (madeP Y)≠0 then ([],[],chkOp (madeP Y)) else (madeP X,madeP Y,0)
set_option maxRecDepth 100000 in
set_option maxHeartbeats 2000000 in
theorem otTidy_any (F G:Nat→Prop) (v u:Value) (X Y:List Pt) (w:World) (h:ROp F w v X) (g:ROp G w u Y) (hX:Lok X) (hY:Lok Y) :
  Calls Tryz.prog 241 #[v,u] w fun e w'=>∃ r s,e=.returned (.tuple #[r,s,.int .i64 (tidy2 X Y).2.2])∧ROp (Fr 58 w.heap.size w') w' r (tidy2 X Y).1∧ROp (Fr 58 w.heap.size w') w' s (tidy2 X Y).2.1∧Below w.heap.size w w':=by
 obtain ⟨a,c,rfl,_⟩:=RdS.len h
 obtain ⟨a',c',rfl,_⟩:=RdS.len g
 have hres:∃ r,Hid (tidy2 X Y=r):=⟨_,Lib.hid rfl⟩
 obtain ⟨⟨P1,P2,P3⟩,hres⟩:=hres
 rw [hres.out]
 unfold tidy2 at hres
 have C1:=Lib.hid (opMade_any F _ X w h hX)
 have C0:=Lib.hid (fun (w1:World) (hb1:Below w.heap.size w w1)=>opMade_any G _ Y w1 (ROp.to g (Kp.below hb1)) hY)
 generalize madeP X=X' at *
 generalize madeP Y=Y' at *
 clear h g hX hY
 go_enter Tryz.func241,Tryz.ntmps241
 go_wp2_with fail
 refine C1.out.mono ?_
 rintro e w1 ⟨r1,rfl,hr1,hb1⟩
 obtain ⟨a1,c1,rfl,_⟩:=RdS.len hr1.rd
 have hx1:=Lib.hid hr1
 have C2:=Lib.hid (C0.out w1 hb1)
 clear hr1 C1 C0
 go_wp2_with fail
 refine C2.out.mono ?_
 rintro e w2 ⟨r2,rfl,hr2,hb2⟩
 obtain ⟨a2,c2,rfl,_⟩:=RdS.len hr2.rd
 have hx2:=Lib.hid (ROp.to hx1.out.readF (fr_kp (Nat.le_refl _) hb2))
 have hy2:=Lib.hid (ROp.to hr2.readF (fr_kp hb1.size (brf _)))
 have hB2:=hb1.trans (hb2.mono hb1.size)
 clear hr2 C2 hx1 hb1 hb2
 have i0:=fun w=>idx2_0 (.slice a1 X'.length c1) (.slice a2 Y'.length c2) w
 have i1:=fun w=>idx2_1 (.slice a1 X'.length c1) (.slice a2 Y'.length c2) w
 go_wp2
 go_loopw [17] (fun i wr=>∃ k:Nat,k≤2∧i=.int .i64 k∧Below w2.heap.size w2 wr∧Hid (1≤k→chkOp X'=0)∧Hid (2≤k→chkOp Y'=0)) (fun i _=>2 - (intOf i).toNat)
 case atStart=>exact ⟨0,by omega,rfl,Below.refl _ _,Lib.hid (fun h=>by omega),Lib.hid (fun h=>by omega)⟩
 case round =>
  obtain ⟨k,hk,rfl,hbr,q1,q2⟩:=hrel
  rcases (by omega:k=0∨k=1∨k=2) with rfl | rfl | rfl
  ·by_cases hc:chkOp X'=0
   ·have K:=Lib.hid (opCheck_any _ _ X' _ (ROp.to hx2.out (Kp.below hbr)))
    rw [hc] at K
    have hc':=Lib.hid hc
    clear hc q1 q2
    go_wp2_with fail
    refine K.out.mono ?_
    rintro e w3 ⟨rfl,hb3⟩
    go_wp2
    go_roundw
    case rel=>exact ⟨1,by omega,rfl,hbr.trans (hb3.mono hbr.size),Lib.hid fun _=>hc'.out,Lib.hid fun h=>by omega⟩
    case measure=>simp [intOf]
   ·have hr3:=hres.out
    rw [if_pos hc] at hr3
    cases hr3
    have K:=Lib.hid (opCheck_any _ _ X' _ (ROp.to hx2.out (Kp.below hbr)))
    have hc':(chkOp X' != 0)=true:=by simpa using hc
    clear hc q1 q2 hres
    go_wp2_with fail
    refine K.out.mono ?_
    rintro e w3 ⟨rfl,hb3⟩
    go_wp2
    go_ret3
    exact ⟨.slice none 0 0,.slice none 0 0,rfl,RdS.nil,RdS.nil,hB2.trans ((hbr.trans (hb3.mono hbr.size)).mono hB2.size)⟩
  ·have hcX:=q1.out (by omega)
   by_cases hc:chkOp Y'=0
   ·have K:=Lib.hid (opCheck_any _ _ Y' _ (ROp.to hy2.out (Kp.below hbr)))
    rw [hc] at K
    have hc':=Lib.hid hc
    clear hc hcX q2
    go_wp2_with fail
    refine K.out.mono ?_
    rintro e w3 ⟨rfl,hb3⟩
    go_wp2
    go_roundw
    case rel=>exact ⟨2,by omega,rfl,hbr.trans (hb3.mono hbr.size),Lib.hid fun _=>q1.out (by omega),Lib.hid fun h=>hc'.out⟩
    case measure=>simp [intOf]
   ·have hr3:=hres.out
    rw [if_neg (by simpa using hcX),if_pos hc] at hr3
    cases hr3
    have K:=Lib.hid (opCheck_any _ _ Y' _ (ROp.to hy2.out (Kp.below hbr)))
    have hc':(chkOp Y' != 0)=true:=by simpa using hc
    clear hc q1 q2 hres hcX
    go_wp2_with fail
    refine K.out.mono ?_
    rintro e w3 ⟨rfl,hb3⟩
    go_wp2
    go_ret3
    exact ⟨.slice none 0 0,.slice none 0 0,rfl,RdS.nil,RdS.nil,hB2.trans ((hbr.trans (hb3.mono hbr.size)).mono hB2.size)⟩
  ·have hr3:=hres.out
   rw [if_neg (by simpa using q1.out (by omega)),if_neg (by simpa using q2.out (by omega))] at hr3
   cases hr3
   clear q1 q2 hres
   go_wp2
   go_ret3
   exact ⟨_,_,rfl,ROp.to hx2.out (fr_kp (Nat.le_refl _) hbr),ROp.to hy2.out (fr_kp (Nat.le_refl _) hbr),hB2.trans (hbr.mono hB2.size)⟩
end Go.Proofs.YteikncnldbdfmaaGreatDoor
