import Derived.Test.YteikncnldbdfmaaGreatDoorMWdN
namespace Go.Mh
open Go Go.RowKit
def Nums (w:World) (v:Value):Prop:=∀ k,v.ownBlock=some k→∃ cur e,w.heap[k]?=some (.cells cur e (0,0))∧∀ (i:Nat) u,cur[i]?=some u→∃ m,u=.int .i64 m
theorem Nums.nil {w:World}:Nums w (.slice none 0 0):=fun k hk=>by simp [Value.ownBlock] at hk
theorem Nums.to {w w':World} {v:Value} (h:Nums w v) (hk:∀ k,v.ownBlock=some k→w'.heap[k]?=w.heap[k]?):Nums w' v:=fun k e=>by
 obtain ⟨cur,T,h1,h2⟩:=h k e
 exact ⟨cur,T,(hk k e).trans h1,h2⟩
theorem nums_app {l:List Value} (hl:∀ u ∈ l,∃ m,u=Value.int .i64 m) (n:Nat):∀ (i:Nat) u,(l.toArray ++ Builtin.zeroCells (Value.int .i64 0).cells n)[i]?=some u→∃ m,u=Value.int .i64 m:=fun i u hu=>by
 have hm:u ∈ (l.toArray ++ Builtin.zeroCells (Value.int .i64 0).cells n).toList:=by
  have:=Array.mem_of_getElem? hu
  exact Array.mem_toList_iff.2 this
 rw [Array.toList_append,List.mem_append] at hm
 rcases hm with hm | hm
 ·exact hl u (by simpa using hm)
 ·refine ⟨0, ?_⟩
  have h1:=Array.mem_toList_iff.1 hm
  obtain ⟨j,hj,rfl⟩:=Array.getElem_of_mem h1
  simp [Builtin.zeroCells,Value.cells,Nat.mod_one]
theorem run_app_num {P:Program} {w:World} (t ty e:TypeId) (hel:El P t e 1 8 (.int .i64 0)) (base:Nat) (v:Value) (L:List Int) (hown:OwnS base e 1 RI w v L) (hn:Nums w v) (x:Int) (g:Nat) (hx:w.cell? ⟨g,0,none⟩=some (.int .i64 x)) (h63:L.length+1≤1000000) (hbase:base≤w.heap.size) :
  ∃ v' w',(Builtin.append_ #[t,t] ty #[v,.slice (some ⟨g,0,none⟩) 1 1]).run P w=.ok v' w'∧OwnS base e 1 RI w' v' (L ++ [x])∧w.grownBy w' v.ownBlock∧Below base w w'∧(v'.ownBlock=v.ownBlock∨v'.ownBlock=some w.heap.size)∧Nums w' v':=by
 have hsrc:RdS 1 RI (fun _=>True) w (.slice (some ⟨g,0,none⟩) 1 1) [x]:=⟨_,1,rfl,by simp,by simp [maxLen],fun h=>by simp at h,fun i y hy=>by
  match i,hy with
  | 0,hy =>
   simp at hy
   subst hy
   exact ⟨g,0,[.int .i64 x],rfl,trivial,rfl,fun j u hj=>by
    match j,hj with
    | 0,hj =>
     simp at hj
     subst hj
     simpa using hx,rfl⟩⟩
 obtain ⟨v',w',hr,h1,h2,h3,h4⟩:=run_app (P:=P) (w:=w) t ty base e 1 8 _ hel RI v L [x] hown (fun _=>True) _ hsrc (fun _ _ _ r=>by rw [show _=[_] from r];intro u hu;simp at hu;subst hu;rfl) (by simp [maxLen];omega) (by simp;omega) hbase (fun _ _ _ _ _ r=>r)
 refine ⟨v',w',hr,h1,h2,h3,h4, ?_⟩
 obtain ⟨i,hi,hz,hsize,hby⟩:=info_parts hel.info
 obtain ⟨css,hrow,hlen,hR⟩:=hown
 have hnews:∀ j u,[Value.int .i64 x][j]?=some u→w.cell? ((⟨g,0,none⟩:Addr).add j)=some u:=fun j u hj=>by
  match j,hj with
  | 0,hj =>
   simp at hj
   subst hj
   simpa [Addr.add] using hx
 have holdi:∀ u ∈ css.flatten,∃ m,u=Value.int .i64 m:=fun u hu=>by
  obtain ⟨cs,hcs,hu⟩:=List.mem_flatten.1 hu
  obtain ⟨j,hj⟩:=List.mem_iff_getElem?.1 hcs
  have hjl:j < L.length:=by rw [← hlen];exact (List.getElem?_eq_some_iff.1 hj).1
  obtain ⟨_,hr',_⟩:=hR j cs L[j] hj (List.getElem?_eq_getElem hjl)
  rw [show cs=[_] from hr'] at hu
  simp at hu
  exact ⟨_,hu⟩
 rcases hrow.2 with ⟨rfl,h0⟩ | ⟨b,cap,cur,rfl,hbg,hg,hnc,hcm,hcs,htake⟩
 ·have e1:=run_append_nil (P:=P) w t ty e i _ hel.under hi hz ⟨g,0,none⟩ 1 1 [.int .i64 x] (by rw [hsize];rfl) hnews (by omega) (by omega) (by rw [hby];omega)
  rw [e1] at hr
  cases hr
  intro k hk
  simp [Value.ownBlock] at hk
  subst hk
  exact ⟨_,e,heap_new w.drew _,nums_app (l:=[.int .i64 x]) (by simp) _⟩
 ·by_cases hroom:L.length+1≤cap
  ·have e1:=run_append_room (P:=P) w t ty e i hel.under hi b L.length cap cur hg ⟨g,0,none⟩ 1 1 [.int .i64 x] (by rw [hsize];rfl) hnews (by simp [Value.oneCell']) hroom (by rw [hsize,hcs];simp;omega)
   rw [e1] at hr
   cases hr
   intro k hk
   simp [Value.ownBlock] at hk
   subst hk
   obtain ⟨cur',T,hc1,hc2⟩:=hn b rfl
   rw [hg] at hc1
   cases hc1
   refine ⟨_,e,setRow_heap w b cur _ e _ hg,fun i' u hu=>?_⟩
   have hm:u ∈ (Array.toList _):=Array.mem_toList_iff.2 (Array.mem_of_getElem? hu)
   simp only [List.mem_append,List.mem_singleton] at hm
   rcases hm with (hm | hm) | hm
   ·obtain ⟨j,hj⟩:=List.mem_iff_getElem?.1 (List.mem_of_mem_take hm)
    exact hc2 j u (by simpa using hj)
   ·exact ⟨x,hm⟩
   ·obtain ⟨j,hj⟩:=List.mem_iff_getElem?.1 (List.mem_of_mem_drop hm)
    exact hc2 j u (by simpa using hj)
  ·have e1:=run_append_grow (P:=P) w t ty e i _ hel.under hi hz ⟨b,0,none⟩ L.length cap css.flatten (by rw [hsize];exact hrow.1) (hrow.cells (g:=b) rfl) ⟨g,0,none⟩ 1 1 [.int .i64 x] (by rw [hsize];rfl) hnews (by omega) (by omega) (growslice_fits (by omega) (by rw [hby];omega))
   rw [e1] at hr
   cases hr
   intro k hk
   simp [Value.ownBlock] at hk
   subst hk
   refine ⟨_,e,heap_new w.drew _, ?_⟩
   have:=nums_app (l:=css.flatten ++ [.int .i64 x]) (fun u hu=>by
    rcases List.mem_append.1 hu with hu | hu
    ·exact holdi u hu
    ·simp at hu;exact ⟨x,hu⟩) (grownCap w (L.length+1) cap e - (L.length+1))
   simpa using this
theorem wpList_appNum {P:Program} {w:World} {ops:Array Oper} {rest:List Oper} {o:Oper} {a:Act} {Q:Exit→Act→World→Prop} (hgd:o.guard=none) (s x:Operand) (t:TypeId)
  (hop:o.op=.call { callee:=.builtin .append,args:=#[s,x],argTypes:=#[t,t] })
  (base e:Nat) (hel:El P t e 1 8 (.int .i64 0)) (v:Value) (L:List Int) (hs:a.eval s=v) (hown:OwnS base e 1 RI w v L) (hn:Nums w v) (y:Int) (g:Nat) (hx:a.eval x=.slice (some ⟨g,0,none⟩) 1 1) (hc:w.cell? ⟨g,0,none⟩=some (.int .i64 y)) (h63:L.length+1≤1000000) (hbase:base≤w.heap.size)
  (h:∀ v' w',OwnS base e 1 RI w' v' (L ++ [y])→Nums w' v'→w.grownBy w' v.ownBlock→Below base w w'→(v'.ownBlock=v.ownBlock∨v'.ownBlock=some w.heap.size)→wpList P ops Q rest (a.put o.dst v') w'):wpList P ops Q (o :: rest) a w:=by
 refine wpList_plain hgd fun K hK'=>?_
 obtain ⟨v',w',hrun,h1,h2,h3,h4,h5⟩:=run_app_num (P:=P) (w:=w) t o.type e hel base v L hown hn y g hc h63 hbase
 unfold Oper.wp
 simp [execOp,hop,resolve,invoke,builtin,hs,hx,hrun,Result.andThen]
 exact hK' _ _ (h v' w' h1 h5 h2 h3 h4)
structure NoX (w:World) (z:Nat):Prop where
 i:∀ o m,w.cell? ⟨z,o,none⟩≠some (.int .u8 m)
 p:∀ o m m' a n c,w.cell? ⟨z,o,none⟩=some (.int .i64 m)→w.cell? ⟨z,o+1,none⟩=some (.int .i64 m')→w.cell? ⟨z,o+2,none⟩≠some (.slice a n c)
theorem NoX.nums {w:World} {v:Value} {z:Nat} (h:Nums w v) (hz:v.ownBlock=some z):NoX w z:=by
 obtain ⟨cur,e,h1,h2⟩:=h z hz
 have hc:∀ o u,w.cell? ⟨z,o,none⟩=some u→∃ m,u=.int .i64 m:=fun o u hu=>by
  unfold World.cell? at hu
  rw [h1] at hu
  exact h2 o u (by simpa using hu)
 exact ⟨fun o m hu=>(by obtain ⟨_,e⟩:=hc _ _ hu;cases e),fun o m m' a n c _ _ hu=>(by obtain ⟨_,e⟩:=hc _ _ hu;cases e)⟩
theorem NoX.six {w:World} {z e:Nat} {fr:Nat × Nat} {p0 p1 p2 p3 p4 p5:Option Addr} {n0 n1 n2 n3 n4 n5 c0 c1 c2 c3 c4 c5:Nat} (h:w.heap[z]?=some (.cells #[.slice p0 n0 c0,.slice p1 n1 c1,.slice p2 n2 c2,.slice p3 n3 c3,.slice p4 n4 c4,.slice p5 n5 c5] e fr)):NoX w z:=by
 have hc:∀ o v,w.cell? ⟨z,o,none⟩=some v→∃ p n c,v=.slice p n c:=fun o v hv=>by
  unfold World.cell? at hv
  rw [h] at hv
  match o,hv with
  | 0,hv=>exact ⟨_,_,_,by simpa using hv.symm⟩
  | 1,hv=>exact ⟨_,_,_,by simpa using hv.symm⟩
  | 2,hv=>exact ⟨_,_,_,by simpa using hv.symm⟩
  | 3,hv=>exact ⟨_,_,_,by simpa using hv.symm⟩
  | 4,hv=>exact ⟨_,_,_,by simpa using hv.symm⟩
  | 5,hv=>exact ⟨_,_,_,by simpa using hv.symm⟩
  | n+6,hv=>simp at hv
 exact ⟨fun o m h1=>(by obtain ⟨_,_,_,e⟩:=hc o _ h1;cases e),fun o m m' a n c h1 _ _=>(by obtain ⟨_,_,_,e⟩:=hc o _ h1;cases e)⟩
section
variable {F Z:Nat→Prop} {w:World}
theorem RItems.nx {v:Value} {L:List It} (h:RItems F w v L) (hz:∀ z,Z z→NoX w z):RItems (fun k=>F k∧¬ Z k) w v L:=by
 obtain ⟨a,cap,e,h1,h2,h3,h4⟩:=h
 refine ⟨a,cap,e,h1,h2,h3,fun i x hx=>?_⟩
 obtain ⟨b,o,cs,e1,hF,hl,hat,hR⟩:=h4 i x hx
 refine ⟨b,o,cs,e1,⟨hF,fun hb=>?_⟩,hl,hat,hR⟩
 have hR':cs=[.int .u8 x.c.toNat,.int .i64 x.m,str x.l]:=hR
 subst hR'
 exact (hz b hb).i _ _ (hat 0 _ rfl)
theorem ROp.nx {v:Value} {L:List Pt} (h:ROp F w v L) (hz:∀ z,Z z→NoX w z):ROp (fun k=>F k∧¬ Z k) w v L:=by
 obtain ⟨a,cap,e,h1,h2,h3,h4⟩:=h
 refine ⟨a,cap,e,h1,h2,h3,fun i x hx=>?_⟩
 obtain ⟨b,o,cs,e1,hF,hl,hat,sv,hR,hI⟩:=h4 i x hx
 refine ⟨b,o,cs,e1,⟨hF,fun hb=>?_⟩,hl,hat,sv,hR,RItems.nx hI hz⟩
 subst hR
 obtain ⟨p,n,es,_⟩:=hI
 exact (hz b hb).p _ _ _ _ _ _ (hat 0 _ rfl) (hat 1 _ rfl) (by rw [← es];exact hat 2 _ rfl)
theorem REn.nx {cs:List Value} {x:En} (h:REn F w cs x) (hz:∀ z,Z z→NoX w z):REn (fun k=>F k∧¬ Z k) w cs x:=by
 obtain ⟨ov,e,ho⟩:=h
 exact ⟨ov,e,ROp.nx ho hz⟩
theorem RLog.nx {v:Value} {L:List En} (h:RLog F w v L) (hz:∀ z,Z z→NoX w z):RLog (fun k=>F k∧¬ Z k) w v L:=by
 obtain ⟨a,cap,e,h1,h2,h3,h4⟩:=h
 refine ⟨a,cap,e,h1,h2,h3,fun i x hx=>?_⟩
 obtain ⟨b,o,cs,e1,hF,hl,hat,hR⟩:=h4 i x hx
 refine ⟨b,o,cs,e1,⟨hF,fun hb=>?_⟩,hl,hat,REn.nx hR hz⟩
 obtain ⟨ov,rfl,ho⟩:=hR
 obtain ⟨p,n,es,_⟩:=ho
 exact (hz b hb).p _ _ _ _ _ _ (hat 0 _ rfl) (hat 1 _ rfl) (by rw [← es];exact hat 2 _ rfl)
theorem RSrv.nx {v:Value} {s:Srv} (h:RSrv F w v s) (hz:∀ z,Z z→NoX w z):RSrv (fun k=>F k∧¬ Z k) w v s:=by
 obtain ⟨a,l,n,e,h1,h2,h3⟩:=h
 exact ⟨a,l,n,e,RItems.nx h1 hz,RLog.nx h2 hz,RItems.nx h3 hz⟩
theorem RClc.nx {cs:List Value} {c:Cl} (h:RClc F w cs c) (hz:∀ z,Z z→NoX w z):RClc (fun k=>F k∧¬ Z k) w cs c:=by
 obtain ⟨b,n,s,k,e,h1,h2,h3,h4⟩:=h
 exact ⟨b,n,s,k,e,RItems.nx h1 hz,RItems.nx h2 hz,ROp.nx h3 hz,ROp.nx h4 hz⟩
theorem RMsg.nx {cs:List Value} {m:Msg} (h:RMsg F w cs m) (hz:∀ z,Z z→NoX w z):RMsg (fun k=>F k∧¬ Z k) w cs m:=by
 obtain ⟨ov,e,ho⟩:=h
 exact ⟨ov,e,ROp.nx ho hz⟩
end
end Go.Mh
namespace Go.Proofs.YteikncnldbdfmaaGreatDoor
open Go Go.RowKit Go.Mh
theorem RQs.ofValsG {F G:Nat→Prop} {B:Nat} {w:World} {v:Value} {us:List Value} {L:List (List Msg)} (h:OwnS B TS 1 RVal w v us) (hl:us.length=L.length) (hq:∀ (i:Nat) q x,us[i]?=some q→L[i]?=some x→OwnS B TM 4 (RMsg F) w q x)
  (hz:∀ z,v.ownBlock=some z→G z) (hzq:∀ q,q ∈ us→∀ z,q.ownBlock=some z→G z) (hF:∀ cs m,RMsg F w cs m→RMsg G w cs m):RdS 1 (RSl 4 (RMsg G) G) G w v L:=by
 obtain ⟨a,cap,rfl,h1,h2,h3,hel⟩:=h.rdN
 refine ⟨a,cap,by rw [hl],by omega,h2,h3,fun i x hx=>?_⟩
 obtain ⟨q,hq'⟩:∃ q,us[i]?=some q:=⟨_,List.getElem?_eq_getElem (by rw [hl];exact (List.getElem?_eq_some_iff.1 hx).1)⟩
 obtain ⟨b,o,cs,e1,hb,hcl,hat,rfl⟩:=hel i q hq'
 exact ⟨b,o,[q],e1,hz b hb,hcl,hat,q,rfl,RdS.to (hq i q x hq' hx).rdN (by decide) (fun k hk _=>⟨hzq q (List.mem_of_getElem? hq') k hk,rfl⟩) (fun _ _ _ r=>hF _ _ r)⟩
theorem WAt.valS {B g:Nat} {Z:Nat→Prop} {l:Lay} {w:World} {W:Wd} (h:WAt B g l w W) (hz:∀ z,Z z→l.N g z) (hn:∀ z,Z z→NoX w z):∃ a lg n,w.heap[g]?=some (.cells #[a,lg,n,l.vc,l.vu,l.vd] TW (0,0))∧RWd (fun k=>¬ Z k) w (.agg #[a,lg,n,l.vc,l.vu,l.vd]) W:=by
 obtain ⟨a,lg,n,hg,hs⟩:=h.box
 have hr:∀ q ∈ l.rows,∀ z,q.ownBlock=some z→¬ Z z:=fun q hq z e hZ=>hz z hZ (Or.inr ⟨q,hq,e⟩)
 exact ⟨a,lg,n,hg,a,lg,n,l.vc,l.vu,l.vd,rfl,RSrv.to (RSrv.nx hs hn) fun _ hk _=>⟨hk.2,rfl⟩,RdS.to h.cl.rdN (by decide) (fun k hk _=>⟨hr l.vc (by simp) k hk,rfl⟩) (fun _ _ _ r=>RClc.to (RClc.nx r hn) fun _ hk _=>⟨hk.2,rfl⟩),
  RQs.ofValsG h.uR h.ul h.qu (hr _ (by simp)) (fun q hq=>hr q (by simp [hq])) (fun _ _ r=>RMsg.to (RMsg.nx r hn) fun _ hk _=>⟨hk.2,rfl⟩),RQs.ofValsG h.dR h.dl h.qd (hr _ (by simp)) (fun q hq=>hr q (by simp [hq])) (fun _ _ r=>RMsg.to (RMsg.nx r hn) fun _ hk _=>⟨hk.2,rfl⟩)⟩
theorem WVal.val {B:Nat} {N G:Nat→Prop} {l:Lay} {w:World} {a lg n:Value} {W:Wd} (h:WVal B N l w a lg n W) (hN:∀ k,N k→G k) (hB:∀ k,B≤k→k < w.heap.size→G k):RWd G w (.agg #[a,lg,n,l.vc,l.vu,l.vd]) W:=by
 have hk:∀ k,(N k∧¬ ManR l.rows k)→G k:=fun k hk=>hN k hk.1
 have own:∀ {α:Type} {e sz:Nat} {R:World→List Value→α→Prop} {v:Value} {L:List α},OwnS B e sz R w v L→∀ z,v.ownBlock=some z→G z:=fun h z e=>by obtain ⟨h1,h2⟩:=h.own_lt e;exact hB z h1 h2
 refine ⟨a,lg,n,l.vc,l.vu,l.vd,rfl,RSrv.to h.s (Kp.weak w hk),RdS.to h.cl.rdN (by decide) (fun k e _=>⟨own h.cl k e,rfl⟩) (fun _ _ _ r=>RClc.to r (Kp.weak w hk)),RQs.ofValsG h.uR h.ul h.qu (own h.uR) (fun q hq=>?_) (fun _ _ r=>RMsg.to r (Kp.weak w hk)),RQs.ofValsG h.dR h.dl h.qd (own h.dR) (fun q hq=>?_) (fun _ _ r=>RMsg.to r (Kp.weak w hk))⟩
 ·obtain ⟨i,hi⟩:=List.mem_iff_getElem?.1 hq
  exact own (h.qu i q _ hi (List.getElem?_eq_getElem (by rw [← h.ul];exact (List.getElem?_eq_some_iff.1 hi).1)))
 ·obtain ⟨i,hi⟩:=List.mem_iff_getElem?.1 hq
  exact own (h.qd i q _ hi (List.getElem?_eq_getElem (by rw [← h.dl];exact (List.getElem?_eq_some_iff.1 hi).1)))
theorem elErr:El Tryz.prog 32 33 1 8 (.int .i64 0):=⟨Tryz.underlying32,by kernel_rfl,rfl,by decide⟩
end Go.Proofs.YteikncnldbdfmaaGreatDoor
