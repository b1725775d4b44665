import Derived.Test.YteikncnldbdfmaaGreatDoorMWdN
import Derived.Test.YteikncnldbdfmaaGreatDoorMClF
import Derived.Laws.MakeOwn
namespace Go.Mh
open Go Go.RowKit
def newWd (d:List It) (n:Int):Wd × Int:=if (newS d).2≠0 then (wd0,(newS d).2) else if n < 1∨4 < n then (wd0,3) else (newW d n.toNat,0)
theorem made_get {z:Value} {n:Nat} (i:Nat) (h:i < n) (hz:z.cells=#[z]):(madeCells z.cells n)[i]?=some z:=by
 rw [hz]
 unfold madeCells
 simp [h,Nat.mod_one]
theorem heap3_0 (w:World) (o1 o2 o3:Obj):(((w.alloc o1).alloc o2).alloc o3).drew.heap[w.heap.size]?=some o1:=by
 show (((w.alloc o1).alloc o2).alloc o3).heap[w.heap.size]?=some o1
 exact ((bal (brf _) o3).block _ (by simp;omega)).trans (heap_at2 rfl)
theorem heap3_1 (w:World) (o1 o2 o3:Obj):(((w.alloc o1).alloc o2).alloc o3).drew.heap[w.heap.size+1]?=some o2:=by
 show (((w.alloc o1).alloc o2).alloc o3).heap[w.heap.size+1]?=some o2
 exact heap_at2 (by simp)
theorem heap3_2 (w:World) (o1 o2 o3:Obj):(((w.alloc o1).alloc o2).alloc o3).drew.heap[w.heap.size+1+1]?=some o3:=by
 show (((w.alloc o1).alloc o2).alloc o3).heap[w.heap.size+1+1]?=some o3
 exact heap_at (by simp)
theorem RQs.fresh {F:Nat→Prop} {w:World} {b n:Nat} {xs:Array Value} {T:TypeId} {fr:Nat × Nat} (h:w.heap[b]?=some (.cells xs T fr)) (hx:∀ i,i < n→xs[i]?=some (.slice none 0 0)) (hF:F b) (hn:n≤maxLen):RdS 1 (RSl 4 (RMsg F) F) F w (.slice (some ⟨b,0,none⟩) n n) (List.replicate n []):=by
 refine ⟨some ⟨b,0,none⟩,n,by rw [List.length_replicate],by simp,hn,fun e=>by simp at e,fun i x hi=>?_⟩
 have hlt:i < n:=by have:=(List.getElem?_eq_some_iff.1 hi).1;simpa using this
 have hx0:x=[]:=by rw [List.getElem?_replicate] at hi;simp [hlt] at hi;exact hi
 subst hx0
 refine ⟨b,0,[.slice none 0 0],rfl,hF,rfl,fun j u hj=>?_,_,rfl,RdS.nil⟩
 match j,hj with
 | 0,hj =>
  simp at hj
  subst hj
  unfold World.cell?
  rw [h]
  simpa using hx i hlt
end Go.Mh
namespace Go.Proofs.YteikncnldbdfmaaGreatDoor
open Go Go.RowKit Go.Mh
set_option maxRecDepth 100000 in
set_option maxHeartbeats 2000000 in
theorem clNew_N (F:Nat→Prop) (v:Value) (d:List It) (w:World) (h:RItems F w v d) :
  Calls Tryz.prog 59 #[v] w fun e w'=>∃ v',e=.returned (.tuple #[v',.int .i64 (newC d).2])∧RCl (w.heap.size≤·) w' v' (newC d).1∧Below w.heap.size w w':=by
 have h:=RItems.to h (Kp.lt w)
 obtain ⟨a,cc,rfl,_⟩:=RdS.len h
 obtain ⟨w1,hw1⟩:∃ w1,w1=w.alloc clZero:=⟨_,rfl⟩
 have hb1:Below w.heap.size w w1:=by rw [hw1];exact bal (brf w) _
 have hG:=Lib.hid (by rw [hw1];exact heap_at rfl:w1.heap[w.heap.size]?=some clZero)
 have H:=Lib.hid h
 clear h
 have hres:∃ r,Hid (newC d=r):=⟨_,Lib.hid rfl⟩
 obtain ⟨⟨R1,R2⟩,hres⟩:=hres
 rw [hres.out]
 go_enter Tryz.func59,Tryz.ntmps59
 go_upto_region 1 with fail
 rw [← hw1]
 clear hw1
 go_wp2_with fail
 refine (check_any _ _ d w1 (RItems.to H.out (Kp.below hb1))).mono ?_
 rintro e w2 ⟨rfl,hb2⟩
 have hz:=lt_of_heap hG.out
 have hB2:=hb1.trans (hb2.mono hb1.size)
 have hG2:=Lib.hid ((hb2.block _ hz).trans hG.out)
 clear hG hb1 hb2 hz
 by_cases hk:chkDoc d=0
 ·have hr:=hres.out
  rw [newC,if_neg (by simpa using hk)] at hr
  cases hr
  have hl:d.length≤100000:=by have:=(chkDoc_ok hk).2;omega
  rw [hk]
  clear hk hres
  go_wp2_with fail
  refine (cloneDoc_any _ _ d w2 (RItems.to H.out (Kp.below hB2)) hl).mono ?_
  rintro e w3 ⟨u3,rfl,hu3,hb3⟩
  have hB3:=hB2.trans (hb3.mono hB2.size)
  have hz2:=lt_of_heap hG2.out
  have hG3:=Lib.hid ((hb3.block _ hz2).trans hG2.out)
  have U3:=Lib.hid hu3.rd
  clear hu3 hG2
  go_wp2_with fail
  refine (cloneDoc_any _ _ d w3 (RItems.to H.out (Kp.below hB3)) hl).mono ?_
  rintro e w4 ⟨u4,rfl,hu4,hb4⟩
  have hB4:=hB3.trans (hb4.mono hB3.size)
  have hz3:=lt_of_heap hG3.out
  have hG4:=Lib.hid ((hb4.block _ hz3).trans hG3.out)
  have U4:=Lib.hid hu4.rd
  have U3':=Lib.hid (RItems.to U3.out (Kp.below hb4))
  obtain ⟨a3,c3,rfl,_⟩:=RdS.len U3.out
  obtain ⟨a4,c4,rfl,_⟩:=RdS.len U4.out
  have hfz2:∀ i,w4.frozen? ⟨w.heap.size,i,none⟩=false:=fun i=>Lib.frozen_of_heap hG4.out _
  have hz4:=lt_of_heap hG4.out
  obtain ⟨y0,y1,y2,y3,y4,y5,y6⟩:=P7.of hG4.out
  have zz2:=hB2.size
  have zz3:=hB3.size
  clear hu4 U3 hG3 hB2 hB3
  go_wp2
  obtain ⟨q1,q2⟩:=set7z hG4.out (.int .i64 0) (.slice a3 d.length c3) (.slice a4 d.length c4) (.int .i64 0) (.slice none 0 0) (.slice none 0 0) (.bool true)
  generalize hwz:(((((((w4.setCell ⟨w.heap.size,0,none⟩ _).setCell ⟨w.heap.size,1,none⟩ _).setCell ⟨w.heap.size,2,none⟩ _).setCell ⟨w.heap.size,3,none⟩ _).setCell ⟨w.heap.size,4,none⟩ _).setCell ⟨w.heap.size,5,none⟩ _).setCell ⟨w.heap.size,6,none⟩ _)=wz at *
  obtain ⟨z0,z1,z2,z3,z4,z5,z6⟩:=P7.of q1
  exact bodyPost_ret (v:=.tuple #[.agg #[.int .i64 0,.slice a3 d.length c3,.slice a4 d.length c4,.int .i64 0,.slice none 0 0,.slice none 0 0,.bool true],.int .i64 0]) (by simp [results,Tryz.results59,go_sem,z0,z1,z2,z3,z4,z5,z6]) rfl ⟨_,rfl,⟨_,_,_,_,rfl,RItems.to U3'.out (fun i hi hl'=>⟨Nat.le_trans zz2 hi,q2.same i hl' (by omega)⟩),RItems.to U4.out (fun i hi hl'=>⟨Nat.le_trans zz3 hi,q2.same i hl' (by omega)⟩),RdS.nil,RdS.nil⟩,hB4.trans (q2.bel.mono (Nat.le_refl _))⟩
 ·have hr:=hres.out
  rw [newC,if_pos hk] at hr
  cases hr
  have hk':(chkDoc d != 0)=true:=by simpa using hk
  have hfz2:∀ i,w2.frozen? ⟨w.heap.size,i,none⟩=false:=fun i=>Lib.frozen_of_heap hG2.out _
  have hz2:=lt_of_heap hG2.out
  obtain ⟨y0,y1,y2,y3,y4,y5,y6⟩:=P7.of hG2.out
  clear hk hres
  go_wp2
  obtain ⟨q1,q2⟩:=set7z hG2.out (.int .i64 0) (.slice none 0 0) (.slice none 0 0) (.int .i64 0) (.slice none 0 0) (.slice none 0 0) (.bool false)
  generalize hwz:(((((((w2.setCell ⟨w.heap.size,0,none⟩ _).setCell ⟨w.heap.size,1,none⟩ _).setCell ⟨w.heap.size,2,none⟩ _).setCell ⟨w.heap.size,3,none⟩ _).setCell ⟨w.heap.size,4,none⟩ _).setCell ⟨w.heap.size,5,none⟩ _).setCell ⟨w.heap.size,6,none⟩ _)=wz at *
  obtain ⟨z0,z1,z2,z3,z4,z5,z6⟩:=P7.of q1
  exact bodyPost_ret (v:=.tuple #[.agg #[.int .i64 0,.slice none 0 0,.slice none 0 0,.int .i64 0,.slice none 0 0,.slice none 0 0,.bool false],.int .i64 (chkDoc d)]) (by simp [results,Tryz.results59,go_sem,z0,z1,z2,z3,z4,z5,z6]) rfl ⟨_,rfl,RCl.zero,hB2.trans (q2.bel.mono (Nat.le_refl _))⟩
theorem wpList_appL {P:Program} {w:World} {ops:Array Oper} {rest:List Oper} {o:Oper} {a:Act} {Q:Exit→Act→World→Prop} (hgd:o.guard=none) (s x:Operand) (t:TypeId)
  (hop:o.op=.call { callee:=.builtin .append,args:=#[s,x],argTypes:=#[t,t] })
  {α:Type} (base e sz bytes:Nat) (z:Value) (hel:El P t e sz bytes z) (R:World→List Value→α→Prop) (v:Value) (L M:List α) (hs:a.eval s=v) (hown:OwnS base e sz R w v L)
  (F:Nat→Prop) (xv:Value) (hx:a.eval x=xv) (hsrc:RdS sz R F w xv M) (h1c:∀ w cs x,R w cs x→∀ u ∈ cs,u.oneCell'=true)
  (h63:L.length+M.length≤maxLen) (hbytes:(L.length+M.length) * bytes≤140737488355328) (hbase:base≤w.heap.size)
  (hRk:∀ w',w.grownBy w' v.ownBlock→∀ cs x,x ∈ L ++ M→R w cs x→R w' cs x)
  (h:∀ v' w',OwnS base e sz R w' v' (L ++ M)→w.grownBy w' v.ownBlock→Below base w w'→(v'.ownBlock=v.ownBlock∨v'.ownBlock=some w.heap.size)→wpList P ops Q rest (a.put o.dst v') w'):wpList P ops Q (o :: rest) a w:=by
 refine wpList_plain hgd fun K hK'=>?_
 obtain ⟨v',w',hrun,h1,h2,h3,h4⟩:=run_app (P:=P) (w:=w) t o.type base e sz bytes z hel R v L M hown F xv hsrc h1c h63 hbytes hbase hRk
 unfold Oper.wp
 simp [execOp,hop,resolve,invoke,builtin,hs,hx,hrun,Result.andThen]
 exact hK' _ _ (h v' w' h1 h2 h3 h4)
theorem run_mkQ (w:World) (n:Nat) (hn:n≤4):(Instr.makeSlice 28 (.int .i64 (n:Int)) (.int .i64 (n:Int))).run Tryz.prog w=.ok (.slice (some ⟨w.heap.size,0,none⟩) n n) (w.alloc (.cells (madeCells (Value.slice none 0 0).cells n) TS)):=by
 obtain ⟨i0,hi,hz0,hz1,hz2⟩:=info_parts elQ.info
 have h:=run_makeSlice (P:=Tryz.prog) (w:=w) 28 65 i0 _ Tryz.underlying28 hi hz0 .i64 .i64 (n:Int) (n:Int) (by omega) (Int.le_refl _) (by rw [hz1];simp;omega) (by rw [hz2];omega) (by omega)
 rw [hz1] at h
 simpa using h
set_option maxRecDepth 100000 in
set_option maxHeartbeats 4000000 in
theorem wdNew_anyZ (F Z0:Nat→Prop) (v:Value) (d:List It) (n:Int) (w:World) (hz0:∀ z,Z0 z→z < w.heap.size∧NoIt w z) (h:RItems F w v d) :
  Calls Tryz.prog 16 #[v,.int .i64 n] w fun e w'=>∃ v',e=.returned (.tuple #[v',.int .i64 (newWd d n).2])∧RWd (fun k=>¬ Z0 k) w' v' (newWd d n).1∧Below w.heap.size w w':=by
 have h:=RItems.to h (Kp.lt w)
 obtain ⟨a,cc,rfl,_⟩:=RdS.len h
 obtain ⟨w1,hw1⟩:∃ w1,w1=w.alloc wdZero:=⟨_,rfl⟩
 have hb1:Below w.heap.size w w1:=by rw [hw1];exact bal (brf w) _
 have hG:w1.heap[w.heap.size]?=some wdZero:=by rw [hw1];exact heap_at rfl
 have C:=Lib.hid (svNew_any _ _ d w1 (RItems.to h (Kp.below hb1)))
 have H:=Lib.hid h
 clear h
 obtain ⟨⟨R1,R2⟩,hres⟩:∃ r,Hid (newWd d n=r):=⟨_,Lib.hid rfl⟩
 rw [hres.out]
 go_enter Tryz.func16,Tryz.ntmps16
 go_upto_region 1 with fail
 rw [← hw1]
 clear hw1
 go_wp2_with fail
 refine C.out.mono ?_
 rintro e w2 ⟨v2,rfl,hs2,hb2⟩
 obtain ⟨_,_,_,rfl,_⟩:=id hs2
 obtain ⟨aa,ac,la,lc,na,nc,rfl,rfl,rfl⟩:=rsrv_shape hs2
 have hz:=lt_of_heap hG
 have hB2:=hb1.trans (hb2.mono hb1.size)
 have hG2:=(hb2.block _ hz).trans hG
 have RS2:=RSrv.to hs2 (Kp.lt w2)
 clear hG hb1 hb2 hz C hs2
 obtain ⟨w3,hw3⟩:∃ w3,w3=w2.alloc (.cells #[.slice aa (newS d).1.first.length ac,.slice la (newS d).1.log.length lc,.slice na (newS d).1.now.length nc] 26):=⟨_,rfl⟩
 have hb3:Below w2.heap.size w2 w3:=by rw [hw3];exact bal (brf w2) _
 have hN3:=heap_new w2 (.cells #[.slice aa (newS d).1.first.length ac,.slice la (newS d).1.log.length lc,.slice na (newS d).1.now.length nc] 26)
 rw [← hw3] at hN3
 have hB3:=hB2.trans (hb3.mono hB2.size)
 have hG3:=Lib.hid ((hb3.block _ (lt_of_heap hG2)).trans hG2)
 have RS3:=Lib.hid (RSrv.to (RSrv.neZ (Z:=Z0) (RSrv.ne RS2 (NoIt.zero6 hG2)) fun z hz=>NoIt.below (hz0 z hz).2 (hz0 z hz).1 hB2) fun k hk _=>⟨⟨⟨hk.1.1.2,hk.1.2⟩,hk.2⟩,hb3.block k hk.1.1.2⟩:RSrv (fun k=>(k < w2.heap.size∧k≠w.heap.size)∧¬ Z0 k) w3 _ _)
 have hN3:=Lib.hid hN3
 have hb3:=Lib.hid hb3
 clear RS2 hG2
 go_upto_region 2 with fail
 rw [← hw3]
 clear hw3
 have hfz:∀ i,w3.frozen? ⟨w.heap.size,i,none⟩=false:=fun i=>Lib.frozen_of_heap hG3.out _
 obtain ⟨y0,y1,y2,y3,y4,y5⟩:=P6.of hG3.out
 by_cases he:(newS d).2=0
 ·have hd0:chkDoc d=0:=by
   unfold newS at he
   split at he
   ·exact he
   ·rename_i h1;exact Decidable.not_not.1 h1
  have hsd:(newS d).1=⟨d,[],d⟩:=by simp [newS,hd0]
  have hcd:newC d=(⟨0,d,d,0,[],[],true⟩,0):=by simp [newC,hd0]
  by_cases h4:n < 1∨4 < n
  ·have e:=hres.out
   rw [newWd,if_neg (by simpa using he),if_pos h4] at e
   cases e
   have way:decide (n < 1)=true∨(decide (n < 1)=false∧decide (4 < n)=true):=by
    simp only [decide_eq_true_eq,decide_eq_false_iff_not];omega
   rw [he]
   clear hres h4 he hd0 hsd hcd
   rcases way with d1 | ⟨d1,d2⟩
   all_goals
    go_wp2_with fail
    obtain ⟨q1,q2,q3⟩:=set6 hG3.out rfl (.slice none 0 0) (.slice none 0 0) (.slice none 0 0) (.slice none 0 0) (.slice none 0 0) (.slice none 0 0)
    generalize hwz:((((((w3.setCell ⟨w.heap.size,0,none⟩ _).setCell ⟨w.heap.size,1,none⟩ _).setCell ⟨w.heap.size,2,none⟩ _).setCell ⟨w.heap.size,3,none⟩ _).setCell ⟨w.heap.size,4,none⟩ _).setCell ⟨w.heap.size,5,none⟩ _)=wz at *
    obtain ⟨z0,z1,z2,z3,z4,z5⟩:=P6.of q1
    exact bodyPost_ret (v:=.tuple #[.agg #[.slice none 0 0,.slice none 0 0,.slice none 0 0,.slice none 0 0,.slice none 0 0,.slice none 0 0],.int .i64 3]) (by simp [results,Tryz.results16,go_sem,z0,z1,z2,z3,z4,z5]) rfl ⟨_,rfl,RWd.zero,hB3.trans (q3 _ (Nat.le_refl _))⟩
  ·obtain ⟨k,rfl⟩:∃ k:Nat,n=k:=⟨n.toNat,by omega⟩
   have hk1:1≤k∧k≤4:=by omega
   have e:=hres.out
   rw [newWd,if_neg (by simpa using he),if_neg h4,Int.toNat_natCast] at e
   simp only [Prod.mk.injEq] at e
   obtain ⟨e1,rfl⟩:=e
   have hR:=Lib.hid e1
   have t1:decide ((k:Int) < 1)=false:=by simp;omega
   have t2:decide (4 < (k:Int))=false:=by simp;omega
   have hmk:=fun w=>run_mkQ w k hk1.2
   have hZ:∀ i,i < k→(madeCells (Value.slice none 0 0).cells k)[i]?=some (.slice none 0 0):=fun i hi=>made_get i hi rfl
   generalize madeCells (Value.slice none 0 0).cells k=Z at hmk hZ
   have hZ:=Lib.hid hZ
   obtain ⟨x0,x1,x2⟩:=P3.of hN3.out
   have hsd':=Lib.hid hsd
   obtain ⟨c0,hc0⟩:∃ c0:Cl,c0=⟨0,d,d,0,[],[],true⟩:=⟨_,rfl⟩
   rw [← hc0] at hcd
   have hcd':=Lib.hid hcd
   have hc0':=Lib.hid hc0
   clear hsd hcd hc0
   have hal:∀ (i:Nat) v,w3.cell? ⟨w2.heap.size,i,none⟩=some v→(∀ o,(w3.alloc o).cell? ⟨w2.heap.size,i,none⟩=some v)∧(∀ o o',((w3.alloc o).alloc o').cell? ⟨w2.heap.size,i,none⟩=some v)∧∀ o o' o'',(((w3.alloc o).alloc o').alloc o'').cell? ⟨w2.heap.size,i,none⟩=some v:=fun i v hv =>
    ⟨fun _=>((bal (brf w3) _).cell (lt_of_cell hv)).trans hv,fun _ _=>((bal (bal (brf w3) _) _).cell (lt_of_cell hv)).trans hv,fun _ _ _=>((bal (bal (bal (brf w3) _) _) _).cell (lt_of_cell hv)).trans hv⟩
   obtain ⟨x01,x02,x03⟩:=hal 0 _ x0
   obtain ⟨x11,x12,x13⟩:=hal 1 _ x1
   obtain ⟨x21,x22,x23⟩:=hal 2 _ x2
   rw [he]
   clear hres h4 he e1 hfz y0 y1 y2 y3 y4 y5 hal
   go_upto_region 6 with fail
   go_cut [8] (fun t8 wx=>∃ b pa pb,t8=.pointer (some ⟨b,0,none⟩)∧wx.heap[b]?=some (.cells #[.slice aa (newS d).1.first.length ac,.slice la (newS d).1.log.length lc,.slice na (newS d).1.now.length nc,.slice none 0 0,.slice (some ⟨pa,0,none⟩) k k,.slice (some ⟨pb,0,none⟩) k k] TW (0,0))∧wx.heap[pa]?=some (.cells Z TS (0,0))∧wx.heap[pb]?=some (.cells Z TS (0,0))∧w3.heap.size≤b∧w3.heap.size≤pa∧w3.heap.size≤pb∧Below w3.heap.size w3 wx)
   case first =>
    go_region
    all_goals
     go_wp2_with fail
     go_meet
     first
      | exact ⟨_,w3.heap.size,w3.heap.size+1,rfl,heap3_2 ..,heap3_0 ..,heap3_1 ..,by omega,by omega,by omega,(bal (bal (bal (brf w3) _) _) _).drew⟩
      | exact ⟨_,w3.heap.size+1,w3.heap.size,rfl,heap3_2 ..,heap3_1 ..,heap3_0 ..,by omega,by omega,by omega,(bal (bal (bal (brf w3) _) _) _).drew⟩
      | exact ⟨_,w3.heap.size,w3.heap.size+1+1,rfl,heap3_1 ..,heap3_0 ..,heap3_2 ..,by omega,by omega,by omega,(bal (bal (bal (brf w3) _) _) _).drew⟩
      | exact ⟨_,w3.heap.size+1+1,w3.heap.size,rfl,heap3_1 ..,heap3_2 ..,heap3_0 ..,by omega,by omega,by omega,(bal (bal (bal (brf w3) _) _) _).drew⟩
      | exact ⟨_,w3.heap.size+1,w3.heap.size+1+1,rfl,heap3_0 ..,heap3_1 ..,heap3_2 ..,by omega,by omega,by omega,(bal (bal (bal (brf w3) _) _) _).drew⟩
      | exact ⟨_,w3.heap.size+1+1,w3.heap.size+1,rfl,heap3_0 ..,heap3_2 ..,heap3_1 ..,by omega,by omega,by omega,(bal (bal (bal (brf w3) _) _) _).drew⟩
   case rest =>
    obtain ⟨b,pa,pb,rfl,Eb,Ea,Ed,zb,za,zd,hbx⟩:=hcut
    have hzx:=hbx.size
    have hbl:=lt_of_heap Eb
    have h3x:Hid (Below w.heap.size w wc):=Lib.hid (hB3.trans (hbx.mono hB3.size))
    have Eb:=Lib.hid Eb
    have hbx:=Lib.hid hbx
    have Ea:=Lib.hid Ea
    have Ed:=Lib.hid Ed
    clear x0 x1 x2 x01 x02 x03 x11 x12 x13 x21 x22 x23 hmk
    go_wp2_with fail
    go_loopw [34] (fun i wr=>∃ (j:Nat) (rv:Value),j≤k∧i=.int .i64 j∧Hid (wr.heap[b]?=some (.cells #[.slice aa (newS d).1.first.length ac,.slice la (newS d).1.log.length lc,.slice na (newS d).1.now.length nc,rv,.slice (some ⟨pa,0,none⟩) k k,.slice (some ⟨pb,0,none⟩) k k] TW (0,0)))∧Hid (OwnS wc.heap.size TC 7 (RClc fun m=>w3.heap.size≤m∧rv.ownBlock≠some m∧m≠b) wr rv (List.replicate j c0))∧Hid (∀ m,m < wc.heap.size→m≠b→wr.heap[m]?=wc.heap[m]?)∧Hid (Below w3.heap.size w3 wr)∧wc.heap.size≤wr.heap.size) (fun i _=>k - (intOf i).toNat)
    case atStart=>exact ⟨0,.slice none 0 0,Nat.zero_le _,rfl,Eb,Lib.hid OwnS.nil,Lib.hid (fun _ _ _=>rfl),hbx,Nat.le_refl _⟩
    case round =>
     obtain ⟨j,rv,hj,rfl,EB,RO,KX,BX,hsx⟩:=hrel
     obtain ⟨wo,hwo⟩:∃ wo,wo=wr:=⟨_,rfl⟩
     subst hwo
     obtain ⟨ra,rc,rfl⟩:∃ p c,rv=.slice p j c:=by obtain ⟨p,c,e,_⟩:=RdS.len RO.out.rd;rw [List.length_replicate] at e;exact ⟨p,c,e⟩
     have Bw:=hB3.trans (BX.out.mono hB3.size)
     by_cases hlt:j < k
     ·have C:=clNew_N _ (.slice a d.length cc) d wo (RItems.to H.out (Kp.below Bw))
      rw [hcd'.out] at C
      have C:=Lib.hid C
      go_wp2_with fail
      refine C.out.mono ?_
      rintro e w5 ⟨v5,rfl,hv5,hb5⟩
      obtain ⟨bb,nn,ss,kk,rfl,r1,r2,r3,r4⟩:=hv5
      obtain ⟨b1,b2,rfl,_⟩:=RdS.len r1
      obtain ⟨n1,n2,rfl,_⟩:=RdS.len r2
      obtain ⟨s1,s2,rfl,_⟩:=RdS.len r3
      obtain ⟨k1,k2,rfl,_⟩:=RdS.len r4
      have hz5:=hb5.size
      obtain ⟨w6,hw6⟩:∃ w6,w6=w5.alloc (.cells #[.int .i64 c0.rev,.slice b1 c0.base.length b2,.slice n1 c0.now.length n2,.int .i64 c0.seq,.slice s1 c0.sent.length s2,.slice k1 c0.held.length k2,.bool c0.joined] TC):=⟨_,rfl⟩
      have hb6:Below w5.heap.size w5 w6:=by rw [hw6];exact bal (brf w5) _
      have hN6:=heap_new w5 (.cells #[.int .i64 c0.rev,.slice b1 c0.base.length b2,.slice n1 c0.now.length n2,.int .i64 c0.seq,.slice s1 c0.sent.length s2,.slice k1 c0.held.length k2,.bool c0.joined] TC)
      rw [← hw6] at hN6
      have hb56:=hb5.trans (hb6.mono hz5)
      have E6:=(hb56.block _ (lt_of_heap EB.out)).trans EB.out
      obtain ⟨_,_,_,y3,_,_⟩:=P6.of E6
      obtain ⟨q0,q1,q2,q3,q4,q5,q6⟩:=cell7 hN6
      obtain ⟨w7,hw7⟩:∃ w7,w7=w6.alloc (.cells #[.int .i64 c0.rev,.slice b1 c0.base.length b2,.slice n1 c0.now.length n2,.int .i64 c0.seq,.slice s1 c0.sent.length s2,.slice k1 c0.held.length k2,.bool c0.joined] TC):=⟨_,rfl⟩
      have hb7:Below w6.heap.size w6 w7:=by rw [hw7];exact bal (brf w6) _
      have hb57:=hb56.trans (hb7.mono hb56.size)
      have hzb:b < wo.heap.size:=Nat.lt_of_lt_of_le hbl hsx
      have hown6:∀ m,(.slice ra j rc:Value).ownBlock=some m→m < wo.heap.size:=fun m e=>(RO.out.own_lt e).2
      have RO7:=Lib.hid (RO.out.to (w':=w7) (R':=RClc fun m=>(w3.heap.size≤m∧(Value.slice ra j rc).ownBlock≠some m∧m≠b)∧m < w6.heap.size) (fun m _ hl=>hb57.block m hl) (fun _ _ _ r=>RClc.to r fun m hm hl=>⟨⟨hm,by have:=hb56.size;omega⟩,hb57.block m hl⟩))
      have hNm:∀ m,wo.heap.size≤m→m < w5.heap.size→(fun m=>(w3.heap.size≤m∧(Value.slice ra j rc).ownBlock≠some m∧m≠b)∧m < w6.heap.size) m:=fun m h1 h2=>⟨⟨by omega,fun e=>by have:=hown6 m e;omega,by omega⟩,by have:=hb6.size;omega⟩
      have kp7:Kp (wo.heap.size≤·) (fun m=>(w3.heap.size≤m∧(Value.slice ra j rc).ownBlock≠some m∧m≠b)∧m < w6.heap.size) w5 w7:=fun m hm hl=>⟨hNm m hm hl,(hb6.trans (hb7.mono hb6.size)).block m hl⟩
      have hsrc:RdS 7 (RClc fun m=>(w3.heap.size≤m∧(Value.slice ra j rc).ownBlock≠some m∧m≠b)∧m < w6.heap.size) (fun _=>True) w7 (.slice (some ⟨w6.heap.size,0,none⟩) 1 1) [c0]:=by
       have hr:RClc (fun m=>(w3.heap.size≤m∧(Value.slice ra j rc).ownBlock≠some m∧m≠b)∧m < w6.heap.size) w7 [.int .i64 c0.rev,.slice b1 c0.base.length b2,.slice n1 c0.now.length n2,.int .i64 c0.seq,.slice s1 c0.sent.length s2,.slice k1 c0.held.length k2,.bool c0.joined] c0:=⟨_,_,_,_,rfl,RItems.to r1 kp7,RItems.to r2 kp7,ROp.to r3 kp7,ROp.to r4 kp7⟩
       rw [hw7] at hr ⊢
       exact RdS.one [.int .i64 c0.rev,.slice b1 c0.base.length b2,.slice n1 c0.now.length n2,.int .i64 c0.seq,.slice s1 c0.sent.length s2,.slice k1 c0.held.length k2,.bool c0.joined] TC rfl trivial hr
      have hsrc:=Lib.hid hsrc
      have hz67:=hb57.size
      have hz36:wc.heap.size≤w7.heap.size:=by omega
      have E7:=Lib.hid ((hb7.block _ (lt_of_heap E6)).trans E6)
      have hb57:=Lib.hid hb57
      have hTC:∀ w',w7.grownBy w' (.slice ra j rc:Value).ownBlock→w'.heap[b]?=w7.heap[b]?:=fun w' hg=>hg.block b (lt_of_heap E7.out) fun e=>by
       obtain ⟨_,xs,e1⟩:=RO7.out.cells e.symm
       rw [E7.out] at e1
       cases e1
      have hTC:=Lib.hid hTC
      clear r1 r2 r3 r4 kp7 hNm hown6 E6 hN6 hb6 hb56 hb5 C
      go_upto_region 10 with fail
      rw [← hw6]
      clear hw6
      subst hw7
      go_wp2_with (at_builtin;refine wpList_appL rfl (.tmp 42) (.tmp 44) 27 rfl wc.heap.size TC 7 120 _ elCl (RClc fun m=>(w3.heap.size≤m∧(Value.slice ra j rc).ownBlock≠some m∧m≠b)∧m < w6.heap.size) (.slice ra j rc) (List.replicate j c0) [c0] rfl RO7.out (fun _=>True) (.slice (some ⟨w6.heap.size,0,none⟩) 1 1) rfl hsrc.out (fun _ _ _ r=>RClc_one _ r) (by simp [maxLen];omega) (by simp;omega) hz36 (fun w' hg cs y _ r=>RClc.to r fun m hm hl=>⟨hm,hg.block m hl (fun e=>hm.1.2.1 e.symm)⟩) ?_;intro v8 w8 ho8 hg8 hB8 hloc;obtain ⟨va,vc8,rfl⟩:∃ p c,v8=.slice p (j+1) c:=(by obtain ⟨p,c,e,_⟩:=RdS.len ho8.rd;exact ⟨p,c,by simpa using e⟩);have E8:=(hTC.out w8 hg8).trans E7.out;have y8:=(P6.of E8).2.2.2.1;have f8:∀ i,w8.frozen? ⟨b,i,none⟩=false:=fun i=>Lib.frozen_of_heap E8 _)
      refine ⟨⟨j+1,.slice va (j+1) vc8,by omega,by go_num,Lib.hid ?_,Lib.hid ?_,Lib.hid ?_,Lib.hid ?_, ?_⟩,by simp [intOf];omega⟩
      ·exact heap_setCell_same _ _ 3 _ _ _ E8
      ·rw [List.replicate_succ']
       refine ho8.to (fun m e _=>heap_setCell_other _ _ m _ (fun e'=>by have:=(ho8.own_lt e).1;have e2:m=b:=e';omega)) (fun _ _ _ r=>RClc.to r fun m hm _=>⟨⟨hm.1.1,fun e=>?_,hm.1.2.2⟩,heap_setCell_other _ _ m _ hm.1.2.2⟩)
       rcases hloc with hloc | hloc
       ·exact hm.1.2.1 (by rw [← hloc];exact e)
       ·rw [hloc] at e
        have h1:=hm.2
        simp at e
        omega
      ·intro m hm hne
       exact (heap_setCell_other _ _ m _ hne).trans ((hB8.block m hm).trans ((hb57.out.block m (Nat.lt_of_lt_of_le hm hsx)).trans (KX.out m hm hne)))
      ·exact (BX.out.trans ((hb57.out.mono BX.out.size).trans (hB8.mono hzx))).setCell (p:=⟨b,3,none⟩) zb _
      ·have h1:=hB8.size
       have h2:=hb57.out.size
       have h3:(w8.setCell ⟨b,3,none⟩ (.slice va (j+1) vc8)).heap.size=w8.heap.size:=by simp
       rw [h3]
       exact Nat.le_trans hsx (Nat.le_trans h2 h1)
     ·obtain rfl:j=k:=by omega
      have hg3:=lt_of_heap hG3.out
      have EZ:=(BX.out.block _ hg3).trans hG3.out
      have fz:∀ i,wo.frozen? ⟨w.heap.size,i,none⟩=false:=fun i=>Lib.frozen_of_heap EZ _
      obtain ⟨x0,x1,x2,x3,x4,x5⟩:=P6.of EB.out
      obtain ⟨y0,y1,y2,y3,y4,y5⟩:=P6.of EZ
      have hpa:pa≠b:=fun e=>by have h1:=Ea.out;rw [e,Eb.out] at h1;cases h1
      have hpb:pb≠b:=fun e=>by have h1:=Ed.out;rw [e,Eb.out] at h1;cases h1
      go_wp2
      obtain ⟨q1,q2,q3⟩:=set6 EZ rfl (.slice aa (newS d).1.first.length ac) (.slice la (newS d).1.log.length lc) (.slice na (newS d).1.now.length nc) (.slice ra j rc) (.slice (some ⟨pa,0,none⟩) j j) (.slice (some ⟨pb,0,none⟩) j j)
      generalize hwz:((((((wo.setCell ⟨w.heap.size,0,none⟩ _).setCell ⟨w.heap.size,1,none⟩ _).setCell ⟨w.heap.size,2,none⟩ _).setCell ⟨w.heap.size,3,none⟩ _).setCell ⟨w.heap.size,4,none⟩ _).setCell ⟨w.heap.size,5,none⟩ _)=wz at *
      obtain ⟨z0,z1,z2,z3,z4,z5⟩:=P6.of q1
      have hres:RWd (fun k=>¬ Z0 k) wz (.agg #[.slice aa (newS d).1.first.length ac,.slice la (newS d).1.log.length lc,.slice na (newS d).1.now.length nc,.slice ra j rc,.slice (some ⟨pa,0,none⟩) j j,.slice (some ⟨pb,0,none⟩) j j]) R1:=by
       rw [← hR.out]
       have es:(newW d j).s=(newS d).1:=by rw [hsd'.out];rfl
       have ec:(newW d j).cl=List.replicate j c0:=by rw [hc0'.out];rfl
       have hz23:=hb3.out.size
       have hzw:=hB2.size
       refine ⟨_,_,_,_,_,_,rfl, ?_, ?_, ?_, ?_⟩
       ·rw [es]
        exact RSrv.to RS3.out fun m hm hl=>⟨hm.2,(q2 m hm.1.2).trans (BX.out.block m hl)⟩
       ·rw [ec]
        exact RdS.to RO.out.rd (by decide) (fun m hm _=>⟨fun hh=>by have hm':wc.heap.size≤m:=hm;have:=(hz0 m hh).1;omega,q2 m (by have hm':wc.heap.size≤m:=hm;omega)⟩) (fun _ _ _ r=>RClc.to r fun m hm _=>⟨fun hh=>by have:=(hz0 m hh).1;omega,q2 m (by omega)⟩)
       ·exact RQs.fresh ((q2 pa (by omega)).trans ((KX.out pa (lt_of_heap Ea.out) hpa).trans Ea.out)) hZ.out (fun hh=>by have:=(hz0 pa hh).1;omega) (by simp [maxLen];omega)
       ·exact RQs.fresh ((q2 pb (by omega)).trans ((KX.out pb (lt_of_heap Ed.out) hpb).trans Ed.out)) hZ.out (fun hh=>by have:=(hz0 pb hh).1;omega) (by simp [maxLen];omega)
      exact bodyPost_ret (v:=.tuple #[.agg #[.slice aa (newS d).1.first.length ac,.slice la (newS d).1.log.length lc,.slice na (newS d).1.now.length nc,.slice ra j rc,.slice (some ⟨pa,0,none⟩) j j,.slice (some ⟨pb,0,none⟩) j j],.int .i64 0]) (by simp [results,Tryz.results16,go_sem,z0,z1,z2,z3,z4,z5]) rfl ⟨_,rfl,hres,Bw.trans (q3 _ (Nat.le_refl _))⟩
 ·have e:=hres.out
  rw [newWd,if_pos he] at e
  cases e
  have he':((newS d).2 != 0)=true:=by simpa using he
  clear hres he
  go_wp2_with fail
  obtain ⟨q1,q2,q3⟩:=set6 hG3.out rfl (.slice none 0 0) (.slice none 0 0) (.slice none 0 0) (.slice none 0 0) (.slice none 0 0) (.slice none 0 0)
  generalize hwz:((((((w3.setCell ⟨w.heap.size,0,none⟩ _).setCell ⟨w.heap.size,1,none⟩ _).setCell ⟨w.heap.size,2,none⟩ _).setCell ⟨w.heap.size,3,none⟩ _).setCell ⟨w.heap.size,4,none⟩ _).setCell ⟨w.heap.size,5,none⟩ _)=wz at *
  obtain ⟨z0,z1,z2,z3,z4,z5⟩:=P6.of q1
  exact bodyPost_ret (v:=.tuple #[.agg #[.slice none 0 0,.slice none 0 0,.slice none 0 0,.slice none 0 0,.slice none 0 0,.slice none 0 0],.int .i64 (newS d).2]) (by simp [results,Tryz.results16,go_sem,z0,z1,z2,z3,z4,z5]) rfl ⟨_,rfl,RWd.zero,hB3.trans (q3 _ (Nat.le_refl _))⟩
theorem wdNew_any (F:Nat→Prop) (v:Value) (d:List It) (n:Int) (w:World) (h:RItems F w v d) :
  Calls Tryz.prog 16 #[v,.int .i64 n] w fun e w'=>∃ v',e=.returned (.tuple #[v',.int .i64 (newWd d n).2])∧RWd (fun _=>True) w' v' (newWd d n).1∧Below w.heap.size w w':=by
 refine (wdNew_anyZ F (fun _=>False) v d n w (fun _ h=>h.elim) h).mono ?_
 rintro e w' ⟨v',rfl,hv,hb⟩
 exact ⟨v',rfl,RWd.to hv (fun k _ _=>⟨trivial,rfl⟩),hb⟩
end Go.Proofs.YteikncnldbdfmaaGreatDoor
