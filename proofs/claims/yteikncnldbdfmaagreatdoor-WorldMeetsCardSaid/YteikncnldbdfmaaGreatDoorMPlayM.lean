import Derived.Test.YteikncnldbdfmaaGreatDoorMBr
namespace Go.Proofs.YteikncnldbdfmaaGreatDoor
open Go Go.RowKit Go.Mh
set_option maxRecDepth 100000 in
set_option maxHeartbeats 8000000 in
theorem playedM_any (F G:Nat→Prop) (v u:Value) (d:List It) (n:Int) (l:List Hap) (w:World) (hd:RItems F w v d) (hl:RHaps G w u l) (hm:∃ m,w.cell? ⟨2,0,none⟩=some (.int .i64 m)) (hc:chkDoc d=0) (h1:1≤n) (h4:n≤4)
  (hok:∀ (V:Wd) (q:Value) (w':World),RWd (fun _=>True) w' q V→Inv V→Calls Tryz.prog 28 #[q] w' fun e w''=>e=.returned (.bool true)∧Below w'.heap.size w' w'') :
  Calls Tryz.prog 26 #[v,.int .i64 n,u,.func (.func 28) #[] #[]] w fun e w'=>∃ r V,e=.returned (.tuple #[r,.bool true])∧RWd (fun _=>True) w' r V∧Inv V∧Below w.heap.size w w':=by
 have hd:=RItems.to hd (Kp.lt w)
 have HL:=Lib.hid (RHaps.to hl (Kp.lt w))
 obtain ⟨aa,ac,rfl,_⟩:=RdS.len hd
 obtain ⟨la,lc,rfl,hll⟩:=RdS.len hl
 obtain ⟨w1,hw1⟩:∃ w1,w1=w.alloc wdZero:=⟨_,rfl⟩
 have hb1:Below w.heap.size w w1:=by rw [hw1];exact bal (brf w) _
 have E1:w1.heap[w.heap.size]?=some wdZero:=by rw [hw1];exact heap_at rfl
 obtain ⟨k0,rfl⟩:∃ k0:Nat,n=k0:=⟨n.toNat,by omega⟩
 have hI0:Inv (newW d k0):=inv_new hc (by omega) (by omega)
 have C:=wdNew_anyZ _ (fun k=>k=w.heap.size) _ d k0 w1 (fun z hz=>by subst hz;exact ⟨lt_of_heap E1,NoIt.zero6 E1⟩) (RItems.to hd (Kp.below hb1))
 have e0:newWd d k0=(newW d k0,0):=by
  unfold newWd newS
  rw [if_neg (by simp [hc]),if_neg (by omega)]
  simp
 rw [e0] at C
 replace C:=Lib.hid C
 replace hI0:=Lib.hid hI0
 replace hm:=Lib.hid hm
 replace hok:=Lib.hid hok
 replace E1:=Lib.hid E1
 replace hb1:=Lib.hid hb1
 clear hd hl h1 h4 hc e0
 go_enter Tryz.func26,Tryz.ntmps26
 go_upto_region 1 with fail
 rw [← hw1]
 clear hw1
 go_wp2_with fail
 refine C.out.mono ?_
 rintro e w2 ⟨v2,rfl,hv2,hb2⟩
 obtain ⟨a1,a2,l1,l2,n1,n2,c1,c2,u1,u2,d1,d2,rfl⟩:=RWd.shape hv2
 obtain ⟨W,hW⟩:∃ W,W=newW d k0:=⟨_,rfl⟩
 rw [← hW] at hI0 hv2
 rw [← hW]
 obtain ⟨w3,hw3⟩:∃ w3,w3=w2.alloc (.cells #[.slice a1 W.s.first.length a2,.slice l1 W.s.log.length l2,.slice n1 W.s.now.length n2,.slice c1 W.cl.length c2,.slice u1 W.up.length u2,.slice d1 W.down.length d2] 30):=⟨_,rfl⟩
 have hb3:Below w2.heap.size w2 w3:=by rw [hw3];exact bal (brf w2) _
 have E3:=heap_new w2 (.cells #[.slice a1 W.s.first.length a2,.slice l1 W.s.log.length l2,.slice n1 W.s.now.length n2,.slice c1 W.cl.length c2,.slice u1 W.up.length u2,.slice d1 W.down.length d2] 30)
 rw [← hw3] at E3
 have hlt1:=lt_of_heap E1.out
 have hb12:=hb1.out.trans (hb2.mono hb1.out.size)
 have hB3:=hb12.trans (hb3.mono hb12.size)
 have Z3:=((hb2.trans (hb3.mono hb2.size)).block _ hlt1).trans E1.out
 obtain ⟨g,hg⟩:∃ g,g=w2.heap.size:=⟨_,rfl⟩
 rw [← hg] at E3
 have hg3:=lt_of_heap E3
 have hv3:=RWd.to (F':=fun k=>¬ (k=w.heap.size∨k=g)) (RWd.to hv2 (Kp.lt w2)) (fun k hk _=>⟨by rintro (h | h);exact hk.1 h;(have:=hk.2;omega),hb3.block k hk.2⟩)
 replace hv3:=Lib.hid hv3
 replace E3:=Lib.hid E3
 replace Z3:=Lib.hid Z3
 replace hB3:=Lib.hid hB3
 have hg0:w.heap.size < g:=by have:=hb2.size;omega
 clear hv2 hb2 hb3 hb12 E1 hb1 C hlt1 hW
 go_upto_region 2 with fail
 rw [← hw3,← hg]
 clear hw3 hg
 obtain ⟨m,hmm,hml,hm100⟩:∃ m:Nat,min (l.length:Int) 100=m∧m≤l.length∧m≤100:=⟨min l.length 100,by omega,by omega,by omega⟩
 have hlc:m≤lc:=by
  obtain ⟨_,_,e,h1,_⟩:=HL.out
  cases e
  omega
 go_wp2_with fail
 replace hmm:=Lib.hid hmm
 replace hml:=Lib.hid hml
 replace hlc:=Lib.hid hlc
 go_loopw [31] (fun i wr=>∃ (k:Nat) (V:Wd) (bv:Value),k≤m∧i=.int .i64 k∧Hid (Inv V)∧Hid (∃ xs,bv=.agg xs∧xs.size=6∧wr.heap[g]?=some (.cells xs TW (0,0)))∧Hid (wr.heap[w.heap.size]?=some wdZero)∧Hid (RWd (fun k=>¬ (k=w.heap.size∨k=g)) wr bv V)∧Hid (Below w.heap.size w wr)) (fun i _=>m - (intOf i).toNat)
 case atStart=>exact ⟨0,W,_,Nat.zero_le _,rfl,hI0,Lib.hid ⟨_,rfl,rfl,E3.out⟩,Z3,hv3,hB3⟩
 case round =>
  clear E3 Z3 hv3 hI0 hg3
  obtain ⟨k,V,bv,hk,rfl,hI,Hg,Hz,Hv,HB⟩:=hrel
  obtain ⟨wo,hwo⟩:∃ wo,wo=wr:=⟨_,rfl⟩
  subst hwo
  obtain ⟨a1,a2,l1,l2,n1,n2,c1,c2,u1,u2,d1,d2,rfl⟩:=RWd.shape Hv.out
  replace Hg:Hid (wo.heap[g]?=some (.cells #[.slice a1 V.s.first.length a2,.slice l1 V.s.log.length l2,.slice n1 V.s.now.length n2,.slice c1 V.cl.length c2,.slice u1 V.up.length u2,.slice d1 V.down.length d2] TW (0,0))):=Lib.hid (by
   obtain ⟨xs,e1,_,e2⟩:=Hg.out
   cases e1
   exact e2)
  by_cases hlt:k < m
  ·obtain ⟨x,hx⟩:∃ x,l[k]?=some x:=⟨_,List.getElem?_eq_getElem (by have:=hml.out;omega)⟩
   obtain ⟨b,o,oa,oc,ba,bc,e1,ho,hbb,p0,p1,p2,p3,p4⟩:=RHaps.at HL.out HB.out hx
   subst e1
   have hbs:b < wo.heap.size:=lt_of_cell p0
   obtain ⟨w5,hw5⟩:∃ w5,w5=wo.alloc (.cells #[.int .i64 x.kind,.int .i64 x.client,.int .i64 x.n,.slice oa x.o.length oc,.slice ba x.b.length bc] 43):=⟨_,rfl⟩
   have hb5:Below wo.heap.size wo w5:=by rw [hw5];exact bal (brf wo) _
   have E5:=heap_new wo (.cells #[.int .i64 x.kind,.int .i64 x.client,.int .i64 x.n,.slice oa x.o.length oc,.slice ba x.b.length bc] 43)
   rw [← hw5] at E5
   have hgo:=lt_of_heap Hg.out
   have hzo:=lt_of_heap Hz.out
   have Hg5:=Lib.hid ((hb5.block _ hgo).trans Hg.out)
   have Hz5:=Lib.hid ((hb5.block _ hzo).trans Hz.out)
   have Hv5:=Lib.hid (RWd.to Hv.out (Kp.below hb5))
   have HB5:=Lib.hid (HB.out.trans (hb5.mono HB.out.size))
   have HX5:RHap (fun _=>True) w5 (.agg #[.int .i64 x.kind,.int .i64 x.client,.int .i64 x.n,.slice oa x.o.length oc,.slice ba x.b.length bc]) x:=⟨oa,oc,ba,bc,rfl,ROp.to ho fun m hm _=>⟨trivial,HB5.out.block m hm.2⟩,RBytes.to hbb fun m hm _=>⟨trivial,HB5.out.block m hm.2⟩⟩
   replace HX5:=Lib.hid HX5
   replace E5:=Lib.hid E5
   replace hb5:=Lib.hid hb5
   have hk':=Lib.hid hk
   clear Hg Hz Hv HB ho hbb hgo hzo hk
   go_upto_region 7 with fail
   rw [← hw5]
   clear hw5 p0 p1 p2 p3 p4
   have hne:∀ c ∈ V.cl,c.now≠[]:=fun c h=>(chkDoc_ok ((WOk.of (Inv.chk hI.out)).cl c h).ndoc).1
   replace hne:=Lib.hid hne
   have hzo:=Lib.hid hb5.out.size
   go_cut [14,15] (fun s14 s15 wx=>∃ (G:Nat) (E:Int) (V':Wd) (y:Hap) (a1:Option Addr) (a2:Nat) (l1:Option Addr) (l2:Nat) (n1:Option Addr) (n2:Nat) (c1:Option Addr) (c2:Nat) (u1:Option Addr) (u2:Nat) (d1:Option Addr) (d2:Nat),s14=.pointer (some ⟨G,0,none⟩)∧s15=.int .i64 E∧doW sanP V y=(V',E)∧wx.heap[G]?=some (.cells #[.slice a1 V'.s.first.length a2,.slice l1 V'.s.log.length l2,.slice n1 V'.s.now.length n2,.slice c1 V'.cl.length c2,.slice u1 V'.up.length u2,.slice d1 V'.down.length d2] TW (0,0))∧RWd (fun k=>¬ (k=w.heap.size∨k=g∨k=G)) wx (.agg #[.slice a1 V'.s.first.length a2,.slice l1 V'.s.log.length l2,.slice n1 V'.s.now.length n2,.slice c1 V'.cl.length c2,.slice u1 V'.up.length u2,.slice d1 V'.down.length d2]) V'∧w5.heap.size≤G∧Below w5.heap.size w5 wx)
   case first =>
    refine wp_region_held (S:=fun w'=>Below w5.heap.size w5 w') (by kernel_rfl) ?_
    have S0:=(brf w5).drew
    refine tD 0 36 (v:=?_) S0 ?_ ?_
    rotate_left
    ·(intro w' hw';obtain ⟨x0,x1,x2,x3,x4,x5⟩:=P6.of ((Below.block hw' _ (lt_of_heap Hg5.out)).trans Hg5.out);go_simp;try with_reducible rfl)
    simp only [List.set_cons_zero,List.set_cons_succ]
    refine tD 1 37 (v:=?_) S0 ?_ ?_
    rotate_left
    ·(intro w' hw';obtain ⟨x0,x1,x2,x3,x4,x5⟩:=P6.of ((Below.block hw' _ (lt_of_heap Hg5.out)).trans Hg5.out);go_simp;try with_reducible rfl)
    simp only [List.set_cons_zero,List.set_cons_succ]
    refine tD 2 38 (v:=?_) S0 ?_ ?_
    rotate_left
    ·(intro w' hw';obtain ⟨y0,y1,y2,y3,y4⟩:=cell5 ((Below.block hw' _ (lt_of_heap E5.out)).trans E5.out);go_simp;try with_reducible rfl)
    simp only [List.set_cons_zero,List.set_cons_succ]
    refine wpAnyH_or 3 8 rfl rfl (by kernel_rfl) (fun K' hK'=>?_) (fun K' hK'=>?_)
    ·skip
     rw [if_pos (by rfl)]
     go_simp
     go_at_call 83
     refine (fitted_any _ _ _ _ V x _ (RWd.to Hv5.out (Kp.below S0)) (RHap.to HX5.out (Kp.below S0)) hne.out).mono ?_
     rintro e wa ⟨r,y,rfl,hr,hba⟩
     dsimp only
     have Sa:=btr S0 hba
     refine hK'.out _ _ Sa ?_
     clear hK' K'
     refine wpAnyH_or 4 8 rfl rfl (by kernel_rfl) (fun K' hK'=>?_) (fun K' hK'=>?_)
     ·skip
      have hZ:∀ z,(fun k=>k=w.heap.size∨k=g) z→z < wa.heap.size∧NoIt wa z:=fun z hz=>by
       rcases hz with rfl | rfl
       ·exact ⟨lt_of_heap ((Below.block Sa _ (lt_of_heap Hz5.out)).trans Hz5.out),NoIt.zero6 ((Below.block Sa _ (lt_of_heap Hz5.out)).trans Hz5.out)⟩
       ·exact ⟨lt_of_heap ((Below.block Sa _ (lt_of_heap Hg5.out)).trans Hg5.out),NoIt.six ((Below.block Sa _ (lt_of_heap Hg5.out)).trans Hg5.out)⟩
      have CD:=wdDo_anyZ (fun _=>True) (fun k=>k=w.heap.size∨k=g) _ r V y wa hZ (RWd.to Hv5.out fun k _ hl=>⟨trivial,Below.block Sa k hl⟩) (RHap.to hr (Kp.weak _ fun _ _=>trivial)) (max_keep hm.out (btr HB5.out Sa))
      obtain ⟨⟨V',E⟩,hdo⟩:∃ q,doW sanP V y=q:=⟨_,rfl⟩
      rw [hdo] at CD
      rw [if_pos (by rfl)]
      replace CD:=Lib.hid CD
      replace hdo:=Lib.hid hdo
      go_simp
      go_at_call 15
      refine CD.out.mono ?_
      rintro e wd ⟨v',rfl,hv',hbd⟩
      obtain ⟨a1',a2',l1',l2',n1',n2',c1',c2',u1',u2',d1',d2',rfl⟩:=RWd.shape hv'
      dsimp only
      have Sd:=btr Sa hbd
      refine hK'.out _ _ Sd ?_
      clear hK' K'
      refine tD 5 35 (v:=?_) Sd ?_ ?_
      rotate_left
      ·(intro w' hw';(try dsimp only at hw');go_simp;try with_reducible rfl)
      simp only [List.set_cons_zero,List.set_cons_succ]
      refine tD 6 41 (v:=?_) Sd ?_ ?_
      rotate_left
      ·(intro w' hw';(try dsimp only at hw');go_simp;try with_reducible rfl)
      simp only [List.set_cons_zero,List.set_cons_succ]
      refine tD 7 42 (v:=?_) Sd ?_ ?_
      rotate_left
      ·(intro w' hw';(try dsimp only at hw');go_simp;try with_reducible rfl)
      simp only [List.set_cons_zero,List.set_cons_succ]
      refine wpAnyH_step 8 rfl (by kernel_rfl) (fun K' hK'=>?_)
      rw [if_pos (by rfl)]
      go_simp
      refine hK'.out _ _ (by first | exact bal Sd _ | exact bal (Below.drew Sd) _) ?_
      clear hK' K'
      refine wpAnyH_call (fun wg e8=>?_)
      have Sg:Below w5.heap.size w5 wg:=by rw [← e8];first | exact bal Sd _ | exact bal (Below.drew Sd) _
      have EG:wg.heap[wd.heap.size]?=some wdZero:=by rw [← e8];exact heap_at (by simp)
      have KG:∀ k,k < wd.heap.size→wg.heap[k]?=wd.heap[k]?:=fun k hl=>by rw [← e8];first | exact (bal (brf wd) _).block k hl | exact (bal (brf wd).drew _).block k hl
      have hGle:w5.heap.size≤wd.heap.size:=by have:=Below.size Sd;omega
      refine wpAnyH_step 9 rfl (by kernel_rfl) (fun K' hK'=>?_)
      rw [if_pos (by rfl)]
      obtain ⟨x0,x1,x2,x3,x4,x5⟩:=P6.of EG
      have fzG:∀ i,wg.frozen? ⟨wd.heap.size,i,none⟩=false:=fun i=>Lib.frozen_of_heap EG _
      go_simp
      obtain ⟨q1,q2,q3⟩:=set6 EG rfl (.slice a1' V'.s.first.length a2') (.slice l1' V'.s.log.length l2') (.slice n1' V'.s.now.length n2') (.slice c1' V'.cl.length c2') (.slice u1' V'.up.length u2') (.slice d1' V'.down.length d2')
      have S9:=Below.trans Sg (q3 _ hGle)
      have hv9:=RWd.to (F':=fun k=>¬ (k=w.heap.size∨k=g∨k=wd.heap.size)) (RWd.to hv' (Kp.lt wd)) (fun k hk _=>⟨by rintro (h | h | h);exact hk.1 (Or.inl h);exact hk.1 (Or.inr h);(have:=hk.2;omega),(q2 k (by have:=hk.2;omega)).trans (KG k hk.2)⟩)
      refine hK'.out _ _ S9 ?_
      clear hK' K' x0 x1 x2 x3 x4 x5 fzG
      generalize hwz:((((((wg.setCell ⟨wd.heap.size,0,none⟩ _).setCell ⟨wd.heap.size,1,none⟩ _).setCell ⟨wd.heap.size,2,none⟩ _).setCell ⟨wd.heap.size,3,none⟩ _).setCell ⟨wd.heap.size,4,none⟩ _).setCell ⟨wd.heap.size,5,none⟩ _)=w9 at *
      refine tD 10 15 (v:=?_) S9 ?_ ?_
      rotate_left
      ·(intro w' hw';(try dsimp only at hw');go_simp;try with_reducible rfl)
      simp only [List.set_cons_zero,List.set_cons_succ]
      refine wpAnyH_done (by kernel_rfl) ?_ _
      go_wp2_with fail
      go_meet
      exact ⟨_,_,V',y,_,_,_,_,_,_,_,_,_,_,_,_,rfl,rfl,hdo.out,q1,hv9,hGle,S9⟩
     ·skip
      rw [if_pos (by rfl)]
      go_simp
      refine hK'.out _ _ (by first | exact bal Sa _ | exact bal (Below.drew Sa) _) ?_
      clear hK' K'
      refine wpAnyH_call (fun wg e8=>?_)
      have Sg:Below w5.heap.size w5 wg:=by rw [← e8];first | exact bal Sa _ | exact bal (Below.drew Sa) _
      have EG:wg.heap[wa.heap.size]?=some wdZero:=by rw [← e8];exact heap_at (by simp)
      have KG:∀ k,k < wa.heap.size→wg.heap[k]?=wa.heap[k]?:=fun k hl=>by rw [← e8];first | exact (bal (brf wa) _).block k hl | exact (bal (brf wa).drew _).block k hl
      have hGle:w5.heap.size≤wa.heap.size:=by have:=Below.size Sa;omega
      refine wpAnyH_step 4 rfl (by kernel_rfl) (fun K' hK'=>?_)
      have hZ:∀ z,(fun k=>k=w.heap.size∨k=g∨k=wa.heap.size) z→z < wg.heap.size∧NoIt wg z:=fun z hz=>by
       rcases hz with rfl | rfl | rfl
       ·exact ⟨lt_of_heap ((Below.block Sg _ (lt_of_heap Hz5.out)).trans Hz5.out),NoIt.zero6 ((Below.block Sg _ (lt_of_heap Hz5.out)).trans Hz5.out)⟩
       ·exact ⟨lt_of_heap ((Below.block Sg _ (lt_of_heap Hg5.out)).trans Hg5.out),NoIt.six ((Below.block Sg _ (lt_of_heap Hg5.out)).trans Hg5.out)⟩
       ·exact ⟨lt_of_heap EG,NoIt.zero6 EG⟩
      have CD:=wdDo_anyZ (fun _=>True) (fun k=>k=w.heap.size∨k=g∨k=wa.heap.size) _ r V y wg hZ (RWd.to Hv5.out fun k _ hl=>⟨trivial,Below.block Sg k hl⟩) (RHap.to hr (fun k _ hl=>⟨trivial,KG k hl⟩)) (max_keep hm.out (btr HB5.out Sg))
      obtain ⟨⟨V',E⟩,hdo⟩:∃ q,doW sanP V y=q:=⟨_,rfl⟩
      rw [hdo] at CD
      rw [if_pos (by rfl)]
      replace CD:=Lib.hid CD
      replace hdo:=Lib.hid hdo
      go_simp
      go_at_call 15
      refine CD.out.mono ?_
      rintro e wd ⟨v',rfl,hv',hbd⟩
      obtain ⟨a1',a2',l1',l2',n1',n2',c1',c2',u1',u2',d1',d2',rfl⟩:=RWd.shape hv'
      dsimp only
      have Sd:=btr Sg hbd
      refine hK'.out _ _ Sd ?_
      clear hK' K'
      replace EG:=(hbd.block _ (lt_of_heap EG)).trans EG
      refine tD 5 35 (v:=?_) Sd ?_ ?_
      rotate_left
      ·(intro w' hw';(try dsimp only at hw');go_simp;try with_reducible rfl)
      simp only [List.set_cons_zero,List.set_cons_succ]
      refine tD 6 41 (v:=?_) Sd ?_ ?_
      rotate_left
      ·(intro w' hw';(try dsimp only at hw');go_simp;try with_reducible rfl)
      simp only [List.set_cons_zero,List.set_cons_succ]
      refine tD 7 42 (v:=?_) Sd ?_ ?_
      rotate_left
      ·(intro w' hw';(try dsimp only at hw');go_simp;try with_reducible rfl)
      simp only [List.set_cons_zero,List.set_cons_succ]
      refine wpAnyH_step 9 rfl (by kernel_rfl) (fun K' hK'=>?_)
      rw [if_pos (by rfl)]
      obtain ⟨x0,x1,x2,x3,x4,x5⟩:=P6.of EG
      have fzG:∀ i,wd.frozen? ⟨wa.heap.size,i,none⟩=false:=fun i=>Lib.frozen_of_heap EG _
      go_simp
      obtain ⟨q1,q2,q3⟩:=set6 EG rfl (.slice a1' V'.s.first.length a2') (.slice l1' V'.s.log.length l2') (.slice n1' V'.s.now.length n2') (.slice c1' V'.cl.length c2') (.slice u1' V'.up.length u2') (.slice d1' V'.down.length d2')
      have S9:=Below.trans Sd (q3 _ hGle)
      have hv9:=RWd.to hv' (fun k hk _=>⟨hk,q2 k fun h=>hk (Or.inr (Or.inr h))⟩)
      refine hK'.out _ _ S9 ?_
      clear hK' K' x0 x1 x2 x3 x4 x5 fzG
      generalize hwz:((((((wd.setCell ⟨wa.heap.size,0,none⟩ _).setCell ⟨wa.heap.size,1,none⟩ _).setCell ⟨wa.heap.size,2,none⟩ _).setCell ⟨wa.heap.size,3,none⟩ _).setCell ⟨wa.heap.size,4,none⟩ _).setCell ⟨wa.heap.size,5,none⟩ _)=w9 at *
      refine tD 10 15 (v:=?_) S9 ?_ ?_
      rotate_left
      ·(intro w' hw';(try dsimp only at hw');go_simp;try with_reducible rfl)
      simp only [List.set_cons_zero,List.set_cons_succ]
      refine wpAnyH_done (by kernel_rfl) ?_ _
      go_wp2_with fail
      go_meet
      exact ⟨_,_,V',y,_,_,_,_,_,_,_,_,_,_,_,_,rfl,rfl,hdo.out,q1,hv9,hGle,S9⟩
    ·skip
     rw [if_pos (by rfl)]
     go_simp
     refine hK'.out _ _ (by first | exact bal S0 _ | exact bal (Below.drew S0) _) ?_
     clear hK' K'
     refine wpAnyH_call (fun wg e8=>?_)
     have Sg:Below w5.heap.size w5 wg:=by rw [← e8];first | exact bal S0 _ | exact bal (Below.drew S0) _
     have EG:wg.heap[w5.heap.size]?=some wdZero:=by rw [← e8];exact heap_at (by simp)
     have KG:∀ k,k < w5.heap.size→wg.heap[k]?=w5.heap[k]?:=fun k hl=>by rw [← e8];first | exact (bal (brf w5) _).block k hl | exact (bal (brf w5).drew _).block k hl
     have hGle:w5.heap.size≤w5.heap.size:=by have:=Below.size S0;omega
     refine wpAnyH_step 3 rfl (by kernel_rfl) (fun K' hK'=>?_)
     rw [if_pos (by rfl)]
     go_simp
     go_at_call 83
     refine (fitted_any _ _ _ _ V x _ (RWd.to Hv5.out (Kp.below Sg)) (RHap.to HX5.out (Kp.below Sg)) hne.out).mono ?_
     rintro e wa ⟨r,y,rfl,hr,hba⟩
     dsimp only
     have Sa:=btr Sg hba
     refine hK'.out _ _ Sa ?_
     clear hK' K'
     replace EG:=(hba.block _ (lt_of_heap EG)).trans EG
     refine wpAnyH_step 4 rfl (by kernel_rfl) (fun K' hK'=>?_)
     have hZ:∀ z,(fun k=>k=w.heap.size∨k=g∨k=w5.heap.size) z→z < wa.heap.size∧NoIt wa z:=fun z hz=>by
      rcases hz with rfl | rfl | rfl
      ·exact ⟨lt_of_heap ((Below.block Sa _ (lt_of_heap Hz5.out)).trans Hz5.out),NoIt.zero6 ((Below.block Sa _ (lt_of_heap Hz5.out)).trans Hz5.out)⟩
      ·exact ⟨lt_of_heap ((Below.block Sa _ (lt_of_heap Hg5.out)).trans Hg5.out),NoIt.six ((Below.block Sa _ (lt_of_heap Hg5.out)).trans Hg5.out)⟩
      ·exact ⟨lt_of_heap EG,NoIt.zero6 EG⟩
     have CD:=wdDo_anyZ (fun _=>True) (fun k=>k=w.heap.size∨k=g∨k=w5.heap.size) _ r V y wa hZ (RWd.to Hv5.out fun k _ hl=>⟨trivial,Below.block Sa k hl⟩) (RHap.to hr (Kp.weak _ fun _ _=>trivial)) (max_keep hm.out (btr HB5.out Sa))
     obtain ⟨⟨V',E⟩,hdo⟩:∃ q,doW sanP V y=q:=⟨_,rfl⟩
     rw [hdo] at CD
     rw [if_pos (by rfl)]
     replace CD:=Lib.hid CD
     replace hdo:=Lib.hid hdo
     go_simp
     go_at_call 15
     refine CD.out.mono ?_
     rintro e wd ⟨v',rfl,hv',hbd⟩
     obtain ⟨a1',a2',l1',l2',n1',n2',c1',c2',u1',u2',d1',d2',rfl⟩:=RWd.shape hv'
     dsimp only
     have Sd:=btr Sa hbd
     refine hK'.out _ _ Sd ?_
     clear hK' K'
     replace EG:=(hbd.block _ (lt_of_heap EG)).trans EG
     refine tD 5 35 (v:=?_) Sd ?_ ?_
     rotate_left
     ·(intro w' hw';(try dsimp only at hw');go_simp;try with_reducible rfl)
     simp only [List.set_cons_zero,List.set_cons_succ]
     refine tD 6 41 (v:=?_) Sd ?_ ?_
     rotate_left
     ·(intro w' hw';(try dsimp only at hw');go_simp;try with_reducible rfl)
     simp only [List.set_cons_zero,List.set_cons_succ]
     refine tD 7 42 (v:=?_) Sd ?_ ?_
     rotate_left
     ·(intro w' hw';(try dsimp only at hw');go_simp;try with_reducible rfl)
     simp only [List.set_cons_zero,List.set_cons_succ]
     refine wpAnyH_step 9 rfl (by kernel_rfl) (fun K' hK'=>?_)
     rw [if_pos (by rfl)]
     obtain ⟨x0,x1,x2,x3,x4,x5⟩:=P6.of EG
     have fzG:∀ i,wd.frozen? ⟨w5.heap.size,i,none⟩=false:=fun i=>Lib.frozen_of_heap EG _
     go_simp
     obtain ⟨q1,q2,q3⟩:=set6 EG rfl (.slice a1' V'.s.first.length a2') (.slice l1' V'.s.log.length l2') (.slice n1' V'.s.now.length n2') (.slice c1' V'.cl.length c2') (.slice u1' V'.up.length u2') (.slice d1' V'.down.length d2')
     have S9:=Below.trans Sd (q3 _ hGle)
     have hv9:=RWd.to hv' (fun k hk _=>⟨hk,q2 k fun h=>hk (Or.inr (Or.inr h))⟩)
     refine hK'.out _ _ S9 ?_
     clear hK' K' x0 x1 x2 x3 x4 x5 fzG
     generalize hwz:((((((wd.setCell ⟨w5.heap.size,0,none⟩ _).setCell ⟨w5.heap.size,1,none⟩ _).setCell ⟨w5.heap.size,2,none⟩ _).setCell ⟨w5.heap.size,3,none⟩ _).setCell ⟨w5.heap.size,4,none⟩ _).setCell ⟨w5.heap.size,5,none⟩ _)=w9 at *
     refine tD 10 15 (v:=?_) S9 ?_ ?_
     rotate_left
     ·(intro w' hw';(try dsimp only at hw');go_simp;try with_reducible rfl)
     simp only [List.set_cons_zero,List.set_cons_succ]
     refine wpAnyH_done (by kernel_rfl) ?_ _
     go_wp2_with fail
     go_meet
     exact ⟨_,_,V',y,_,_,_,_,_,_,_,_,_,_,_,_,rfl,rfl,hdo.out,q1,hv9,hGle,S9⟩
   case rest =>
    obtain ⟨G,E,V',y,a1',a2',l1',l2',n1',n2',c1',c2',u1',u2',d1',d2',rfl,rfl,hdo,EG,hv',hGle,SB⟩:=hcut
    have Hgc:=(SB.block _ (lt_of_heap Hg5.out)).trans Hg5.out
    have Hzc:=(SB.block _ (lt_of_heap Hz5.out)).trans Hz5.out
    have HBc:=btr HB5.out SB
    have hgw:=lt_of_heap Hg5.out
    have hk2:k+1≤m:=by omega
    by_cases he:E=0
    ·subst he
     have hI':Inv V':=by
      have:=(inv_do (pg:=sanP) (x:=y) hI.out).2
      rw [hdo] at this
      exact this rfl
     obtain ⟨x0,x1,x2,x3,x4,x5⟩:=P6.of EG
     obtain ⟨z0,z1,z2,z3,z4,z5⟩:=P6.of Hgc
     have fzg:∀ i,wc.frozen? ⟨g,i,none⟩=false:=fun i=>Lib.frozen_of_heap Hgc _
     replace hI':=Lib.hid hI'
     replace hdo:=Lib.hid hdo
     go_upto_region 10 with fail
     obtain ⟨q1,q2,q3⟩:=set6 Hgc rfl (.slice a1' V'.s.first.length a2') (.slice l1' V'.s.log.length l2') (.slice n1' V'.s.now.length n2') (.slice c1' V'.cl.length c2') (.slice u1' V'.up.length u2') (.slice d1' V'.down.length d2')
     have hv8:=RWd.to (F':=fun k=>¬ (k=w.heap.size∨k=g)) hv' (fun k hk _=>⟨fun h=>hk (by rcases h with h | h;exact Or.inl h;exact Or.inr (Or.inl h)),q2 k fun h=>hk (Or.inr (Or.inl h))⟩)
     have Hz8:=(q2 w.heap.size (by omega)).trans Hzc
     have HB8:=HBc.trans (q3 _ (by omega))
     generalize hwz:((((((wc.setCell ⟨g,0,none⟩ _).setCell ⟨g,1,none⟩ _).setCell ⟨g,2,none⟩ _).setCell ⟨g,3,none⟩ _).setCell ⟨g,4,none⟩ _).setCell ⟨g,5,none⟩ _)=w8 at *
     clear x0 x1 x2 x3 x4 x5 z0 z1 z2 z3 z4 z5 fzg
     obtain ⟨z0,z1,z2,z3,z4,z5⟩:=P6.of q1
     have CO:=Lib.hid (hok.out V' _ w8 (RWd.to hv8 (Kp.weak _ fun _ _=>trivial)) hI'.out)
     go_wp2_with fail
     refine CO.out.mono ?_
     rintro e w9 ⟨rfl,hb9⟩
     have q1':=Lib.hid ((hb9.block _ (lt_of_heap q1)).trans q1)
     have Hz9:=Lib.hid ((hb9.block _ (lt_of_heap Hz8)).trans Hz8)
     have hv9:=Lib.hid (RWd.to hv8 (Kp.below hb9))
     have HB9:=Lib.hid (btr HB8 hb9)
     clear CO q1 q2 q3 hv8 Hz8 HB8 hb9 z0 z1 z2 z3 z4 z5 hwz
     go_wp2_with fail
     exact ⟨⟨k+1,V',_,by omega,by go_num,hI',Lib.hid ⟨_,rfl,rfl,q1'.out⟩,Hz9,hv9,HB9⟩,by simp [intOf];omega⟩
    ·have he':(E == 0)=false:=by simpa using he
     clear he
     go_wp2_with fail
     exact ⟨⟨k+1,V,_,by omega,by go_num,hI,Lib.hid ⟨_,rfl,rfl,Hgc⟩,Lib.hid Hzc,Lib.hid (RWd.to (RWd.to Hv5.out (Kp.below SB)) (Kp.weak _ fun _ h=>h)),Lib.hid HBc⟩,by simp [intOf];omega⟩
  ·obtain rfl:k=m:=by omega
   obtain ⟨x0,x1,x2,x3,x4,x5⟩:=P6.of Hg.out
   obtain ⟨z0,z1,z2,z3,z4,z5⟩:=P6.of Hz.out
   have fzz:∀ i,wo.frozen? ⟨w.heap.size,i,none⟩=false:=fun i=>Lib.frozen_of_heap Hz.out _
   have hgo:=lt_of_heap Hg.out
   go_wp2
   obtain ⟨q1,q2,q3⟩:=set6 Hz.out rfl (.slice a1 V.s.first.length a2) (.slice l1 V.s.log.length l2) (.slice n1 V.s.now.length n2) (.slice c1 V.cl.length c2) (.slice u1 V.up.length u2) (.slice d1 V.down.length d2)
   generalize hwz:((((((wo.setCell ⟨w.heap.size,0,none⟩ _).setCell ⟨w.heap.size,1,none⟩ _).setCell ⟨w.heap.size,2,none⟩ _).setCell ⟨w.heap.size,3,none⟩ _).setCell ⟨w.heap.size,4,none⟩ _).setCell ⟨w.heap.size,5,none⟩ _)=wz at *
   obtain ⟨t0,t1,t2,t3,t4,t5⟩:=P6.of q1
   exact bodyPost_ret (v:=.tuple #[.agg #[.slice a1 V.s.first.length a2,.slice l1 V.s.log.length l2,.slice n1 V.s.now.length n2,.slice c1 V.cl.length c2,.slice u1 V.up.length u2,.slice d1 V.down.length d2],.bool true]) (by simp [results,Tryz.results26,go_sem,t0,t1,t2,t3,t4,t5]) rfl ⟨_,V,rfl,RWd.to Hv.out (fun k hk _=>⟨trivial,q2 k fun h=>hk (Or.inl h)⟩),hI.out,HB.out.trans (q3 _ (Nat.le_refl _))⟩
end Go.Proofs.YteikncnldbdfmaaGreatDoor
