import Derived.Test.YteikncnldbdfmaaGreatDoorMSanO
import Derived.Test.YteikncnldbdfmaaGreatDoorMSan
import Derived.Test.YteikncnldbdfmaaGreatDoorMPl
import Derived.Test.YteikncnldbdfmaaGreatDoorMTokQ
namespace Go.Mh
theorem stepD_hit {k:Dk} {t:Tok} (h:k.gone≠[]) (h1:t.k=3) (h2:t.name=k.gone):stepD k t={ k with gone:=[] }:=by unfold stepD;rw [if_pos h,if_pos ⟨h1,h2⟩]
theorem stepD_hid {k:Dk} {t:Tok} (h:k.gone≠[]) (h1:¬ (t.k=3∧t.name=k.gone)):stepD k t=k:=by unfold stepD;rw [if_pos h,if_neg h1]
theorem stepD_text {k:Dk} {t:Tok} (h:k.gone=[]) (h1:t.k=1):stepD k t=textD k t.text:=by unfold stepD;rw [if_neg (by simp [h]),if_pos h1]
theorem stepD_open {k:Dk} {t:Tok} (h:k.gone=[]) (h1:t.k=2):stepD k t=openD k t:=by unfold stepD;rw [if_neg (by simp [h]),if_neg (by omega),if_pos h1]
theorem stepD_shut {k:Dk} {t:Tok} (h:k.gone=[]) (h1:t.k=3):stepD k t=shutD k t.name:=by unfold stepD;rw [if_neg (by simp [h]),if_neg (by omega),if_neg (by omega),if_pos h1]
theorem stepD_other {k:Dk} {t:Tok} (h:k.gone=[]) (h1:t.k≠1) (h2:t.k≠2) (h3:t.k≠3):stepD k t=k:=by unfold stepD;rw [if_neg (by simp [h]),if_neg h1,if_neg h2,if_neg h3]
theorem sanL_step {k K:Dk} {t:Tok} {l:List Tok} (h:stepD k t=K):sanL k (t :: l)=if 80 < K.d.length then ([],2) else sanL K l:=by subst h;rfl
end Go.Mh
namespace Go.Proofs.YteikncnldbdfmaaGreatDoor
open Go.RowKit Go.Mh
theorem tokPage_p {F:Nat→Prop} {v:Value} {l:Bs} {w:World} (p:List Tok × Int) (hp:pageP l=p) (h:RBytes F w v l) (hm:∃ m,w.cell? ⟨2,0,none⟩=some (.int .i64 m)) :
  Calls Tryz.prog 69 #[v] w fun e w'=>∃ r,e=.returned (.tuple #[r,.int .i64 p.2])∧RToks (w.heap.size≤·) w' r p.1∧Below w.heap.size w w':=by
 subst hp
 exact tokPage_any F v l w h hm
set_option maxRecDepth 1000000 in
set_option maxHeartbeats 4000000 in
theorem sanPage_any (F:Nat→Prop) (v:Value) (b:Bs) (w:World) (h:RBytes F w v b) (hm:∃ m,w.cell? ⟨2,0,none⟩=some (.int .i64 m)) :
  Calls Tryz.prog 21 #[v] w fun e w'=>∃ r,e=.returned (.tuple #[r,.int .i64 (sanP b).2])∧RItems (w.heap.size≤·) w' r (sanP b).1∧Below w.heap.size w w':=by
 by_cases hlen:20000 < b.length
 ·have C:=Lib.hid (tokPage_p ([],2) (by unfold pageP;rw [if_pos hlen]) h hm)
  have hS:=Lib.hid (show sanP b=([],2) by unfold sanP;rw [if_pos hlen])
  clear h hm hlen
  rw [hS.out]
  clear hS
  go_enter Tryz.func21,Tryz.ntmps21
  go_wp2_with fail
  refine C.out.mono ?_
  rintro e w1 ⟨r,rfl,hr,hb1⟩
  clear C hr
  go_wp2
  refine bodyPost_ret (v:=.tuple #[.slice none 0 0,.int .i64 2]) (by simp [results]) rfl ?_
  exact ⟨_,rfl,RdS.nil,hb1⟩
 ·have C:=Lib.hid (tokPage_p (pageT b,0) (by unfold pageP;rw [if_neg hlen]) h hm)
  obtain ⟨P,hP⟩:∃ P,sanP b=P:=⟨_,rfl⟩
  have hsm:=page_small b
  have hLl:=page_len b
  rw [hP]
  unfold sanP at hP
  rw [if_neg hlen] at hP
  obtain ⟨L,hL⟩:∃ L,pageT b=L:=⟨_,rfl⟩
  rw [hL] at C hP hsm hLl
  have hPP:=Lib.hid hP.symm
  have hsm':=Lib.hid (show ∀ t ∈ L,t.text.length≤20000∧t.href.length≤20000 from fun t ht=>⟨Nat.le_trans (hsm t ht).1 (by omega),Nat.le_trans (hsm t ht).2 (by omega)⟩)
  have hLl':L.length≤100000:=by omega
  clear h hm hlen hP hsm hLl hL
  go_enter Tryz.func21,Tryz.ntmps21
  go_wp2_with fail
  refine C.out.mono ?_
  rintro e w1 ⟨r,rfl,hr,hb1⟩
  clear C
  obtain ⟨ra,rc,rfl,_⟩:=RdS.len hr
  have hr':=Lib.hid hr
  have hb1':=Lib.hid hb1
  clear hr hb1
  go_wp2
  go_loopw [21] (fun iv wr=>∃ (i:Nat) (k:Dk),i≤L.length∧iv=.int .i64 i∧Hid (P=sanL k (L.drop i))∧k.d.length≤80∧(0≤k.bold∧k.bold≤i∧0≤k.slant∧k.slant≤i)∧(∃ dv,Dsk w1.heap.size w1.heap.size wr dv k)∧Below w1.heap.size w1 wr) (fun iv _=>L.length - (intOf iv).toNat)
  case atStart=>exact ⟨0,dk0,Nat.zero_le _,by go_num,Lib.hid (by simpa using hPP.out),by simp [dk0],by simp [dk0],⟨.slice none 0 0,heap_new _ _,OwnS.nil,Nat.le_refl _⟩,bal (brf w1) _⟩
  case round =>
   obtain ⟨i,k,hi,rfl,hf,hkl,hbd,⟨dv,hD⟩,hb⟩:=hrel
   by_cases hlt:i < L.length
   ·obtain ⟨t,ht⟩:∃ t,L[i]?=some t:=⟨_,List.getElem?_eq_getElem hlt⟩
    obtain ⟨bb,o,rfl,c0,c1,c2,c3⟩:=RToks.at hr'.out hb ht
    have hdrop:L.drop i=t :: L.drop (i+1):=by rw [List.drop_eq_getElem_cons hlt,(List.getElem?_eq_some_iff.1 ht).2]
    have hst:=hsm'.out t (List.mem_of_getElem? ht)
    obtain ⟨K2,hK2⟩:∃ K2,stepD k t=K2:=⟨_,rfl⟩
    have hb2:=stepD_bold k t i hbd
    rw [hK2] at hb2
    have hf':=Lib.hid (show P=if 80 < K2.d.length then ([],2) else sanL K2 (L.drop (i+1)) by rw [hf.out,hdrop,sanL_step hK2])
    have hK2':=Lib.hid hK2
    clear hf hdrop ht hK2
    obtain ⟨tk,nm,tx,hr⟩:=t
    simp only at c0 c1 c2 c3 hst
    have hbx:=Lib.hid (heap_new wr (.cells #[.int .i64 tk,str nm,str tx,str hr] 115))
    have D1:=Lib.hid (hD.below (bal (brf wr) (.cells #[.int .i64 tk,str nm,str tx,str hr] 115)))
    have hB1:=Lib.hid (bal hb (.cells #[.int .i64 tk,str nm,str tx,str hr] 115))
    have hgl:=lt_of_heap hD.1
    have hbd':=Lib.hid hbd
    have hb2':=Lib.hid hb2
    have hst':=Lib.hid hst
    have hkl':=Lib.hid hkl
    obtain ⟨d,f,kind,inn,bold,slant,link,gone⟩:=k
    obtain ⟨hd,ho,_⟩:=hD
    have hd':wr.heap[w1.heap.size]?=some (.cells #[dv,.int .i64 (f:Int),.int .i64 kind,.bool inn,.int .i64 bold,.int .i64 slant,str link,str gone] 113 (0,0)):=hd
    obtain ⟨x0,x1,x2,x3,x4,x5,x6,x7⟩:=D8.of hd'
    clear hd hd' ho hbd hb2 hst hkl
    go_upto_block 2 with fail
    refine name_world ?_
    intro wA hwA
    have hwA':wr.alloc (.cells #[.int .i64 tk,str nm,str tx,str hr] 115)=wA:=hwA
    clear hwA c0 c1 c2 c3 x0 x1 x2 x3 x4 x5 x6 x7
    rw [hwA'] at D1 hbx hB1
    clear hwA'
    go_cut [25] (fun v wx=>v=v∧(∃ dv',Dsk w1.heap.size w1.heap.size wx dv' K2)∧Below w1.heap.size w1 wx)
    case first =>
     have hbx2:=hbx.out
     have t0:wA.cell? ⟨wr.heap.size,0,none⟩=some (.int .i64 tk):=by unfold World.cell?;rw [hbx2];rfl
     have t1:wA.cell? ⟨wr.heap.size,1,none⟩=some (str nm):=by unfold World.cell?;rw [hbx2];rfl
     have t2:wA.cell? ⟨wr.heap.size,2,none⟩=some (str tx):=by unfold World.cell?;rw [hbx2];rfl
     have t3:wA.cell? ⟨wr.heap.size,3,none⟩=some (str hr):=by unfold World.cell?;rw [hbx2];rfl
     obtain ⟨hd,_,_⟩:=D1.out
     have hd':wA.heap[w1.heap.size]?=some (.cells #[dv,.int .i64 (f:Int),.int .i64 kind,.bool inn,.int .i64 bold,.int .i64 slant,str link,str gone] 113 (0,0)):=hd
     obtain ⟨x0,x1,x2,x3,x4,x5,x6,x7⟩:=D8.of hd'
     have hfz:∀ i,wA.frozen? ⟨w1.heap.size,i,none⟩=false:=fun i=>Lib.frozen_of_heap hd _
     have hBA:=hB1.out.size
     clear hd hd' hbx2
     cases gone with
     | nil =>
      cases e1:((tk:Int) == 1) with
      | true =>
       have hS:=Lib.hid (show _=K2 from (stepD_text rfl (by simpa using e1)).symm.trans hK2'.out)
       go_wp2_with fail
       refine (text_any w1.heap.size w1.heap.size dv _ tx wA D1.out hBA (by have:=hkl'.out;have:=hst'.out;simp only at *;omega)).mono ?_
       rintro e wt ⟨rfl,hdt,hbt⟩
       go_wp2
       go_meet
       exact ⟨trivial,by rw [hS.out] at hdt;exact hdt,hB1.out.trans hbt⟩
      | false =>
      cases e2:((tk:Int) == 2) with
      | true =>
       have hS:=Lib.hid (show _=K2 from (stepD_open rfl (by simpa using e2)).symm.trans hK2'.out)
       go_wp2_with fail
       refine (open_any w1.heap.size w1.heap.size dv _ ⟨tk,nm,tx,hr⟩ wA D1.out hBA (by have:=hkl'.out;simp only at *;omega) (by have:=hbd'.out;simp only at *;omega) hst'.out.2).mono ?_
       rintro e wt ⟨rfl,hdt,hbt⟩
       go_wp2
       go_meet
       exact ⟨trivial,by rw [hS.out] at hdt;exact hdt,hB1.out.trans hbt⟩
      | false =>
      cases e3:((tk:Int) == 3) with
      | true =>
       have hS:=Lib.hid (show _=K2 from (stepD_shut rfl (by simpa using e3)).symm.trans hK2'.out)
       go_wp2_with fail
       refine (shut_any w1.heap.size w1.heap.size dv _ nm wA D1.out hBA (by have:=hkl'.out;simp only at *;omega) (by have:=hbd'.out;simp only at *;omega)).mono ?_
       rintro e wt ⟨rfl,hdt,hbt⟩
       go_wp2
       go_meet
       exact ⟨trivial,by rw [hS.out] at hdt;exact hdt,hB1.out.trans hbt⟩
      | false =>
       have hS:=Lib.hid (show _=K2 from (stepD_other rfl (by simpa using e1) (by simpa using e2) (by simpa using e3)).symm.trans hK2'.out)
       go_wp2
       go_meet
       exact ⟨trivial,⟨dv,by rw [← hS.out];exact D1.out⟩,hB1.out⟩
     | cons c0 g0 =>
      cases e3:((tk:Int) == 3) with
      | true =>
       cases e4:((nm:Bs) == c0 :: g0) with
       | true =>
        have hS:=Lib.hid (show _=K2 from (stepD_hit (by simp) (by simpa using e3) (by simpa using e4)).symm.trans hK2'.out)
        go_wp2_with fail
        go_quiet (fail)
        go_wp2
        go_meet
        exact ⟨trivial,⟨dv,by rw [← hS.out];exact (D1.out.below (Go.below_drewN (brf wA) _)).gone tne []⟩,(Go.below_drewN hB1.out _).setCell (p:=⟨w1.heap.size,7,none⟩) (Nat.le_refl _) _⟩
       | false =>
        have hS:=Lib.hid (show _=K2 from (stepD_hid (by simp) (fun h=>by simp at e4;exact e4 h.2)).symm.trans hK2'.out)
        go_wp2_with fail
        go_quiet (fail)
        go_wp2
        go_meet
        exact ⟨trivial,⟨dv,by rw [← hS.out];exact D1.out.below (Go.below_drewN (brf wA) _)⟩,Go.below_drewN hB1.out _⟩
      | false =>
       have hS:=Lib.hid (show _=K2 from (stepD_hid (by simp) (fun h=>by simp at e3;exact e3 h.1)).symm.trans hK2'.out)
       go_wp2_with fail
       go_quiet (fail)
       go_wp2
       go_meet
       exact ⟨trivial,⟨dv,by rw [← hS.out];exact D1.out.below (Go.below_drewN (brf wA) _)⟩,Go.below_drewN hB1.out _⟩
    case rest =>
     obtain ⟨_,⟨dv2,hD2⟩,hb3⟩:=hcut
     obtain ⟨da,dc,rfl,_⟩:=RdS.len hD2.2.1.rd
     have hD2':=Lib.hid hD2
     have hb3':=Lib.hid hb3
     have hc0:=hD2.1
     obtain ⟨d2,f2,kind2,inn2,bold2,slant2,link2,gone2⟩:=K2
     have hd':wc.heap[w1.heap.size]?=some (.cells #[.slice da d2.length dc,.int .i64 (f2:Int),.int .i64 kind2,.bool inn2,.int .i64 bold2,.int .i64 slant2,str link2,str gone2] 113 (0,0)):=hc0
     obtain ⟨x0,x1,x2,x3,x4,x5,x6,x7⟩:=D8.of hd'
     clear hd' hc0 hD2 hb3 D1 hbx hB1
     by_cases hgt:80 < d2.length
     ·have e5:decide ((80:Int) < (d2.length:Int))=true:=decide_eq_true (by omega)
      have e6:=Lib.hid (show P=([],2) by rw [hf'.out];exact if_pos hgt)
      clear hf' hgt
      go_wp2
      refine bodyPost_ret (v:=.tuple #[.slice none 0 0,.int .i64 2]) (by simp [results]) rfl ?_
      exact ⟨_,by rw [e6.out],by rw [e6.out];exact RdS.nil,hb1'.out.trans (hb3'.out.mono hb1'.out.size)⟩
     ·have e5:decide ((80:Int) < (d2.length:Int))=false:=decide_eq_false (by omega)
      have e6:=Lib.hid (show P=sanL _ _ by rw [hf'.out];exact if_neg hgt)
      have e7:=Lib.hid hgt
      clear hf' hgt
      go_wp2
      go_roundw
      case rel=>exact ⟨i+1,_,by omega,by go_num,e6,by have:=e7.out;simp only;omega,hb2'.out,⟨_,hD2'.out⟩,hb3'.out⟩
      case measure=>simp [intOf];omega
   ·obtain rfl:i=L.length:=by omega
    have hfin:=Lib.hid (show P=finD k by rw [hf.out,List.drop_length];rfl)
    have hD':=Lib.hid hD
    have hb':=Lib.hid hb
    clear hf hD hb hsm'
    go_wp2_with fail
    refine (end_any w1.heap.size w1.heap.size dv k wr hD'.out hb'.out.size (by omega)).mono ?_
    rintro e w2 ⟨rfl,⟨dv2,hd2⟩,hb2⟩
    have hB2:=Lib.hid (hb'.out.trans hb2)
    clear hb2 hbd
    unfold finD at hfin
    have hel:(endD k).d.length≤81:=by unfold endD;split <;> simp <;> omega
    generalize endD k=k2 at *
    obtain ⟨da,dc,rfl,_⟩:=RdS.len hd2.2.1.rd
    have hD2':=Lib.hid hd2
    obtain ⟨hd,ho,_⟩:=hd2
    obtain ⟨d2,f2,kind2,inn2,bold2,slant2,link2,gone2⟩:=k2
    have hd':w2.heap[w1.heap.size]?=some (.cells #[.slice da d2.length dc,.int .i64 (f2:Int),.int .i64 kind2,.bool inn2,.int .i64 bold2,.int .i64 slant2,str link2,str gone2] 113 (0,0)):=hd
    obtain ⟨x0,x1,x2,x3,x4,x5,x6,x7⟩:=D8.of hd'
    have hfz:∀ i,w2.frozen? ⟨w1.heap.size,i,none⟩=false:=fun i=>Lib.frozen_of_heap hd _
    have hro:=Lib.hid ho.rd
    clear hd hd' ho
    simp only at hfin hel hro
    by_cases h0:d2=[]
    ·subst h0
     have e6:=Lib.hid (show P=([⟨10,0,[]⟩],0) by rw [hfin.out];rfl)
     clear hfin
     have x0':w2.cell? ⟨w1.heap.size,0,none⟩=some (.slice da 0 dc):=x0
     have hg2:=lt_of_cell x0
     have fz1:∀ c t,(w2.alloc (.cells c t)).frozen? ⟨w1.heap.size,0,none⟩=false:=fun c t=>by rw [← hfz 0];exact frozen?_alloc_cells w2 c t _
     have q0:∀ o,(w2.alloc o).cell? ⟨w1.heap.size,0,none⟩=some (.slice da 0 dc):=fun o=>(World.cell?_alloc_lt (w:=w2) (a:=⟨w1.heap.size,0,none⟩) (o:=o) hg2).trans x0
     clear x0 x1 x2 x3 x4 x5 x6 x7 hfz hel
     go_wp2
     refine bodyPost_ret (v:=.tuple #[.slice (some ⟨w2.heap.size,0,none⟩) 1 1,.int .i64 0]) (by simp [results]) rfl ?_
     have hR:RItems (w.heap.size≤·) ((w2.setCell ⟨w1.heap.size,0,none⟩ (.slice (some ⟨w2.heap.size,0,none⟩) 1 1)).alloc (.cells #[.int .u8 10,.int .i64 0,.string ⟨#[]⟩] 58)) (.slice (some ⟨w2.heap.size,0,none⟩) 1 1) [(⟨10,0,[]⟩:It)]:=by
      refine RItems.lit (n:=1) (cap:=1) (by simpa using heap_new (w2.setCell ⟨w1.heap.size,0,none⟩ (.slice (some ⟨w2.heap.size,0,none⟩) 1 1)) (.cells #[.int .u8 10,.int .i64 0,.string ⟨#[]⟩] 58)) rfl (by decide) (by decide) (Nat.le_trans hb1'.out.size hB2.out.size) (fun i z hi=>?_)
      match i,hi with
      | 0,hi=>simp at hi;subst hi;exact ⟨rfl,rfl,rfl⟩
     exact ⟨_,by rw [e6.out],by rw [e6.out];exact hR,hb1'.out.trans (((hB2.out.setCell (p:=⟨w1.heap.size,0,none⟩) (Nat.le_refl _) _).alloc (by simpa using hB2.out.size) _).mono hb1'.out.size)⟩
    ·have e4:((d2.length:Int) == 0)=false:=by simp;simpa using h0
     by_cases hgt:80 < d2.length
     ·have e5:decide ((80:Int) < (d2.length:Int))=true:=decide_eq_true (by omega)
      have e6:=Lib.hid (show P=([],2) by rw [hfin.out,if_neg h0];exact if_pos hgt)
      clear hfin hgt h0
      go_wp2
      refine bodyPost_ret (v:=.tuple #[.slice none 0 0,.int .i64 2]) (by simp [results]) rfl ?_
      exact ⟨_,by rw [e6.out],by rw [e6.out];exact RdS.nil,hb1'.out.trans (hB2.out.mono hb1'.out.size)⟩
     ·have e5:decide ((80:Int) < (d2.length:Int))=false:=decide_eq_false (by omega)
      have e6:=Lib.hid (show P=(d2,0) by rw [hfin.out,if_neg h0];exact if_neg hgt)
      clear hfin hgt h0
      go_wp2
      refine bodyPost_ret (v:=.tuple #[.slice da d2.length dc,.int .i64 0]) (by simp [results]) rfl ?_
      exact ⟨_,by rw [e6.out],by rw [e6.out];exact RItems.to hro.out (fun k hk _=>⟨Nat.le_trans hb1'.out.size hk,rfl⟩),hb1'.out.trans (hB2.out.mono hb1'.out.size)⟩
