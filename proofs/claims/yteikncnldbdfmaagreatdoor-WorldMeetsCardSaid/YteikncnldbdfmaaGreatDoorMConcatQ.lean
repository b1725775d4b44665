import Derived.Test.YteikncnldbdfmaaGreatDoorMCloneW
import Derived.Test.YteikncnldbdfmaaGreatDoorMMem
import Derived.Lib.AppendZerosOnto
import Derived.Lib.Walk
namespace Go.Proofs.YteikncnldbdfmaaGreatDoor
open Go.RowKit Go.Mh
theorem RVal1_one:∀ (w:World) (cs:List Value) (x:Value),RVal1 w cs x→∀ u ∈ cs,u.oneCell'=true:=fun _ _ _ r=>by obtain ⟨rfl,h1⟩:=r;intro u hu;simp at hu;subst hu;exact h1
set_option maxRecDepth 100000 in
set_option maxHeartbeats 2000000 in
theorem growQ (n:Nat) (w:World) (h0:0 < n) (hn:n≤1000000) :
  Calls Tryz.prog 113 #[.slice none 0 0,.int .i64 n] w fun e w'=>∃ v,e=.returned v∧OwnS w.heap.size 65 1 RVal1 w' v []∧Below w.heap.size w w':=by
 obtain ⟨i0,hi,hz0,hz1,hz2⟩:=info_parts elQ.info
 have hcs:=elQ.cells
 have hrz:∀ ty,(Builtin.append_ #[28,3] ty #[.slice none 0 0,.int .i64 (n:Int)]).run Tryz.prog w =
   .ok (.slice (some ⟨w.heap.size,0,none⟩) n (grownCap w n 0 65)) (w.drew.alloc (.cells (Builtin.zeroCells (.slice none 0 0:Value).cells n ++ Builtin.zeroCells (.slice none 0 0:Value).cells (grownCap w n 0 65 - n)) 65)):=fun ty=>by
  have h:=Lib.run_append_grow_zeros w 28 3 ty 65 i0 _ .i64 .i64 elQ.under Tryz.underlying3 hi hz0 none 0 0 [] (run_firstCells_none w.drew i0.size 0 0 0) n h0 (by rw [hz1];decide) (by omega) (by omega)
   (by rw [hz2];omega) (by rw [hz2];exact growslice_fits (by omega) (by omega))
  simpa using h
 have hGn:n≤grownCap w n 0 65:=grownCap_ge w _ _ _
 have hG63:=grownCap_le_maxLen w n 0 65 (by unfold maxLen;omega)
 generalize grownCap w n 0 65=G at *
 have hG':G≤9223372036854775807:=hG63
 have hfin:OwnS w.heap.size 65 1 RVal1 (w.drew.alloc (.cells (Builtin.zeroCells (.slice none 0 0:Value).cells n ++ Builtin.zeroCells (.slice none 0 0:Value).cells (G - n)) 65)) (.slice (some ⟨w.heap.size,0,none⟩) 0 G) []:=by
  refine ⟨[],⟨by simp,Or.inr ⟨_,G,_,rfl,Nat.le_refl _,heap_new w.drew _,Nat.zero_le _,hG63, ?_,by simp⟩⟩,rfl,fun i cs x h=>by simp at h⟩
  simp only [Array.size_append,size_zeroCells,hcs]
  omega
 have hbel:Below w.heap.size w (w.drew.alloc (.cells (Builtin.zeroCells (.slice none 0 0:Value).cells n ++ Builtin.zeroCells (.slice none 0 0:Value).cells (G - n)) 65)):=bal (brf w).drew _
 have h1:decide ((n:Int) < 0)=false:=by simp
 have hF:=Lib.hid hfin
 have hB:=Lib.hid hbel
 clear hfin hbel hcs hi hz0 hz1 hz2
 generalize (w.drew.alloc (.cells (Builtin.zeroCells (.slice none 0 0:Value).cells n ++ Builtin.zeroCells (.slice none 0 0:Value).cells (G - n)) 65))=wq at *
 go_enter Tryz.func113,Tryz.ntmps113
 go_wp2_with (at_builtin;refine Lib.wpList_append_run _ rfl _ _ _ _ rfl _ _ rfl rfl _ _ (hrz _) ?_)
 go_ret
 exact ⟨_,rfl,hF.out,hB.out⟩
set_option maxRecDepth 100000 in
set_option maxHeartbeats 2000000 in
theorem concatQ (F:Nat→Prop) (v:Value) (LL:List (List Value)) (w:World) (h:RdS 1 (RSl 1 RVal1 F) F w v LL) (h10:LL.length≤10) (hmax:LL.flatten.length≤1000000) (h0:0 < LL.flatten.length) :
  Calls Tryz.prog 63 #[v] w fun e w'=>∃ r,e=.returned r∧OwnS w.heap.size 65 1 RVal1 w' r LL.flatten∧Below w.heap.size w w':=by
 obtain ⟨a,cap,rfl,hn⟩:=RdS.len h
 have H:=Lib.hid h
 obtain ⟨N,hN⟩:∃ N,LL.flatten.length=N:=⟨_,rfl⟩
 have hall:Hid (lenN LL LL.length=N):=Lib.hid (by unfold lenN;rw [List.take_length,hN])
 have hle:=Lib.hid (lenN_le LL)
 rw [hN] at hle hmax h0
 clear h hN
 go_enter Tryz.func63,Tryz.ntmps63
 go_wp2
 go_loopw [3,11] (fun sv i wr=>∃ k:Nat,k≤LL.length∧i=.int .i64 k∧sv=.int .i64 (lenN LL k)∧Below w.heap.size w wr) (fun _ i _=>LL.length - (intOf i).toNat)
 case atStart=>exact ⟨0,Nat.zero_le _,rfl,rfl,brf _⟩
 case round =>
  obtain ⟨k,hk,rfl,rfl,hb⟩:=hrel
  by_cases hlt:k < LL.length
  ·obtain ⟨l,hl⟩:∃ l,LL[k]?=some l:=⟨_,List.getElem?_eq_getElem hlt⟩
   obtain ⟨b,o,lv,rfl,hc,hr⟩:=RdS.at1 (wr:=wr) H.out (by decide) (fun _ _ r=>r) hb hl
   obtain ⟨la,lc,rfl,_⟩:=RdS.len hr
   have hst:=Lib.hid (lenN_step hl)
   have h1:=hle.out (k+1)
   rw [hst.out] at h1
   have h2:¬ ((lenN LL k:Int)+(l.length:Int) < 0):=by omega
   have h3:wrap64 ((lenN LL k:Int)+(l.length:Int))=(lenN LL k:Int)+(l.length:Int):=by unfold wrap64;omega
   clear hr hl
   go_wp2
   go_roundw
   case rel=>exact ⟨k+1,by omega,by go_num,by rw [hst.out];go_num,hb⟩
   case measure=>simp [intOf];omega
  ·obtain rfl:k=LL.length:=by omega
   rw [hall.out]
   clear hlt hk
   go_wp2_with fail
   refine (growQ N wr h0 hmax).mono ?_
   rintro e w1 ⟨gv,rfl,hown,hb1⟩
   have hB1:=btr hb hb1
   have hwb:=hb.size
   have hO2:OwnS w.heap.size 65 1 RVal1 w1 gv []:=hown.low hwb
   clear hown hb1 hb
   go_wp2
   go_loopw [6,27] (fun rv i ws=>∃ k:Nat,k≤LL.length∧i=.int .i64 k∧OwnS w.heap.size 65 1 RVal1 ws rv (LL.take k).flatten∧Below w.heap.size w ws) (fun _ i _=>LL.length - (intOf i).toNat)
   case atStart=>exact ⟨0,Nat.zero_le _,rfl,hO2,hB1⟩
   case round =>
    clear hO2 hB1
    obtain ⟨k,hk,rfl,ho,hb⟩:=hrel
    have ho':=Lib.hid ho
    clear ho
    by_cases hlt:k < LL.length
    ·obtain ⟨l,hl⟩:∃ l,LL[k]?=some l:=⟨_,List.getElem?_eq_getElem hlt⟩
     obtain ⟨b,o,lv,rfl,hc,hr⟩:=RdS.at1 (wr:=wr) H.out (by decide) (fun _ _ r=>r) hb hl
     have hst:=Lib.hid (flat_step hl)
     have h1:=hle.out (k+1)
     rw [lenN_step hl] at h1
     have h2:(LL.take k).flatten.length=lenN LL k:=rfl
     have hr':=Lib.hid hr
     have hz:=hb.size
     clear hr hl
     go_wp2_with (at_builtin;refine wpList_app rfl (.tmp 31) (.tmp 32) 28 rfl w.heap.size 65 1 24 _ elQ RVal1 _ (LL.take k).flatten l rfl ho'.out F _ rfl hr'.out RVal1_one (by unfold maxLen;omega) (by omega) hz (fun _ _ _ _ _ r=>r) ?_;intro v2 w2 ho2 _ hb2)
     have ho2':=Lib.hid ho2
     clear ho2
     go_wp2
     go_roundw
     case rel=>exact ⟨k+1,by omega,by go_num,by rw [hst.out];exact ho2'.out,hb.trans hb2⟩
     case measure=>simp [intOf];omega
    ·obtain rfl:k=LL.length:=by omega
     rw [List.take_length] at ho'
     go_wp2
     go_ret
     exact ⟨_,rfl,ho'.out,hb⟩
end Go.Proofs.YteikncnldbdfmaaGreatDoor
