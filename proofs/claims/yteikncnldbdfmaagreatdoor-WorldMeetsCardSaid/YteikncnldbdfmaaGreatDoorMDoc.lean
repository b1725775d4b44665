import Derived.Test.YteikncnldbdfmaaGreatDoorMMem
import Derived.Test.YteikncnldbdfmaaGreatDoorMPl
import Derived.Deep.Light
import Derived.WalkSpells
import Derived.BigRegion
import Derived.RegionTactic
import Derived.ChangeAlike
import Derived.IntWalk
import Derived.Deep.RegionHeld3
import Derived.Deep.DeepFit
import Derived.Deep.RegionLaw
import Derived.Deep.RegionWith
namespace Go.Proofs.YteikncnldbdfmaaGreatDoor
open Go.RowKit Go.Mh
set_option maxHeartbeats 400000 in
theorem item_any (x:It) (w:World) :
  Calls Tryz.prog 147 #[.agg #[.int .u8 x.c.toNat,.int .i64 x.m,str x.l]] w fun e w'=>e=.returned (.int .i64 (chkItem x))∧Below w.heap.size w w':=by
 obtain ⟨c,m,l⟩:=x
 have hch:Hid (chkItem ⟨c,m,l⟩=if ¬ (c.toNat:Int)=10∧((c.toNat:Int) < 32∨126 < (c.toNat:Int)) then 1
  else if m < 0∨3 < m then 3 else if l≠[]∧((c.toNat:Int)=10∨may l=false) then 4 else 0):=rfl
 go_enter Tryz.func147,Tryz.ntmps147
 go_wp2_with (go_at_call 182;refine (may_any _ _).mono ?_;rintro e w1 ⟨rfl,hb⟩)
 all_goals
  go_ret
  go_light
  refine ⟨congrArg (fun n=>Ending.returned (Value.int IntKind.i64 n)) ?_, ?_⟩
  ·rw [hch.out]
   clear hch
   first | (simp_all;done) | (simp_all;rw [if_neg (by omega),if_neg (by omega)])
  ·first | exact (Below.refl _ _).alloc (Nat.le_refl _) _ | exact ((Below.refl _ _).alloc (Nat.le_refl _) _).trans ((by assumption:Below _ _ _).mono (by simp))
theorem itemsFn_any (x:It) (w:World) :
  Calls Tryz.prog 146 #[.agg #[.int .u8 x.c.toNat,.int .i64 x.m,str x.l]] w fun e w'=>e=.returned (.bool (chkItem x != 0))∧Below w.heap.size w w':=by
 have hit:=Lib.hid (item_any x)
 obtain ⟨c,m,l⟩:=x
 go_enter Tryz.func146,Tryz.ntmps146
 go_wp2_with (go_at_call 147;refine (hit.out _).mono ?_;rintro e w1 ⟨rfl,hb⟩)
 go_ret
 exact ⟨rfl,((Below.refl _ _).alloc (Nat.le_refl _) _).trans (hb.mono (by simp))⟩
set_option maxHeartbeats 400000 in
theorem itemsIdx_any (F:Nat→Prop) (v:Value) (L:List It) (w:World) (h:RItems F w v L) :
  Calls Tryz.prog 145 #[v,.func (.func 146) #[] #[]] w fun e w'=>e=.returned (.int .i64 (badAt L))∧Below w.heap.size w w':=by
 obtain ⟨a,cap,rfl,hn⟩:=RdS.len h
 go_enter Tryz.func145,Tryz.ntmps145
 go_wp2
 go_loopw [5,8] (fun _ i wr=>∃ k:Nat,k≤L.length∧i=.int .i64 k∧(∀ x ∈ L.take k,chkItem x=0)∧Below w.heap.size w wr) (fun _ i _=>L.length - (intOf i).toNat)
 case atStart=>exact ⟨0,Nat.zero_le _,rfl,by simp,Below.refl _ _⟩
 case round =>
  obtain ⟨k,hk,rfl,hall,hb⟩:=hrel
  have hal:=Lib.hid hall;clear hall
  by_cases hlt:k < L.length
  ·obtain ⟨x,hx⟩:∃ x,L[k]?=some x:=⟨_,List.getElem?_eq_getElem hlt⟩
   obtain ⟨b,o,rfl,c0,c1,c2⟩:=RItems.at h hb hx
   have hx':=Lib.hid hx;clear hx
   have H:=Lib.hid h;clear h
   obtain ⟨c,m,l⟩:=x
   go_wp2_with (go_at_call 146;refine (itemsFn_any ⟨c,m,l⟩ _).mono ?_;rintro e w1 ⟨rfl,hb1⟩)
   ·have hne:chkItem ⟨c,m,l⟩≠0:=bne_iff_ne.1 (show (chkItem ⟨c,m,l⟩ != 0)=true by assumption)
    have hfin:=Lib.hid (badAt_some hx'.out hne hal.out)
    go_ret
    exact ⟨by rw [hfin.out];rfl,hb.trans (hb1.mono hb.size)⟩
   ·have heq:chkItem ⟨c,m,l⟩=0:=by simpa using (show (chkItem ⟨c,m,l⟩ != 0)=false by assumption)
    go_roundw
    case rel=>exact ⟨k+1,by omega,by go_num,take_snoc_mem hx'.out hal.out heq,hb.trans (hb1.mono hb.size)⟩
    case measure=>simp [intOf];omega
  ·obtain rfl:k=L.length:=by omega
   rw [List.take_length] at hal
   have hfin:=Lib.hid (badAt_none hal.out)
   go_wp2
   go_ret
   exact ⟨by rw [hfin.out];rfl,hb⟩
theorem badAt_cases (L:List It):(badAt L=-1∧∀ x ∈ L,chkItem x=0)∨∃ (k:Nat) (x:It),badAt L=(k:Int)∧L[k]?=some x∧chkItem x≠0∧∀ y ∈ L.take k,chkItem y=0:=by
 unfold badAt
 cases hf:L.findIdx? (fun x=>chkItem x != 0) with
 | none =>
  left
  rw [List.findIdx?_eq_none_iff] at hf
  exact ⟨rfl,fun x hx=>by simpa using hf x hx⟩
 | some k =>
  right
  rw [List.findIdx?_eq_some_iff_getElem] at hf
  obtain ⟨hlt,h1,h2⟩:=hf
  refine ⟨k,L[k],rfl,List.getElem?_eq_getElem hlt,by simpa using h1,fun y hy=>?_⟩
  rw [List.mem_take_iff_getElem] at hy
  obtain ⟨j,hj,rfl⟩:=hy
  simpa using h2 j (by omega)
set_option maxHeartbeats 400000 in
theorem items_any (F:Nat→Prop) (v:Value) (L:List It) (w:World) (h:RItems F w v L) :
  Calls Tryz.prog 82 #[v] w fun e w'=>e=.returned (.int .i64 (chkItems L))∧Below w.heap.size w w':=by
 have hidx:=Lib.hid (itemsIdx_any F v L w h)
 obtain ⟨a,cap,rfl,hn⟩:=RdS.len h
 rcases badAt_cases L with ⟨hb0,hall⟩ | ⟨k,x,hb0,hx,hne,hall⟩
 ·have hb0':=Lib.hid hb0;clear hb0
  have hfin:=Lib.hid (chkItems_none hall);clear hall
  have H:=Lib.hid h;clear h
  go_enter Tryz.func82,Tryz.ntmps82
  go_wp2_with (go_at_call 145;refine hidx.out.mono ?_;rintro e w1 ⟨rfl,hb⟩;rw [hb0'.out])
  go_ret
  exact ⟨by rw [hfin.out];rfl,hb⟩
 ·have hb0':=Lib.hid hb0;clear hb0
  have hfin:=Lib.hid (chkItems_some hx hne hall);clear hall
  have hk:k < L.length:=(List.getElem?_eq_some_iff.1 hx).1
  have hx':=Lib.hid hx;clear hx
  have H:=Lib.hid h;clear h
  have hne':=Lib.hid hne;clear hne
  obtain ⟨b,o,rfl,_⟩:=RItems.at H.out (Below.refl _ _) hx'.out
  obtain ⟨c,m,l⟩:=x
  go_enter Tryz.func82,Tryz.ntmps82
  go_wp2_with (first | (go_at_call 145;refine hidx.out.mono ?_;rintro e w1 ⟨rfl,hb⟩;rw [hb0'.out];obtain ⟨b',o',e',c0,c1,c2⟩:=RItems.at H.out hb hx'.out;cases e') | (go_at_call 147;refine (item_any ⟨c,m,l⟩ _).mono ?_;rintro e w2 ⟨rfl,hb2⟩))
  go_ret
  exact ⟨by rw [hfin.out];rfl,hb.trans (hb2.mono hb.size)⟩
theorem chkDoc_many {L:List It} (h:80 < L.length):chkDoc L=2:=by simp [chkDoc,h]
theorem chkDoc_items {L:List It} (h:¬ 80 < L.length) (h1:chkItems L≠0):chkDoc L=chkItems L:=by unfold chkDoc;rw [if_neg h,if_pos h1]
theorem chkDoc_nil:chkDoc []=4:=by simp [chkDoc,chkItems]
theorem chkDoc_last {L:List It} {x:It} (h:¬ 80 < L.length) (h1:chkItems L=0) (hx:L[L.length - 1]?=some x):chkDoc L=if (x.c.toNat:Int)=10 then 0 else 4:=by
 have:L.getLast?=some x:=by rw [List.getLast?_eq_getElem?];exact hx
 simp [chkDoc,h,h1,this]
set_option maxHeartbeats 400000 in
theorem check_any (F:Nat→Prop) (v:Value) (L:List It) (w:World) (h:RItems F w v L) :
  Calls Tryz.prog 25 #[v] w fun e w'=>e=.returned (.int .i64 (chkDoc L))∧Below w.heap.size w w':=by
 have hitems:=Lib.hid (fun w' (hb:Below w.heap.size w w')=>items_any F v L w' (h.to (Kp.below hb)))
 obtain ⟨a,cap,rfl,hn⟩:=RdS.len h
 by_cases h80:80 < L.length
 ·have hfin:=Lib.hid (chkDoc_many h80)
  have H:=Lib.hid h;clear h
  have h80':(80:Int) < (L.length:Int):=by omega
  go_enter Tryz.func25,Tryz.ntmps25
  go_wp2
  go_ret
  exact ⟨by rw [hfin.out];rfl,Below.refl _ _⟩
 have h80':¬ (80:Int) < (L.length:Int):=by omega
 by_cases hit:chkItems L=0
 ·have hit':=Lib.hid hit
  rcases Nat.eq_zero_or_pos L.length with h0 | hpos
  ·obtain rfl:L=[]:=List.eq_nil_of_length_eq_zero h0
   have hfin:=Lib.hid chkDoc_nil
   clear hit h0 h80
   have H:=Lib.hid h;clear h
   go_enter Tryz.func25,Tryz.ntmps25
   go_wp2_with (go_at_call 82;refine (hitems.out _ (Below.refl _ _)).mono ?_;rintro e w1 ⟨rfl,hb⟩;rw [hit'.out])
   go_ret
   exact ⟨by rw [hfin.out];rfl,hb⟩
  ·obtain ⟨x,hx⟩:∃ x,L[L.length - 1]?=some x:=⟨_,List.getElem?_eq_getElem (by omega)⟩
   have hfin:=Lib.hid (chkDoc_last h80 hit hx)
   obtain ⟨k,hk⟩:∃ k,L.length=k+1:=⟨L.length - 1,by omega⟩
   clear hit h80 hpos
   have hk1:L.length - 1=k:=by omega
   rw [hk1] at hx
   clear hk1
   have hx':=Lib.hid hx;clear hx
   have H:=Lib.hid h;clear h
   obtain ⟨b,o,rfl,_⟩:=RItems.at H.out (Below.refl _ _) hx'.out
   obtain ⟨c,m,l⟩:=x
   generalize L.length=n at *
   subst hk
   have hni:((k:Int)+1 == 0)=false:=by rw [beq_eq_false_iff_ne];omega
   by_cases hc:(c.toNat:Int)=10
   ·have hcb:((c.toNat:Int) != 10)=false:=by simpa using hc
    simp only [hc,if_true] at hfin
    clear hc
    go_enter Tryz.func25,Tryz.ntmps25
    go_wp2_with (go_at_call 82;refine (hitems.out _ (Below.refl _ _)).mono ?_;rintro e w1 ⟨rfl,hb⟩;rw [hit'.out];obtain ⟨b',o',e',c0,c1,c2⟩:=RItems.at H.out hb hx'.out;cases e')
    go_ret
    exact ⟨by rw [hfin.out];rfl,hb⟩
   ·have hcb:((c.toNat:Int) != 10)=true:=by simpa using hc
    simp only [hc,if_false] at hfin
    clear hc
    go_enter Tryz.func25,Tryz.ntmps25
    go_wp2_with (go_at_call 82;refine (hitems.out _ (Below.refl _ _)).mono ?_;rintro e w1 ⟨rfl,hb⟩;rw [hit'.out];obtain ⟨b',o',e',c0,c1,c2⟩:=RItems.at H.out hb hx'.out;cases e')
    go_ret
    exact ⟨by rw [hfin.out];rfl,hb⟩
 ·have hfin:=Lib.hid (chkDoc_items h80 hit)
  have hit':(chkItems L != 0)=true:=by simpa using hit
  have H:=Lib.hid h;clear h h80 hit
  go_enter Tryz.func25,Tryz.ntmps25
  go_wp2_with (go_at_call 82;refine (hitems.out _ (Below.refl _ _)).mono ?_;rintro e w1 ⟨rfl,hb⟩)
  go_ret
  exact ⟨by rw [hfin.out];rfl,hb⟩
end Go.Proofs.YteikncnldbdfmaaGreatDoor
namespace Go.Proofs.YteikncnldbdfmaaGreatDoor
open Go.RowKit Go.Mh
set_option maxHeartbeats 800000 in
theorem eqDoc_any (F G:Nat→Prop) (v u:Value) (L M:List It) (w:World) (h:RItems F w v L) (g:RItems G w u M) :
  Calls Tryz.prog 24 #[v,u] w fun e w'=>e=.returned (.bool (decide (L=M)))∧Below w.heap.size w w':=by
 obtain ⟨a,cap,rfl,hn⟩:=RdS.len h
 obtain ⟨a',cap',rfl,hn'⟩:=RdS.len g
 by_cases hlen:L.length=M.length
 ·have hle:((L.length:Int) != (M.length:Int))=false:=by simp [hlen]
  go_enter Tryz.func24,Tryz.ntmps24
  have hlen':=Lib.hid hlen;clear hlen
  go_wp2
  clear hle
  go_loopw [5,13] (fun _ i wr=>∃ k:Nat,k≤L.length∧i=.int .i64 k∧L.take k=M.take k∧Below w.heap.size w wr) (fun _ i _=>L.length - (intOf i).toNat)
  case atStart=>exact ⟨0,Nat.zero_le _,rfl,rfl,Below.refl _ _⟩
  case round =>
   obtain ⟨k,hk,rfl,hpre,hb⟩:=hrel
   have hpre':=Lib.hid hpre;clear hpre
   by_cases hlt:k < L.length
   ·obtain ⟨x,hx⟩:∃ x,L[k]?=some x:=⟨_,List.getElem?_eq_getElem hlt⟩
    have hlt':k < M.length:=by rw [← hlen'.out];exact hlt
    obtain ⟨y,hy⟩:∃ y,M[k]?=some y:=⟨_,List.getElem?_eq_getElem hlt'⟩
    obtain ⟨b,o,rfl,c0,c1,c2⟩:=RItems.at h hb hx
    obtain ⟨b',o',rfl,d0,d1,d2⟩:=RItems.at g hb hy
    have hx':=Lib.hid hx;clear hx
    have hy':=Lib.hid hy;clear hy
    have H:=Lib.hid h;clear h
    have G':=Lib.hid g;clear g
    have hgd:=guard_Item
    have hcmp:=fun w=>neqItem x y w
    by_cases hxy:x=y
    ·have hd:decide (x=y)=true:=by simpa using hxy
     obtain ⟨c,m,l⟩:=x
     obtain ⟨c',m',l'⟩:=y
     simp only [hd,Bool.not_true] at hcmp
     have hxy':=Lib.hid hxy;clear hxy hd
     go_wp2_with fail
     go_quiet (fail)
     go_wp2
     go_roundw
     case rel=>exact ⟨k+1,by omega,by go_num,by rw [List.take_add_one,List.take_add_one,hx'.out,hy'.out,hpre'.out,hxy'.out],bdrewN hb _⟩
     case measure=>simp [intOf];omega
    ·have hd:decide (x=y)=false:=by simpa using hxy
     have hfin:Hid (decide (L=M)=false):=by
      show decide (L=M)=false
      rw [decide_eq_false_iff_not]
      intro e
      rw [e,hy'.out] at hx'
      exact hxy (Option.some.inj hx'.out).symm
     obtain ⟨c,m,l⟩:=x
     obtain ⟨c',m',l'⟩:=y
     simp only [hd,Bool.not_false] at hcmp
     have hxy':=Lib.hid hxy;clear hxy hd
     go_wp2_with fail
     go_quiet (fail)
     go_wp2
     go_ret
     exact ⟨by rw [hfin.out];rfl,bdrewN hb _⟩
   ·obtain rfl:k=L.length:=by omega
    have hfin:Hid (decide (L=M)=true):=by
     show decide (L=M)=true
     have:=hpre'.out
     rw [List.take_length,hlen'.out,List.take_length] at this
     simpa using this
    go_wp2
    go_ret
    exact ⟨by rw [hfin.out];rfl,hb⟩
 ·have hle:((L.length:Int) != (M.length:Int))=true:=by
   rw [bne_iff_ne];omega
  have hfin:Hid (decide (L=M)=false):=by
   show decide (L=M)=false
   rw [decide_eq_false_iff_not]
   intro e
   exact hlen (by rw [e])
  clear hlen
  go_enter Tryz.func24,Tryz.ntmps24
  go_wp2
  go_ret
  exact ⟨by rw [hfin.out];rfl,Below.refl _ _⟩
end Go.Proofs.YteikncnldbdfmaaGreatDoor
namespace Go.Proofs.YteikncnldbdfmaaGreatDoor
open Go.RowKit Go.Mh
theorem elPart:El Tryz.prog 40 93 7 80 (.agg #[.int .i64 0,.int .i64 0,.slice none 0 0,.int .i64 0,.int .i64 0,.bool false,.string ⟨#[]⟩]):=⟨Tryz.underlying40,by kernel_rfl,rfl,by decide⟩
set_option maxRecDepth 100000 in
set_option maxHeartbeats 400000 in
theorem cloneOp_any (F:Nat→Prop) (v:Value) (L:List Pt) (w:World) (h:ROp F w v L) (hl:L.length≤100000) :
  Calls Tryz.prog 149 #[v] w fun e w'=>∃ u,e=.returned u∧OwnS w.heap.size 93 7 (RPt fun k=>F k∧k < w.heap.size) w' u L∧Below w.heap.size w w':=by
 obtain ⟨a,cap,rfl,hn⟩:=RdS.len h
 have H:=Lib.hid h;clear h
 have hnil:=fun (w:World)=>Lib.run_eql_slice_nil (P:=Tryz.prog) w 40 93 a L.length cap 0 0 Tryz.underlying40
 cases a with
 | none =>
  simp only [Option.isNone_none] at hnil
  obtain ⟨rfl,rfl⟩:L=[]∧cap=0:=RdS.none_nil H.out
  clear hn hl
  simp only [List.length_nil] at hnil
  go_enter Tryz.func149,Tryz.ntmps149
  go_wp2
  go_ret
  exact ⟨_,rfl,OwnS.nil,brf _⟩
 | some ad =>
  simp only [Option.isNone_some] at hnil
  have hF:Kp F (fun k=>F k∧k < w.heap.size) w (w.alloc (.cells #[] 93)):=fun k hF hk=>⟨⟨hF,hk⟩,(bal (brf w) _).block k hk⟩
  go_enter Tryz.func149,Tryz.ntmps149
  go_wp2_with (at_builtin;refine wpList_app rfl (.tmp 5) (.tmp 6) 40 rfl w.heap.size 93 7 80 _ elPart (RPt fun k=>F k∧k < w.heap.size) (.slice (some ⟨w.heap.size,0,none⟩) 0 0) [] L rfl (OwnS.empty (Nat.le_refl _) (heap_new _ _)) _ (.slice (some ad) L.length cap) rfl (ROp.to H.out hF) (RPt_one _) (by simp [maxLen];omega) (by simp;omega) (by simp) (fun w' hg cs x _ r=>RPt.to r fun k hF hk=>⟨hF,hg.block k hk (by simp [Value.ownBlock];omega)⟩) ?_;intro v2 w2 ho2 hb2 hB2)
  go_ret
  exact ⟨_,rfl,ho2,(bal (brf w) _).trans hB2⟩
theorem elItems:El Tryz.prog 22 58 3 32 (.agg #[.int .u8 0,.int .i64 0,.string ⟨#[]⟩]):=⟨Tryz.underlying22,by kernel_rfl,rfl,by decide⟩
set_option maxRecDepth 100000 in
set_option maxHeartbeats 400000 in
theorem cloneItems_any (F:Nat→Prop) (v:Value) (L:List It) (w:World) (h:RItems F w v L) (hl:L.length≤100000) :
  Calls Tryz.prog 155 #[v] w fun e w'=>∃ u,e=.returned u∧OwnS w.heap.size 58 3 RIt w' u L∧Below w.heap.size w w':=by
 obtain ⟨a,cap,rfl,hn⟩:=RdS.len h
 have H:=Lib.hid h;clear h
 have hnil:=fun (w:World)=>Lib.run_eql_slice_nil (P:=Tryz.prog) w 22 58 a L.length cap 0 0 Tryz.underlying22
 cases a with
 | none =>
  simp only [Option.isNone_none] at hnil
  obtain ⟨rfl,rfl⟩:L=[]∧cap=0:=RdS.none_nil H.out
  clear hn hl
  simp only [List.length_nil] at hnil
  go_enter Tryz.func155,Tryz.ntmps155
  go_wp2
  go_ret
  exact ⟨_,rfl,OwnS.nil,brf _⟩
 | some ad =>
  simp only [Option.isNone_some] at hnil
  have hF:Kp F (fun k=>F k∧k < w.heap.size) w (w.alloc (.cells #[] 58)):=fun k hF hk=>⟨⟨hF,hk⟩,(bal (brf w) _).block k hk⟩
  go_enter Tryz.func155,Tryz.ntmps155
  go_wp2_with (at_builtin;refine wpList_app rfl (.tmp 5) (.tmp 6) 22 rfl w.heap.size 58 3 32 _ elItems RIt (.slice (some ⟨w.heap.size,0,none⟩) 0 0) [] L rfl (OwnS.empty (Nat.le_refl _) (heap_new _ _)) _ (.slice (some ad) L.length cap) rfl (RItems.to H.out hF) RIt_one (by simp [maxLen];omega) (by simp;omega) (by simp) (fun _ _ _ _ _ r=>r) ?_;intro v2 w2 ho2 hb2 hB2)
  go_ret
  exact ⟨_,rfl,ho2,(bal (brf w) _).trans hB2⟩
theorem elDoc:El Tryz.prog 23 58 3 32 (.agg #[.int .u8 0,.int .i64 0,.string ⟨#[]⟩]):=⟨Tryz.underlying23,by kernel_rfl,rfl,by decide⟩
set_option maxRecDepth 100000 in
set_option maxHeartbeats 400000 in
theorem cloneDoc_any (F:Nat→Prop) (v:Value) (L:List It) (w:World) (h:RItems F w v L) (hl:L.length≤100000) :
  Calls Tryz.prog 84 #[v] w fun e w'=>∃ u,e=.returned u∧OwnS w.heap.size 58 3 RIt w' u L∧Below w.heap.size w w':=by
 obtain ⟨a,cap,rfl,hn⟩:=RdS.len h
 have H:=Lib.hid h;clear h
 have hnil:=fun (w:World)=>Lib.run_eql_slice_nil (P:=Tryz.prog) w 23 58 a L.length cap 0 0 Tryz.underlying23
 cases a with
 | none =>
  simp only [Option.isNone_none] at hnil
  obtain ⟨rfl,rfl⟩:L=[]∧cap=0:=RdS.none_nil H.out
  clear hn hl
  simp only [List.length_nil] at hnil
  go_enter Tryz.func84,Tryz.ntmps84
  go_wp2
  go_ret
  exact ⟨_,rfl,OwnS.nil,brf _⟩
 | some ad =>
  simp only [Option.isNone_some] at hnil
  have hF:Kp F (fun k=>F k∧k < w.heap.size) w (w.alloc (.cells #[] 58)):=fun k hF hk=>⟨⟨hF,hk⟩,(bal (brf w) _).block k hk⟩
  go_enter Tryz.func84,Tryz.ntmps84
  go_wp2_with (at_builtin;refine wpList_app rfl (.tmp 5) (.tmp 6) 23 rfl w.heap.size 58 3 32 _ elDoc RIt (.slice (some ⟨w.heap.size,0,none⟩) 0 0) [] L rfl (OwnS.empty (Nat.le_refl _) (heap_new _ _)) _ (.slice (some ad) L.length cap) rfl (RItems.to H.out hF) RIt_one (by simp [maxLen];omega) (by simp;omega) (by simp) (fun _ _ _ _ _ r=>r) ?_;intro v2 w2 ho2 hb2 hB2)
  go_ret
  exact ⟨_,rfl,ho2,(bal (brf w) _).trans hB2⟩
end Go.Proofs.YteikncnldbdfmaaGreatDoor
namespace Go.Mh
theorem ROp_one {F:Nat→Prop} {w:World} {v:Value} {L:List Pt} (h:ROp F w v L):v.oneCell'=true:=by obtain ⟨a,cap,rfl,_⟩:=h;rfl
theorem REn_one (F:Nat→Prop):∀ (w:World) (cs:List Value) (x:En),REn F w cs x→∀ u ∈ cs,u.oneCell'=true:=by
 rintro _ _ _ ⟨ov,rfl,ho⟩ u hu
 have:=ROp_one ho
 simp at hu
 rcases hu with rfl | rfl | rfl <;> first | rfl | assumption
end Go.Mh
namespace Go.Proofs.YteikncnldbdfmaaGreatDoor
open Go.RowKit Go.Mh
theorem elLog:El Tryz.prog 24 77 3 40 (.agg #[.int .i64 0,.int .i64 0,.slice none 0 0]):=⟨Tryz.underlying24,by kernel_rfl,rfl,by decide⟩
set_option maxRecDepth 100000 in
set_option maxHeartbeats 400000 in
theorem cloneLog_any (F:Nat→Prop) (v:Value) (L:List En) (w:World) (h:RLog F w v L) (hl:L.length≤100000) :
  Calls Tryz.prog 156 #[v] w fun e w'=>∃ u,e=.returned u∧OwnS w.heap.size 77 3 (REn fun k=>F k∧k < w.heap.size) w' u L∧Below w.heap.size w w':=by
 obtain ⟨a,cap,rfl,hn⟩:=RdS.len h
 have H:=Lib.hid h;clear h
 have hnil:=fun (w:World)=>Lib.run_eql_slice_nil (P:=Tryz.prog) w 24 77 a L.length cap 0 0 Tryz.underlying24
 cases a with
 | none =>
  simp only [Option.isNone_none] at hnil
  obtain ⟨rfl,rfl⟩:L=[]∧cap=0:=RdS.none_nil H.out
  clear hn hl
  simp only [List.length_nil] at hnil
  go_enter Tryz.func156,Tryz.ntmps156
  go_wp2
  go_ret
  exact ⟨_,rfl,OwnS.nil,brf _⟩
 | some ad =>
  simp only [Option.isNone_some] at hnil
  have hF:Kp F (fun k=>F k∧k < w.heap.size) w (w.alloc (.cells #[] 77)):=fun k hF hk=>⟨⟨hF,hk⟩,(bal (brf w) _).block k hk⟩
  go_enter Tryz.func156,Tryz.ntmps156
  go_wp2_with (at_builtin;refine wpList_app rfl (.tmp 5) (.tmp 6) 24 rfl w.heap.size 77 3 40 _ elLog (REn fun k=>F k∧k < w.heap.size) (.slice (some ⟨w.heap.size,0,none⟩) 0 0) [] L rfl (OwnS.empty (Nat.le_refl _) (heap_new _ _)) _ (.slice (some ad) L.length cap) rfl (RLog.to H.out hF) (REn_one _) (by simp [maxLen];omega) (by simp;omega) (by simp) (fun w' hg cs x _ r=>REn.to r fun k hF hk=>⟨hF,hg.block k hk (by simp [Value.ownBlock];omega)⟩) ?_;intro v2 w2 ho2 hb2 hB2)
  go_ret
  exact ⟨_,rfl,ho2,(bal (brf w) _).trans hB2⟩
end Go.Proofs.YteikncnldbdfmaaGreatDoor
namespace Go.Proofs.YteikncnldbdfmaaGreatDoor
open Go.RowKit Go.Mh
set_option maxRecDepth 100000 in
set_option maxHeartbeats 1000000 in
theorem opMark_any (x:It) (p:Pt) (sv:Value) (w:World) :
  Calls Tryz.prog 193 #[iv x,pv p sv] w fun e w'=>e=.returned (iv (markI x p.kd))∧Below w.heap.size w w':=by
 obtain ⟨c,m,l⟩:=x
 obtain ⟨k,n,its,set,clr,tto,pl⟩:=p
 cases tto with
 | false =>
  go_enter Tryz.func193,Tryz.ntmps193
  go_wp2
  exact bodyPost_ret (v:=iv ⟨c,bor (bnot m clr) set,l⟩) (by simp [results,Tryz.results193,go_sem]) rfl ⟨rfl,bal (bal (bal (brf _) _) _) _⟩
 | true =>
  by_cases hc:(c.toNat:Int)=10
  ·have hcb:((c.toNat:Int) != 10)=false:=by simpa using hc
   have hc':=Lib.hid hc;clear hc
   go_enter Tryz.func193,Tryz.ntmps193
   go_wp2
   exact bodyPost_ret (v:=iv ⟨c,bor (bnot m clr) set,l⟩) (by simp [results,Tryz.results193,go_sem]) rfl ⟨congrArg (fun x=>Ending.returned (iv x)) (by simp [markI,Pt.kd,hc'.out]),bal (bal (bal (brf _) _) _) _⟩
  ·have hcb:((c.toNat:Int) != 10)=true:=by simpa using hc
   have hc':=Lib.hid hc;clear hc
   go_enter Tryz.func193,Tryz.ntmps193
   go_wp2
   exact bodyPost_ret (v:=iv ⟨c,bor (bnot m clr) set,pl⟩) (by simp [results,Tryz.results193,go_sem]) rfl ⟨congrArg (fun x=>Ending.returned (iv x)) (by simp [markI,Pt.kd,hc'.out]),bal (bal (bal (brf _) _) _) _⟩
set_option maxRecDepth 100000 in
set_option maxHeartbeats 1000000 in
theorem alike_any (p q:Pt) (sv tv:Value) (w:World) :
  Calls Tryz.prog 153 #[pv p sv,pv q tv] w fun e w'=>e=.returned (.bool (alikeP p q))∧Below w.heap.size w w':=by
 obtain ⟨k,n,its,set,clr,tto,l⟩:=p
 obtain ⟨k',n',its',set',clr',tto',l'⟩:=q
 go_enter Tryz.func153,Tryz.ntmps153
 go_wp2
 all_goals
  go_ret
  exact ⟨by simp_all [alikeP],bal (bal (brf _) _) _⟩
end Go.Proofs.YteikncnldbdfmaaGreatDoor
namespace Go.Proofs.YteikncnldbdfmaaGreatDoor
open Go.RowKit Go.Mh
set_option maxRecDepth 100000 in
set_option maxHeartbeats 2000000 in
theorem opCopy_any (G:Nat→Prop) (u:Value) (L:List Pt) (w:World) (g:ROp G w u L) (hl:L.length≤100000) (hits:∀ p ∈ L,p.its.length≤100000) :
  Calls Tryz.prog 91 #[u] w fun e w'=>∃ v,e=.returned v∧ROp (fun k=>w.heap.size≤k∨G k) w' v L∧Below w.heap.size w w':=by
 have G':=Lib.hid g
 have hI0:=Lib.hid hits;clear hits
 go_enter Tryz.func91,Tryz.ntmps91
 go_wp2_with fail
 refine (cloneOp_any G _ L _ G'.out hl).mono ?_
 rintro e w1 ⟨v1,rfl,ho,hb1⟩
 by_cases hne:L=[]
 ·subst hne
  obtain ⟨a1,c1,rfl,_⟩:=RdS.len ho.rd
  have ho':Hid (ROp (fun k=>w.heap.size≤k∨G k) w1 (.slice a1 ([]:List Pt).length c1) []):=Lib.hid (RdS.to ho.rd (by decide) (fun k hk _=>⟨Or.inl hk,rfl⟩) fun cs x hx=>by simp at hx)
  clear ho g
  go_wp2
  refine wp_loop_rounds 1 ?_
  rw [rounds_succ]
  go_wp2
  go_ret
  exact ⟨_,rfl,ho'.out,hb1⟩
 ·obtain ⟨gb,cap,cur,rfl,hgb,hh⟩:=ho.shape hne
  have hoF:Hid (OwnS w.heap.size 93 7 (RPt fun k=>k≠gb∧(w.heap.size≤k∨G k)) w1 (.slice (some ⟨gb,0,none⟩) L.length cap) L):=Lib.hid (ho.to (fun _ _ _=>rfl) fun cs x _ r=>RPt.to r (Kp.weak w1 fun k hk=>⟨by omega,Or.inr hk.1⟩))
  clear ho hh hne g
  go_wp2
  go_loopw [9] (fun i wr=>∃ k:Nat,k≤L.length∧i=.int .i64 k∧OwnS w.heap.size 93 7 (RPt fun k=>k≠gb∧(w.heap.size≤k∨G k)) wr (.slice (some ⟨gb,0,none⟩) L.length cap) L∧Below w.heap.size w wr) (fun i _=>L.length - (intOf i).toNat)
  case atStart=>exact ⟨0,Nat.zero_le _,rfl,hoF.out,hb1⟩
  case round =>
   obtain ⟨k,hk,rfl,ho,hb⟩:=hrel
   have ho':=Lib.hid ho;clear ho
   by_cases hlt:k < L.length
   ·obtain ⟨p,hp⟩:∃ x,L[k]?=some x:=⟨_,List.getElem?_eq_getElem hlt⟩
    obtain ⟨b,o,sv,e1,hits,c0,c1,c2,c3,c4,c5,c6⟩:=ROp.at ho'.out.read (Below.refl _ _) hp
    cases e1
    obtain ⟨_,_,cur2,e2,_,hh⟩:=ho'.out.shape (by intro e;rw [e] at hlt;simp at hlt)
    cases e2
    simp only [Nat.zero_add] at c0 c1 c2 c3 c4 c5 c6
    obtain ⟨sa,sc,rfl,hsn⟩:=RdS.len hits
    have hI:=Lib.hid hits;clear hits
    have hbs:gb < wr.heap.size:=lt_of_cell c0
    have hpl:=hI0.out p (List.mem_of_getElem? hp)
    have hself:=Lib.hid (set_self hp)
    have hp':=Lib.hid hp;clear hp
    have hh':=Lib.hid hh;clear hh
    obtain ⟨xk,xn,xits,xset,xclr,xto,xl⟩:=p
    go_wp2_with fail
    refine (cloneItems_any (fun _=>True) _ xits _ (hI.out.to (Kp.below (bal (brf _) _))) hpl).mono ?_
    rintro e w2 ⟨v2,rfl,ho2,hb2⟩
    have HB:Below wr.heap.size wr w2:=(bal (brf wr) _).trans (hb2.mono (by simp))
    have hoW:=Lib.hid (ho'.out.below HB fun cs x _ r=>RPt.to r (Kp.below HB))
    have hh2:=(HB.block _ hbs).trans hh'.out
    have d2:∃ z,w2.cell? ⟨gb,k * 7+2,none⟩=some z:=⟨_,(HB.cell (p:=⟨gb,k * 7+2,none⟩) hbs).trans c2⟩
    obtain ⟨z,d2⟩:=d2
    have f2:w2.frozen? ⟨gb,k * 7+2,none⟩=false:=Lib.frozen_of_heap hh2 _
    obtain ⟨a2,cc2,rfl,_⟩:=RdS.len ho2.rd
    have hr2:Hid (RItems (fun k=>k≠gb∧(w.heap.size≤k∨G k)) (w2.setCell ⟨gb,k * 7+2,none⟩ (.slice a2 xits.length cc2)) (.slice a2 xits.length cc2) xits):=Lib.hid (RItems.to ho2.rd fun k' h1 _=>⟨by simp at h1;have:=hb.size;exact ⟨by omega,Or.inl (by omega)⟩,heap_setCell_other w2 _ k' _ (by simp at h1 ⊢;omega)⟩)
    have hset:=Lib.hid (hoW.out.set hp'.out (j:=2) (x':=⟨xk,xn,xits,xset,xclr,xto,xl⟩) (R':=RPt fun k=>k≠gb∧(w.heap.size≤k∨G k)) (by decide) (.slice a2 xits.length cc2) rfl (fun cs y _ r=>RPt.to r fun k hk _=>⟨hk,heap_setCell_other _ _ k _ hk.1⟩) (fun cs hcs r=>by
     obtain ⟨sv,rfl,_⟩:=r
     exact ⟨_,rfl,hr2.out⟩))
    clear ho2 hh2
    go_wp2
    go_roundw
    case rel=>exact ⟨k+1,by omega,by go_num,by have:=hset.out;rw [hself.out] at this;exact this,(hb.trans (HB.mono hb.size)).setCell hgb _⟩
    case measure=>simp [intOf];omega
   ·obtain rfl:k=L.length:=by omega
    go_wp2
    go_ret
    exact ⟨_,rfl,RdS.to ho'.out.rd (by decide) (fun k hk _=>⟨Or.inl hk,rfl⟩) (fun cs x _ r=>RPt.to r (Kp.weak wr fun k hk=>hk.2)),hb⟩
end Go.Proofs.YteikncnldbdfmaaGreatDoor
namespace Go.Proofs.YteikncnldbdfmaaGreatDoor
open Go.RowKit Go.Mh
theorem longs_step {L:List Pt} {k:Nat} {p:Pt} (f t:Int) (h:L[k]?=some p):longs f t (L.drop k) =
  if p.k=1 then longs (w64 (f+p.n)) (w64 (t+p.n)) (L.drop (k+1)) else if p.k=2 then longs f (w64 (t+p.its.length)) (L.drop (k+1)) else if p.k=3 then longs (w64 (f+p.n)) t (L.drop (k+1)) else longs f t (L.drop (k+1)):=by
 obtain ⟨hlt,rfl⟩:=List.getElem?_eq_some_iff.1 h
 rw [List.drop_eq_getElem_cons hlt]
 rfl
theorem w64_wrap (n:Int):w64 n=wrap64 n:=by unfold w64 wrap64;simp [IntKind.wrap,IntKind.bits,IntKind.signed];split <;> omega
set_option maxRecDepth 100000 in
set_option maxHeartbeats 1000000 in
theorem opLong_any (G:Nat→Prop) (u:Value) (L:List Pt) (w:World) (g:ROp G w u L) :
  Calls Tryz.prog 148 #[u] w fun e w'=>e=.returned (.tuple #[.int .i64 (longs 0 0 L).1,.int .i64 (longs 0 0 L).2])∧Below w.heap.size w w':=by
 obtain ⟨a',cap',rfl,hn'⟩:=RdS.len g
 have G':=Lib.hid g;clear g
 go_enter Tryz.func148,Tryz.ntmps148
 go_wp2
 go_loopw [2,3,8] (fun f t i wr=>∃ (k:Nat) (f' t':Int),k≤L.length∧i=.int .i64 k∧f=.int .i64 f'∧t=.int .i64 t'∧Hid (longs 0 0 L=longs f' t' (L.drop k))∧Below w.heap.size w wr) (fun _ _ i _=>L.length - (intOf i).toNat)
 case atStart=>exact ⟨0,0,0,Nat.zero_le _,rfl,rfl,rfl,Lib.hid rfl,Below.refl _ _⟩
 case round =>
  obtain ⟨k,f,t,hk,rfl,rfl,rfl,hst,hb⟩:=hrel
  by_cases hlt:k < L.length
  ·obtain ⟨p,hp⟩:∃ x,L[k]?=some x:=⟨_,List.getElem?_eq_getElem hlt⟩
   obtain ⟨b,o,sv,rfl,hits,c0,c1,c2,c3,c4,c5,c6⟩:=ROp.at G'.out hb hp
   obtain ⟨sa,sc,rfl,hsn⟩:=RdS.len hits
   have hbs:b < wr.heap.size:=lt_of_cell c0
   have hs:=Lib.hid (hst.out.trans (longs_step f t hp))
   clear hits hp hst
   obtain ⟨xk,xn,xits,xset,xclr,xto,xl⟩:=p
   by_cases h1:xk=1
   ·subst h1
    go_wp2_with fail
    go_quiet (fail)
    go_wp2
    go_roundw
    case rel=>exact ⟨k+1,_,_,by omega,by go_num,rfl,rfl,Lib.hid (by rw [hs.out];simp [w64_wrap]),bdrewN (bal hb _) _⟩
    case measure=>simp [intOf];omega
   by_cases h2:xk=2
   ·subst h2
    go_wp2
    go_roundw
    case rel=>exact ⟨k+1,_,_,by omega,by go_num,rfl,rfl,Lib.hid (by rw [hs.out];simp [w64_wrap]),bal hb _⟩
    case measure=>simp [intOf];omega
   by_cases h3:xk=3
   ·subst h3
    go_wp2
    go_roundw
    case rel=>exact ⟨k+1,_,_,by omega,by go_num,rfl,rfl,Lib.hid (by rw [hs.out];simp [w64_wrap]),bal hb _⟩
    case measure=>simp [intOf];omega
   have hs2:=Lib.hid (hs.out.trans (by simp only [if_neg h1,if_neg h2,if_neg h3]:_=longs f t (L.drop (k+1))))
   have e1:(xk == 1)=false:=by simpa using h1
   have e2:(xk == 2)=false:=by simpa using h2
   have e3:(xk == 3)=false:=by simpa using h3
   clear h1 h2 h3 hs
   go_wp2
   go_roundw
   case rel=>exact ⟨k+1,_,_,by omega,by go_num,rfl,rfl,hs2,bal hb _⟩
   case measure=>simp [intOf];omega
  ·obtain rfl:k=L.length:=by omega
   have hfin:Hid (longs 0 0 L=(f,t)):=Lib.hid (by rw [hst.out,List.drop_length];rfl)
   go_wp2
   go_ret2
   exact ⟨by rw [hfin.out];rfl,hb⟩
end Go.Proofs.YteikncnldbdfmaaGreatDoor
namespace Go.Proofs.YteikncnldbdfmaaGreatDoor
open Go.RowKit Go.Mh
theorem acts_take {L:List Pt} {k:Nat} {p:Pt} (h:L[k]?=some p):acts (L.take (k+1))=acts (L.take k) ++ actsP p:=by
 rw [List.take_add_one,h,acts_append];simp [acts_one]
theorem frm_take_le {L:List Pt} (h:∀ p ∈ L,TP p) {k:Nat} {p:Pt} (hp:L[k]?=some p):(frm (acts (L.take k)):Int)+p.n≤frm (acts L):=by
 have h1:=acts_take hp
 have h2:acts L=acts (L.take (k+1)) ++ acts (L.drop (k+1)):=by rw [← acts_append,List.take_append_drop]
 have h3:=frm_actsP (h p (List.mem_of_getElem? hp)).fm
 rw [h2,h1,frm_append,frm_append]
 omega
theorem too_take_le (L:List Pt) (k:Nat):too (acts (L.take k))≤too (acts L):=by
 have h2:acts L=acts (L.take k) ++ acts (L.drop k):=by rw [← acts_append,List.take_append_drop]
 rw [h2,too_append];omega
theorem frm_take_le' (L:List Pt) (k:Nat):frm (acts (L.take k))≤frm (acts L):=by
 have h2:acts L=acts (L.take k) ++ acts (L.drop k):=by rw [← acts_append,List.take_append_drop]
 rw [h2,frm_append];omega
def doT (D:List It) (L:List Pt) (k:Nat):List It:=doA D (acts (L.take k))
def atT (L:List Pt) (k:Nat):Nat:=frm (acts (L.take k))
theorem doT_zero (D:List It) (L:List Pt):doT D L 0=[]:=by simp [doT,acts_nil,doA]
theorem atT_zero (L:List Pt):atT L 0=0:=by simp [atT,acts_nil,frm]
theorem doT_put {D:List It} {L:List Pt} {k:Nat} {l:List It} (h:L[k]?=some (putP l)):doT D L (k+1)=doT D L k ++ l∧atT L (k+1)=atT L k:=by
 unfold doT atT
 rw [acts_take h,doA_append,frm_append,actsP_put,frm_puts]
 have:=doA_puts (D.drop (frm (acts (L.take k)))) l []
 rw [List.append_nil] at this
 rw [this];simp [doA]
theorem doT_cut {D:List It} {L:List Pt} {k:Nat} {n:Nat} (h:L[k]?=some (cutP n)):doT D L (k+1)=doT D L k∧atT L (k+1)=atT L k+n:=by
 unfold doT atT
 rw [acts_take h,doA_append,frm_append,actsP_cut,frm_cuts]
 have:=doA_cuts (D.drop (frm (acts (L.take k)))) n []
 rw [List.append_nil] at this
 rw [Int.toNat_natCast,this];simp [doA]
theorem doT_keep {D:List It} {L:List Pt} {k:Nat} {c:Kd} {n:Nat} (h:L[k]?=some (keepP c n)):doT D L (k+1)=doT D L k ++ ((D.drop (atT L k)).take n).map (markI · c)∧atT L (k+1)=atT L k+n:=by
 unfold doT atT
 rw [acts_take h,doA_append,frm_append,actsP_keep,frm_keeps]
 have:=doA_keeps (D.drop (frm (acts (L.take k)))) n c []
 rw [List.append_nil] at this
 rw [Int.toNat_natCast,this];simp [doA]
theorem doT_len {D:List It} {L:List Pt} (k:Nat) (hf:frm (acts L)=D.length) (ht:too (acts L)≤80):(doT D L k).length≤80:=by
 unfold doT
 have:=too_take_le L k
 have:=frm_take_le' L k
 rw [doA_len _ _ (by omega)]
 omega
theorem opMark_keep (x:It) (c:Kd) (n:Int) (sv:Value) (w:World):Calls Tryz.prog 193 #[.agg #[.int .u8 x.c.toNat,.int .i64 x.m,str x.l],.agg #[.int .i64 1,.int .i64 n,sv,.int .i64 c.set,.int .i64 c.clr,.bool c.to,str c.l]] w fun e w'=>e=.returned (iv (markI x c))∧Below w.heap.size w w':=
 opMark_any x (keepP c n) sv w
theorem take_map_step {D:List It} {t j:Nat} {x:It} {f:It→It} (h:D[t+j]?=some x):((D.drop t).take (j+1)).map f=((D.drop t).take j).map f ++ [f x]:=by
 have:(D.drop t)[j]?=some x:=by rw [List.getElem?_drop];exact h
 rw [List.take_add_one,this];simp
set_option maxRecDepth 100000 in
set_option maxHeartbeats 2000000 in
theorem opDo_any (F G:Nat→Prop) (v u:Value) (D:List It) (L:List Pt) (w:World) (h:RItems F w v D) (g:ROp G w u L) (hok:OpOk L) (hf:frm (acts L)=D.length) (ht:too (acts L)≤80) :
  Calls Tryz.prog 150 #[v,u] w fun e w'=>∃ r,e=.returned r∧RItems (w.heap.size≤·) w' r (doA D (acts L))∧Below w.heap.size w w':=by
 obtain ⟨a,cap,rfl,hn⟩:=RdS.len h
 obtain ⟨a',cap',rfl,hn'⟩:=RdS.len g
 have hD80:D.length≤80:=by have:=hok.frm;omega
 have hcapD:D.length≤cap:=h.capLe
 have H:=Lib.hid h;clear h
 have G':=Lib.hid g;clear g
 have hf':=Lib.hid hf;clear hf
 have hlen:=Lib.hid (fun k=>doT_len k hf'.out ht)
 have hL40:=hok.len
 clear ht
 have hz0:=Lib.hid (doT_zero D L)
 have hz1:=Lib.hid (atT_zero L)
 go_enter Tryz.func150,Tryz.ntmps150
 go_wp2
 go_loopw [5,6,13] (fun v t i wr=>∃ k:Nat,k≤L.length∧i=.int .i64 k∧t=.int .i64 (atT L k)∧OwnS w.heap.size 58 3 RIt wr v (doT D L k)∧Below w.heap.size w wr) (fun _ _ i _=>L.length - (intOf i).toNat)
 case atStart=>exact ⟨0,Nat.zero_le _,rfl,by rw [hz1.out];rfl,by rw [hz0.out];exact OwnS.nil,Below.refl _ _⟩
 case round =>
  obtain ⟨k,hk,rfl,rfl,ho,hb⟩:=hrel
  have ho':=Lib.hid ho;clear ho
  by_cases hlt:k < L.length
  ·obtain ⟨p,hp⟩:∃ x,L[k]?=some x:=⟨_,List.getElem?_eq_getElem hlt⟩
   obtain ⟨b,o,sv,rfl,hits,c0,c1,c2,c3,c4,c5,c6⟩:=ROp.at G'.out hb hp
   obtain ⟨sa,sc,rfl,hsn⟩:=RdS.len hits
   have hfle:=frm_take_le hok.tp hp
   have hbs:b < wr.heap.size:=lt_of_cell c0
   have hI:=Lib.hid hits;clear hits
   have htp:=hok.tp p (List.mem_of_getElem? hp)
   have hlk:=hlen.out k
   have hlk1:=hlen.out (k+1)
   rcases htp with ⟨c,n,hn0,hc,rfl⟩ | ⟨l,hl0,hli,rfl⟩ | ⟨n,hn0,rfl⟩
   ·obtain ⟨m,rfl⟩:∃ m:Nat,n=(m:Int):=⟨n.toNat,by omega⟩
    have hat:atT L k+m≤D.length:=by have:=hf'.out;simp only [keepP] at hfle;unfold atT;omega
    have hnext:=Lib.hid (doT_keep (D:=D) hp)
    simp only [keepP] at c0 c1 c2 c3 c4 c5 c6 hsn
    clear hp hfle hI
    generalize atT L k=t at *
    generalize doT D L k=base at *
    obtain ⟨x0,hx0⟩:∃ x,D[t]?=some x:=⟨_,List.getElem?_eq_getElem (by omega)⟩
    obtain ⟨b2,o2,rfl,_⟩:=RItems.at H.out (Below.refl _ _) hx0
    clear hx0
    have hct:¬ cap=t:=by omega
    go_wp2
    simp only [Nat.add_sub_cancel_left]
    obtain ⟨wo,rfl⟩:∃ wo:World,wo=wr:=⟨_,rfl⟩
    go_loopw [5,29] (fun v j ws=>∃ j':Nat,j'≤m∧j=.int .i64 j'∧OwnS w.heap.size 58 3 RIt ws v (base ++ ((D.drop t).take j').map (markI · c))∧ws.heap[wo.heap.size]?=some (.cells #[.int .i64 1,.int .i64 m,.slice sa 0 sc,.int .i64 c.set,.int .i64 c.clr,.bool c.to,str c.l] 93 (0,0))∧Below w.heap.size w ws) (fun _ j _=>m - (intOf j).toNat)
    case atStart=>exact ⟨0,Nat.zero_le _,rfl,by simpa using ho'.out.below (bal (brf _) _) fun _ _ _ r=>r,heap_new _ _,bal hb _⟩
    case round =>
     obtain ⟨j,hj,rfl,hoi,hbox,hbi⟩:=hrel
     have hoi':=Lib.hid hoi;clear hoi
     have hbox':=Lib.hid hbox;clear hbox
     have hwos:wo.heap.size < wr.heap.size:=lt_of_heap hbox'.out
     obtain ⟨a0,a1,a2,a3,a4,a5,a6⟩:=P7.of hbox'.out
     by_cases hjl:j < m
     ·obtain ⟨x,hx⟩:∃ x,D[t+j]?=some x:=⟨_,List.getElem?_eq_getElem (by omega)⟩
      obtain ⟨b3,o3,e3,x0,x1,x2⟩:=RItems.at H.out hbi hx
      cases e3
      rw [show o2+(t+j) * 3=o2+t * 3+j * 3 by omega] at x0 x1 x2
      have hstep:=Lib.hid (take_map_step (f:=(markI · c)) hx)
      have hll:(base ++ ((D.drop t).take j).map (markI · c)).length≤160:=by simp;omega
      have hb2s:b2 < wr.heap.size:=lt_of_cell x0
      clear hx
      obtain ⟨xc,xm,xl⟩:=x
      go_wp2_with fail
      refine (opMark_keep ⟨xc,xm,xl⟩ c m _ _).mono ?_
      rintro e w1 ⟨rfl,hb1⟩
      generalize markI ⟨xc,xm,xl⟩ c=y at *
      have HB2:Below wr.heap.size wr w1:=(bal (brf wr) _).trans (hb1.mono (by simp))
      have hB1:Below w.heap.size w w1:=btr hbi HB2
      have hbox1:=Lib.hid ((HB2.block _ hwos).trans hbox'.out)
      have hoi1:=Lib.hid (hoi'.out.below HB2 fun _ _ _ r=>r)
      have hw1:wr.heap.size≤w1.heap.size:=HB2.size
      have hw2:w.heap.size≤w1.heap.size:=hB1.size
      clear hb1 a0 a1 a2 a3 a4 a5 a6 x0 x1 x2
      go_wp2_with (at_builtin;refine wpList_app1 rfl (.tmp 33) (.tmp 37) 23 rfl w.heap.size 58 3 32 _ elDoc RIt _ (base ++ ((D.drop t).take j).map (markI · c)) rfl hoi1.out y [.int .u8 y.c.toNat,.int .i64 y.m,str y.l] 58 _ rfl (by simp) rfl (fun _ _=>rfl) RIt_one (by unfold maxLen;omega) (by omega) (by omega) (fun _ _ _ _ _ r=>r) ?_;intro v2 w2 ho2 hb2 hz2 hkeep)
      have hbox2:=Lib.hid ((hkeep _ (by omega) (hoi1.out.ne hbox1.out (by decide))).trans hbox1.out)
      have ho2':=Lib.hid ho2
      clear ho2 hkeep
      go_wp2
      go_roundw
      case rel=>exact ⟨j+1,by omega,by go_num,by rw [hstep.out,← List.append_assoc];exact ho2'.out,hbox2.out,hB1.trans hb2⟩
      case measure=>simp [intOf];omega
     ·obtain rfl:j=m:=by omega
      clear hlk1
      go_wp2
      go_roundw
      case rel=>exact ⟨k+1,by omega,by go_num,by rw [hnext.out.2];go_num,by rw [hnext.out.1];exact hoi'.out,hbi⟩
      case measure=>simp [intOf];omega
   ·have hnext:=Lib.hid (doT_put (D:=D) hp)
    simp only [putP] at c0 c1 c2 c3 c4 c5 c6 hsn hI
    clear hp hfle
    have hbase:=Lib.hid hnext.out.1
    have hlk2:(doT D L k).length+l.length≤80:=by have:=hlk1;rw [hnext.out.1] at this;simpa using this
    clear hlk1
    have htb:atT L k≤80:=by have h1:=frm_take_le' L k;have h2:=hok.frm;unfold atT;omega
    generalize atT L k=t at *
    generalize doT D L k=base at *
    have hoi1:=Lib.hid (ho'.out.below (bal (brf wr) (.cells #[.int .i64 2,.int .i64 0,.slice sa l.length sc,.int .i64 0,.int .i64 0,.bool false,.string ⟨#[]⟩] 93)) fun _ _ _ r=>r)
    have hwb:w.heap.size≤wr.heap.size:=hb.size
    go_wp2_with (at_builtin;refine wpList_app2 rfl (.tmp 42) (.tmp 44) 23 22 58 Tryz.underlying22 rfl w.heap.size 58 3 32 _ elDoc RIt _ base l rfl hoi1.out _ _ rfl (hI.out.to (Kp.below (bal (brf _) _))) RIt_one (by unfold maxLen;omega) (by omega) (by simp;omega) (fun _ _ _ _ _ r=>r) ?_;intro v2 w2 ho2 hgrow hB2;obtain ⟨a0,a1,a2,a3,a4,a5,a6⟩:=P7.of ((hgrow.block wr.heap.size (by simp) (hoi1.out.ne (heap_new _ _) (by decide))).trans (heap_new _ _));have ho2':=Lib.hid ho2;clear ho2 hgrow)
    go_roundw
    case rel=>exact ⟨k+1,by omega,by go_num,by rw [hnext.out.2],by rw [hnext.out.1];exact ho2'.out,(bal hb _).trans hB2⟩
    case measure=>simp [intOf];omega
   ·obtain ⟨m,rfl⟩:∃ m:Nat,n=(m:Int):=⟨n.toNat,by omega⟩
    have hat:atT L k+m≤D.length:=by have:=hf'.out;simp only [cutP] at hfle;unfold atT;omega
    have hnext:=Lib.hid (doT_cut (D:=D) hp)
    simp only [cutP] at c0 c1 c2 c3 c4 c5 c6 hsn
    clear hp hfle hI
    have ho2:=Lib.hid (hnext.out.1 ▸ ho'.out)
    generalize atT L k=t at *
    go_wp2
    go_roundw
    case rel=>exact ⟨k+1,by omega,by go_num,by rw [hnext.out.2];go_num,ho2.out.below (bal (brf _) _) fun _ _ _ r=>r,bal hb _⟩
    case measure=>simp [intOf];omega
  ·obtain rfl:k=L.length:=by omega
   have hfin:Hid (doT D L L.length=doA D (acts L)):=Lib.hid (by unfold doT;rw [List.take_length])
   go_wp2
   go_ret
   exact ⟨_,rfl,by rw [← hfin.out];exact ho'.out.rd,hb⟩
end Go.Proofs.YteikncnldbdfmaaGreatDoor
namespace Go.Proofs.YteikncnldbdfmaaGreatDoor
open Go.RowKit Go.Mh
def Kpt (v:Value) (w w':World):Prop:=∀ k,k < w.heap.size→some k≠v.ownBlock→w'.heap[k]?=w.heap[k]?
theorem Kpt.of {v:Value} {w w5 w':World} (hb:Below w.heap.size w w5) (hk:∀ k,k < w5.heap.size→some k≠v.ownBlock→w'.heap[k]?=w5.heap[k]?):Kpt v w w':=
 fun k hl hn=>(hk k (by have:=hb.size;omega) hn).trans (hb.block k hl)
theorem addP_nil {p:Pt} (h:¬ ((p.k≠2∧p.n=0)∨(p.k=2∧p.its=[]))):addP [] p=[p]:=by simp only [addP,if_neg h];rfl
theorem addP_new {O:List Pt} {p q:Pt} (h:¬ ((p.k≠2∧p.n=0)∨(p.k=2∧p.its=[]))) (hq:O.getLast?=some q) (ha:alikeP q p=false):addP O p=O ++ [p]:=by simp only [addP,if_neg h,hq,ha];simp
theorem addP_old {O:List Pt} {p q:Pt} {j:Nat} (h:¬ ((p.k≠2∧p.n=0)∨(p.k=2∧p.its=[]))) (hj:O.length=j+1) (hq:O[j]?=some q) (ha:alikeP q p=true):addP O p=O.set j { q with n:=q.n+p.n,its:=q.its ++ p.its }:=by
 have hl:O.getLast?=some q:=by rw [List.getLast?_eq_getElem?,hj];exact hq
 simp only [addP,if_neg h,hl,ha,if_true]
 have e:=dropLast_snoc hl
 have hd:O.dropLast.length=j:=by simp [hj]
 conv=>rhs;rw [e,List.set_append_right _ _ (by omega),hd,Nat.sub_self]
 rfl
theorem keep15 {a0 a1 a2 a3 a4 a5 a6 a7 a8 a9 a10 a11 a12 a13:Addr} {v0 v1 v2 v3 v4 v5 v6 v7 v8 v9 v10 v11 v12 v13:Value} {w3 wc w':World} (h:wc.cell? a0=some v0∧wc.cell? a1=some v1∧wc.cell? a2=some v2∧wc.cell? a3=some v3∧wc.cell? a4=some v4∧wc.cell? a5=some v5∧wc.cell? a6=some v6∧wc.cell? a7=some v7∧wc.cell? a8=some v8∧wc.cell? a9=some v9∧wc.cell? a10=some v10∧wc.cell? a11=some v11∧wc.cell? a12=some v12∧wc.cell? a13=some v13∧Below w3.heap.size w3 wc) (hb:Below wc.heap.size wc w'):w'.cell? a0=some v0∧w'.cell? a1=some v1∧w'.cell? a2=some v2∧w'.cell? a3=some v3∧w'.cell? a4=some v4∧w'.cell? a5=some v5∧w'.cell? a6=some v6∧w'.cell? a7=some v7∧w'.cell? a8=some v8∧w'.cell? a9=some v9∧w'.cell? a10=some v10∧w'.cell? a11=some v11∧w'.cell? a12=some v12∧w'.cell? a13=some v13∧Below w3.heap.size w3 w':=
 let ⟨h0,h1,h2,h3,h4,h5,h6,h7,h8,h9,h10,h11,h12,h13,hB⟩:=h
 ⟨(hb.cell (lt_of_cell h0)).trans h0,(hb.cell (lt_of_cell h1)).trans h1,(hb.cell (lt_of_cell h2)).trans h2,(hb.cell (lt_of_cell h3)).trans h3,(hb.cell (lt_of_cell h4)).trans h4,(hb.cell (lt_of_cell h5)).trans h5,(hb.cell (lt_of_cell h6)).trans h6,(hb.cell (lt_of_cell h7)).trans h7,(hb.cell (lt_of_cell h8)).trans h8,(hb.cell (lt_of_cell h9)).trans h9,(hb.cell (lt_of_cell h10)).trans h10,(hb.cell (lt_of_cell h11)).trans h11,(hb.cell (lt_of_cell h12)).trans h12,(hb.cell (lt_of_cell h13)).trans h13,btr hB hb⟩
theorem bel15 {a0 a1 a2 a3 a4 a5 a6 a7 a8 a9 a10 a11 a12 a13:Addr} {v0 v1 v2 v3 v4 v5 v6 v7 v8 v9 v10 v11 v12 v13:Value} {w3 wc:World} (h:wc.cell? a0=some v0∧wc.cell? a1=some v1∧wc.cell? a2=some v2∧wc.cell? a3=some v3∧wc.cell? a4=some v4∧wc.cell? a5=some v5∧wc.cell? a6=some v6∧wc.cell? a7=some v7∧wc.cell? a8=some v8∧wc.cell? a9=some v9∧wc.cell? a10=some v10∧wc.cell? a11=some v11∧wc.cell? a12=some v12∧wc.cell? a13=some v13∧Below w3.heap.size w3 wc):Below w3.heap.size w3 wc:=h.2.2.2.2.2.2.2.2.2.2.2.2.2.2
set_option maxRecDepth 100000 in
set_option maxHeartbeats 1000000 in
theorem add_skip (v:Value) (O:List Pt) (p:Pt) (sv:Value) (w:World) (hv:∃ a c,v=.slice a O.length c) (hsv:∃ a c,sv=.slice a p.its.length c) (h:(p.k≠2∧p.n=0)∨(p.k=2∧p.its=[])) :
  Calls Tryz.prog 239 #[v,pv p sv] w fun e w'=>e=.returned v∧Below w.heap.size w w':=by
 obtain ⟨a,c,rfl⟩:=hv
 obtain ⟨xk,xn,xits,xset,xclr,xto,xl⟩:=p
 obtain ⟨sa,sc,rfl⟩:=hsv
 rcases h with ⟨h1,h2⟩ | ⟨h1,h2⟩
 ·simp only at h1 h2
  subst h2
  have e1:(xk != 2)=true:=by simpa using h1
  clear h1
  go_enter Tryz.func239,Tryz.ntmps239
  go_wp2
  go_ret
  exact ⟨rfl,bal (brf _) _⟩
 ·simp only at h1 h2
  subst h1 h2
  go_enter Tryz.func239,Tryz.ntmps239
  go_wp2
  go_ret
  exact ⟨rfl,bal (brf _) _⟩
set_option maxRecDepth 100000 in
set_option maxHeartbeats 2000000 in
theorem add_first (B:Nat) (v:Value) (p:Pt) (sv:Value) (w:World) (ho:OwnS B 93 7 (RPtI 58) w v []) (F:Nat→Prop) (hits:RItems F w sv p.its) (hB:B≤w.heap.size) (hl:p.its.length≤100000)
  (h:¬ ((p.k≠2∧p.n=0)∨(p.k=2∧p.its=[]))) :
  Calls Tryz.prog 239 #[v,pv p sv] w fun e w'=>∃ u,e=.returned u∧OwnS B 93 7 (RPtI 58) w' u (addP [] p)∧Below B w w'∧Kpt v w w':=by
 rw [addP_nil h]
 obtain ⟨a,c,rfl,_⟩:=RdS.len ho.rd
 obtain ⟨sa,sc,rfl,hsn⟩:=RdS.len hits
 have hI:=Lib.hid hits;clear hits
 have ho':=Lib.hid ho;clear ho
 obtain ⟨xk,xn,xits,xset,xclr,xto,xl⟩:=p
 simp only at hI hsn hl h
 have e0:(xk != 2)=(!(xk == 2)):=rfl
 have hg:(∃ e:Bool,(xk == 2)=e∧(e=false→(xn == 0)=false)∧(e=true→((xits.length:Int) == 0)=false)):=by
  refine ⟨_,rfl,fun e=>?_,fun e=>?_⟩
  ·simp at e;simp;intro e2;exact h (Or.inl ⟨e,e2⟩)
  ·simp at e;simp;intro e2;exact h (Or.inr ⟨e,e2⟩)
 obtain ⟨e,he,h1,h2⟩:=hg
 clear h
 rw [he] at e0
 have hE:(e=false∧(xn == 0)=false)∨(e=true∧((xits.length:Int) == 0)=false):=by
  cases e
  ·exact Or.inl ⟨rfl,h1 rfl⟩
  ·exact Or.inr ⟨rfl,h2 rfl⟩
 clear h1 h2
 rcases hE with ⟨rfl,hz⟩ | ⟨rfl,hz⟩
 all_goals
  go_enter Tryz.func239,Tryz.ntmps239
  go_wp2_with fail
  refine (cloneItems_any F _ xits _ (hI.out.to (Kp.below (bal (brf _) _))) hl).mono ?_
  rintro e w2 ⟨v2,rfl,ho2,hb2⟩
  obtain ⟨a2,c2,rfl,_⟩:=RdS.len ho2.rd
  have HB:Below w.heap.size w w2:=(bal (brf w) _).trans (hb2.mono (by simp))
  have hbx:=(hb2.block w.heap.size (by simp)).trans (heap_new _ _)
  have hcl:Hid (RItems (Ty 58 w2) w2 (.slice a2 xits.length c2) xits):=Lib.hid ho2.rdT
  have hbx':=Lib.hid hbx
  obtain ⟨a0,a1,b2,a3,a4,a5,a6⟩:=P7.of hbx
  have f2:w2.frozen? ⟨w.heap.size,2,none⟩=false:=Lib.frozen_of_heap hbx _
  have hws:w.heap.size < w2.heap.size:=lt_of_heap hbx
  clear ho2 hb2 hbx
  go_wp2_with fail
  refine name_world ?_
  intro w3 hW3
  have HB3:Below w.heap.size w w3:=by rw [← hW3];exact HB.setCell (Nat.le_refl _) _
  have hb3:w3.heap[w.heap.size]?=some (.cells #[.int .i64 xk,.int .i64 xn,.slice a2 xits.length c2,.int .i64 xset,.int .i64 xclr,.bool xto,str xl] 93 (0,0)):=by
   rw [← hW3,heap_setCell_same _ _ _ _ _ _ hbx'.out];rfl
  have hcl3:Hid (RItems (Ty 58 w3) w3 (.slice a2 xits.length c2) xits):=Lib.hid (RItemsT_keep hcl.out fun k hk=>by rw [← hW3];exact heap_setCell_other _ _ _ _ (hk.ne hbx'.out (by decide)))
  have hws3:w.heap.size < w3.heap.size:=lt_of_heap hb3
  clear hW3 hcl hbx' a0 a1 b2 a3 a4 a5 a6 f2 HB
  obtain ⟨a0,a1,b2,a3,a4,a5,a6⟩:=P7.of hb3
  clear hb3
  go_quiet (fail)
  go_wp2_with (at_builtin;refine wpList_appP rfl (.tmp 66) (.tmp 68) 40 rfl B 93 80 58 (by decide) _ elPart _ [] rfl (ho'.out.below (bdrewN HB3 _) fun cs x _ r=>r.below (bdrewN HB3 _)) ⟨xk,xn,xits,xset,xclr,xto,xl⟩ (.slice a2 xits.length c2) _ rfl (by simp) (RItemsT_below hcl3.out (bdrewN (brf _) _)) (by simp [maxLen]) (by simp) (by simp;omega) ?_;intro v4 w4 ho4 hb4 hz4 hk4)
  go_ret
  exact ⟨_,rfl,ho4,((bdrewN HB3 _).mono hB).trans hb4,Kpt.of (bdrewN HB3 _) hk4⟩
set_option maxRecDepth 100000 in
set_option maxHeartbeats 4000000 in
theorem add_more (B:Nat) (v:Value) (O:List Pt) (p:Pt) (sv:Value) (w:World) (ho:OwnS B 93 7 (RPtI 58) w v O) (F:Nat→Prop) (hits:RItems F w sv p.its) (hB:B≤w.heap.size) (hl:p.its.length≤100000)
  (h:¬ ((p.k≠2∧p.n=0)∨(p.k=2∧p.its=[]))) (j:Nat) (hj:O.length=j+1) (hj5:j≤100000) (q:Pt) (hq:O[j]?=some q) (hal:alikeP q p=false) :
  Calls Tryz.prog 239 #[v,pv p sv] w fun e w'=>∃ u,e=.returned u∧OwnS B 93 7 (RPtI 58) w' u (addP O p)∧Below B w w'∧Kpt v w w':=by
 have hres:=Lib.hid (addP_new h (by rw [List.getLast?_eq_getElem?,hj];exact hq) hal)
 have hal':=Lib.hid hal;clear hal
 obtain ⟨g,c,cur,rfl,hgB,hg0⟩:=ho.shape (by intro e;rw [e] at hj;simp at hj)
 obtain ⟨sa,sc,rfl,hsn⟩:=RdS.len hits
 have hgw:g < w.heap.size:=lt_of_heap hg0
 have hI:=Lib.hid hits;clear hits
 have ho':=Lib.hid ho;clear ho
 have hq':=Lib.hid hq;clear hq
 have hjc:j+1≤c:=by have:=ho'.out.rd.capLe;omega
 have hj':=Lib.hid hj
 have hj0:(0:Int)≤(j:Int):=by omega
 have hj1:(j:Int) < (j:Int)+1:=by omega
 have hOl:O.length≤100001:=by omega
 rw [hj]
 clear hj hg0
 obtain ⟨xk,xn,xits,xset,xclr,xto,xl⟩:=p
 obtain ⟨yk,yn,yits,yset,yclr,yto,yl⟩:=q
 simp only at hI hsn hl h
 have e0:(xk != 2)=(!(xk == 2)):=rfl
 have hg:(∃ e:Bool,(xk == 2)=e∧(e=false→(xn == 0)=false)∧(e=true→((xits.length:Int) == 0)=false)):=by
  refine ⟨_,rfl,fun e=>?_,fun e=>?_⟩
  ·simp at e;simp;intro e2;exact h (Or.inl ⟨e,e2⟩)
  ·simp at e;simp;intro e2;exact h (Or.inr ⟨e,e2⟩)
 obtain ⟨e,he,h1,h2⟩:=hg
 clear h
 rw [he] at e0
 have hE:(e=false∧(xn == 0)=false)∨(e=true∧((xits.length:Int) == 0)=false):=by
  cases e
  ·exact Or.inl ⟨rfl,h1 rfl⟩
  ·exact Or.inr ⟨rfl,h2 rfl⟩
 clear h1 h2
 rcases hE with ⟨rfl,hz⟩ | ⟨rfl,hz⟩
 all_goals
  go_enter Tryz.func239,Tryz.ntmps239
  go_wp2_with fail
  refine (cloneItems_any F _ xits _ (hI.out.to (Kp.below (bal (brf _) _))) hl).mono ?_
  rintro e w2 ⟨v2,rfl,ho2,hb2⟩
  obtain ⟨a2,c2,rfl,_⟩:=RdS.len ho2.rd
  have HB:Below w.heap.size w w2:=(bal (brf w) _).trans (hb2.mono (by simp))
  have hbx:=(hb2.block w.heap.size (by simp)).trans (heap_new _ _)
  have hcl:Hid (RItems (Ty 58 w2) w2 (.slice a2 xits.length c2) xits):=Lib.hid ho2.rdT
  have hbx':=Lib.hid hbx
  obtain ⟨a0,a1,b2,a3,a4,a5,a6⟩:=P7.of hbx
  have f2:w2.frozen? ⟨w.heap.size,2,none⟩=false:=Lib.frozen_of_heap hbx _
  have hws:w.heap.size < w2.heap.size:=lt_of_heap hbx
  clear ho2 hb2 hbx
  go_wp2_with fail
  refine name_world ?_
  intro w3 hW3
  have HB3:Below w.heap.size w w3:=by rw [← hW3];exact HB.setCell (Nat.le_refl _) _
  have hb3:w3.heap[w.heap.size]?=some (.cells #[.int .i64 xk,.int .i64 xn,.slice a2 xits.length c2,.int .i64 xset,.int .i64 xclr,.bool xto,str xl] 93 (0,0)):=by
   rw [← hW3,heap_setCell_same _ _ _ _ _ _ hbx'.out];rfl
  have hcl3:Hid (RItems (Ty 58 w3) w3 (.slice a2 xits.length c2) xits):=Lib.hid (RItemsT_keep hcl.out fun k hk=>by rw [← hW3];exact heap_setCell_other _ _ _ _ (hk.ne hbx'.out (by decide)))
  have hws3:w.heap.size < w3.heap.size:=lt_of_heap hb3
  clear hW3 hcl hbx' a0 a1 b2 a3 a4 a5 a6 f2 HB
  obtain ⟨a0,a1,b2,a3,a4,a5,a6⟩:=P7.of hb3
  clear hb3
  have ho3:=Lib.hid (ho'.out.below HB3 fun cs x _ r=>r.below HB3)
  obtain ⟨b,o,qv,e1,hqits,d0,d1,d2,d3,d4,d5,d6⟩:=ROp.at ho3.out.readT (Below.refl _ _) hq'.out
  cases e1
  simp only [Nat.zero_add] at d0 d1 d2 d3 d4 d5 d6
  obtain ⟨ya,yc,rfl,hyn⟩:=RdS.len hqits
  clear hqits
  have Q:w3.cell? ⟨g,j * 7,none⟩=some (.int .i64 yk)∧w3.cell? ⟨g,j * 7+1,none⟩=some (.int .i64 yn)∧w3.cell? ⟨g,j * 7+2,none⟩=some (.slice ya yits.length yc)∧w3.cell? ⟨g,j * 7+3,none⟩=some (.int .i64 yset)∧w3.cell? ⟨g,j * 7+4,none⟩=some (.int .i64 yclr)∧w3.cell? ⟨g,j * 7+5,none⟩=some (.bool yto)∧w3.cell? ⟨g,j * 7+6,none⟩=some (str yl)∧w3.cell? ⟨w.heap.size,0,none⟩=some (.int .i64 xk)∧w3.cell? ⟨w.heap.size,1,none⟩=some (.int .i64 xn)∧w3.cell? ⟨w.heap.size,2,none⟩=some (.slice a2 xits.length c2)∧w3.cell? ⟨w.heap.size,3,none⟩=some (.int .i64 xset)∧w3.cell? ⟨w.heap.size,4,none⟩=some (.int .i64 xclr)∧w3.cell? ⟨w.heap.size,5,none⟩=some (.bool xto)∧w3.cell? ⟨w.heap.size,6,none⟩=some (str xl)∧Below w3.heap.size w3 w3:=⟨d0,d1,d2,d3,d4,d5,d6,a0,a1,b2,a3,a4,a5,a6,brf w3⟩
  clear d0 d1 d2 d3 d4 d5 d6 a0 a1 b2 a3 a4 a5 a6
  go_region_held3 (fun w'=>w'.cell? ⟨g,j * 7,none⟩=some (.int .i64 yk)∧w'.cell? ⟨g,j * 7+1,none⟩=some (.int .i64 yn)∧w'.cell? ⟨g,j * 7+2,none⟩=some (.slice ya yits.length yc)∧w'.cell? ⟨g,j * 7+3,none⟩=some (.int .i64 yset)∧w'.cell? ⟨g,j * 7+4,none⟩=some (.int .i64 yclr)∧w'.cell? ⟨g,j * 7+5,none⟩=some (.bool yto)∧w'.cell? ⟨g,j * 7+6,none⟩=some (str yl)∧w'.cell? ⟨w.heap.size,0,none⟩=some (.int .i64 xk)∧w'.cell? ⟨w.heap.size,1,none⟩=some (.int .i64 xn)∧w'.cell? ⟨w.heap.size,2,none⟩=some (.slice a2 xits.length c2)∧w'.cell? ⟨w.heap.size,3,none⟩=some (.int .i64 xset)∧w'.cell? ⟨w.heap.size,4,none⟩=some (.int .i64 xclr)∧w'.cell? ⟨w.heap.size,5,none⟩=some (.bool xto)∧w'.cell? ⟨w.heap.size,6,none⟩=some (str xl)∧Below w3.heap.size w3 w') (first | exact keep15 (by assumption) (by assumption) | exact keep15 Q (Below.refl _ _).drew)
   (first | (go_at_call 153;refine (alike_any ⟨yk,yn,yits,yset,yclr,yto,yl⟩ ⟨xk,xn,xits,xset,xclr,xto,xl⟩ _ _ _).mono ?_;rintro e w4 ⟨rfl,hb4⟩;rw [hal'.out]))
  go_wp2_with (at_builtin;refine wpList_appP rfl (.tmp 66) (.tmp 68) 40 rfl B 93 80 58 (by decide) _ elPart (.slice (some ⟨g,0,none⟩) (j+1) c) O rfl (by rw [← hj'.out];exact ho3.out.below (bel15 (by assumption)) fun cs x _ r=>r.below (bel15 (by assumption))) ⟨xk,xn,xits,xset,xclr,xto,xl⟩ (.slice a2 xits.length c2) _ rfl (by simp) (RItemsT_below hcl3.out (bel15 (by assumption))) (by unfold maxLen;omega) (by omega) (by have:=(bel15 (by assumption):Below w3.heap.size w3 _).size;omega) ?_;intro v4 w4 ho4 hb4 hz4 hk4)
  go_ret
  exact ⟨_,rfl,by rw [hres.out];exact ho4,((HB3.trans ((bel15 (by assumption)).mono HB3.size)).mono hB).trans hb4,Kpt.of (HB3.trans ((bel15 (by assumption)).mono HB3.size)) hk4⟩
end Go.Proofs.YteikncnldbdfmaaGreatDoor
namespace Go.Proofs.YteikncnldbdfmaaGreatDoor
open Go.RowKit Go.Mh
theorem own_n {B e T:Nat} (hT:T≠e) {w:World} {g n cap:Nat} {O:List Pt} (h:OwnS B e 7 (RPtI T) w (.slice (some ⟨g,0,none⟩) n cap) O) (hg:∃ cur,w.heap[g]?=some (.cells cur e (0,0))) {j:Nat} {q:Pt} (hq:O[j]?=some q) (m:Int) :
  OwnS B e 7 (RPtI T) (w.setCell ⟨g,j * 7+1,none⟩ (.int .i64 m)) (.slice (some ⟨g,0,none⟩) n cap) (O.set j { q with n:=m }):=by
 obtain ⟨cur,hg⟩:=hg
 have hk:∀ k,Ty T w k→(w.setCell ⟨g,j * 7+1,none⟩ (.int .i64 m)).heap[k]?=w.heap[k]?:=fun k hk=>heap_setCell_other _ _ _ _ (hk.ne hg hT)
 refine OwnS.set (j:=1) h hq (by decide) (.int .i64 m) rfl (fun cs y _ r=>r.keep hk) (fun cs hc r=>?_)
 obtain ⟨sv,rfl,hs⟩:=r.keep hk
 exact ⟨sv,rfl,hs⟩
theorem own_its {B e T:Nat} (hT:T≠e) {w:World} {g n cap:Nat} {O:List Pt} (h:OwnS B e 7 (RPtI T) w (.slice (some ⟨g,0,none⟩) n cap) O) (hg:∃ cur,w.heap[g]?=some (.cells cur e (0,0))) {j:Nat} {q:Pt} (hq:O[j]?=some q) {u:Value} {L:List It} (hI:RItems (Ty T w) w u L) (hu:u.oneCell'=true) :
  OwnS B e 7 (RPtI T) (w.setCell ⟨g,j * 7+2,none⟩ u) (.slice (some ⟨g,0,none⟩) n cap) (O.set j { q with its:=L }):=by
 obtain ⟨cur,hg⟩:=hg
 have hk:∀ k,Ty T w k→(w.setCell ⟨g,j * 7+2,none⟩ u).heap[k]?=w.heap[k]?:=fun k hk=>heap_setCell_other _ _ _ _ (hk.ne hg hT)
 refine OwnS.set (j:=2) h hq (by decide) u hu (fun cs y _ r=>r.keep hk) (fun cs hc r=>?_)
 obtain ⟨sv,rfl,hs⟩:=r.keep hk
 exact ⟨u,rfl,RItemsT_keep hI hk⟩
theorem own_drewN {B e T:Nat} {w:World} {v:Value} {O:List Pt} (h:OwnS B e 7 (RPtI T) w v O) (n:Nat):OwnS B e 7 (RPtI T) (w.drewN n) v O:=h.below (bdrewN (Below.refl _ _) n) fun _ _ _ r=>r.below (bdrewN (Below.refl _ _) n)
theorem ritems_nil {F G:Nat→Prop} {w w':World} {v:Value} (h:RItems F w v []):RItems G w' v []:=by
 obtain ⟨a,c,e,h1,h2,h3,_⟩:=h
 exact ⟨a,c,e,h1,h2,h3,fun i x hx=>by simp at hx⟩
theorem own_bump {B e T:Nat} (hT:T≠e) {w:World} {g n cap:Nat} {O:List Pt} (h:OwnS B e 7 (RPtI T) w (.slice (some ⟨g,0,none⟩) n cap) O) (hg:∃ cur,w.heap[g]?=some (.cells cur e (0,0))) {j:Nat} {q:Pt} (hq:O[j]?=some q) (hj:j < O.length) (m:Int) {u:Value} (hI:∀ w':World,RItems (Ty T w') w' u []) (hu:u.oneCell'=true) :
  OwnS B e 7 (RPtI T) ((w.setCell ⟨g,j * 7+1,none⟩ (.int .i64 m)).setCell ⟨g,j * 7+2,none⟩ u).drew.drew (.slice (some ⟨g,0,none⟩) n cap) (O.set j { q with n:=m,its:=[] }):=by
 have h1:=own_n hT h hg hq m
 obtain ⟨cur,hg⟩:=hg
 have h2:=own_its (q:={ q with n:=m }) hT h1 ⟨_,heap_setCell_same _ _ _ _ _ _ hg⟩ (List.getElem?_set_self hj) (hI _) hu
 rw [List.set_set] at h2
 exact own_drewN h2 2
set_option maxRecDepth 100000 in
set_option maxHeartbeats 4000000 in
theorem add_old (B:Nat) (v:Value) (O:List Pt) (p:Pt) (sv:Value) (w:World) (ho:OwnS B 93 7 (RPtI 58) w v O) (F:Nat→Prop) (hits:RItems F w sv p.its) (hB:B≤w.heap.size) (hl:p.its.length≤100000)
  (hk:p.k≠2) (hn:p.n≠0) (hn0:0≤p.n) (hn1:p.n≤1000000) (hpi:p.its=[]) (j:Nat) (hj:O.length=j+1) (hj5:j≤100000) (q:Pt) (hq:O[j]?=some q) (hal:alikeP q p=true) (hqi:q.its=[]) (hm0:0≤q.n) (hm1:q.n≤1000000) :
  Calls Tryz.prog 239 #[v,pv p sv] w fun e w'=>∃ u,e=.returned u∧OwnS B 93 7 (RPtI 58) w' u (addP O p)∧Below B w w'∧Kpt v w w':=by
 have hres:=Lib.hid (addP_old (by simp [hk,hn]) hj hq hal)
 have hal':=Lib.hid hal;clear hal
 obtain ⟨g,c,cur,rfl,hgB,hg0⟩:=ho.shape (by intro e;rw [e] at hj;simp at hj)
 obtain ⟨sa,sc,rfl,hsn⟩:=RdS.len hits
 have hgw:g < w.heap.size:=lt_of_heap hg0
 have hI:=Lib.hid hits;clear hits
 have ho':=Lib.hid ho;clear ho
 have hq':=Lib.hid hq;clear hq
 have hjc:j+1≤c:=by have:=ho'.out.rd.capLe;omega
 have hj':=Lib.hid hj
 have hj0:(0:Int)≤(j:Int):=by omega
 have hj1:(j:Int) < (j:Int)+1:=by omega
 have hOl:O.length≤100001:=by omega
 rw [hj]
 clear hj hg0
 obtain ⟨xk,xn,xits,xset,xclr,xto,xl⟩:=p
 obtain ⟨yk,yn,yits,yset,yclr,yto,yl⟩:=q
 simp only at hI hsn hl hk hn hn0 hn1 hm0 hm1 hpi hqi
 subst hpi hqi
 have e0:(xk != 2)=true:=by simpa using hk
 have e1:(xn == 0)=false:=by simpa using hn
 have e2:(xk == 2)=false:=by simpa using hk
 clear hk hn
 ·skip
  go_enter Tryz.func239,Tryz.ntmps239
  go_wp2_with fail
  refine (cloneItems_any F _ [] _ (hI.out.to (Kp.below (bal (brf _) _))) hl).mono ?_
  rintro e w2 ⟨v2,rfl,ho2,hb2⟩
  obtain ⟨a2,c2,rfl,_⟩:=RdS.len ho2.rd
  have HB:Below w.heap.size w w2:=(bal (brf w) _).trans (hb2.mono (by simp))
  have hbx:=(hb2.block w.heap.size (by simp)).trans (heap_new _ _)
  have hcl:Hid (RItems (Ty 58 w2) w2 (.slice a2 0 c2) []):=Lib.hid ho2.rdT
  have hbx':=Lib.hid hbx
  obtain ⟨a0,a1,b2,a3,a4,a5,a6⟩:=P7.of hbx
  have f2:w2.frozen? ⟨w.heap.size,2,none⟩=false:=Lib.frozen_of_heap hbx _
  have hws:w.heap.size < w2.heap.size:=lt_of_heap hbx
  clear ho2 hb2 hbx
  go_wp2_with fail
  refine name_world ?_
  intro w3 hW3
  have HB3:Below w.heap.size w w3:=by rw [← hW3];exact HB.setCell (Nat.le_refl _) _
  have hb3:w3.heap[w.heap.size]?=some (.cells #[.int .i64 xk,.int .i64 xn,.slice a2 0 c2,.int .i64 xset,.int .i64 xclr,.bool xto,str xl] 93 (0,0)):=by
   rw [← hW3,heap_setCell_same _ _ _ _ _ _ hbx'.out];rfl
  have hcl3:Hid (RItems (Ty 58 w3) w3 (.slice a2 0 c2) []):=Lib.hid (RItemsT_keep hcl.out fun k hk=>by rw [← hW3];exact heap_setCell_other _ _ _ _ (hk.ne hbx'.out (by decide)))
  have hws3:w.heap.size < w3.heap.size:=lt_of_heap hb3
  clear hW3 hcl hbx' a0 a1 b2 a3 a4 a5 a6 f2 HB
  obtain ⟨a0,a1,b2,a3,a4,a5,a6⟩:=P7.of hb3
  clear hb3
  have ho3:=Lib.hid (ho'.out.below HB3 fun cs x _ r=>r.below HB3)
  obtain ⟨b,o,qv,e9,hqits,d0,d1,d2,d3,d4,d5,d6⟩:=ROp.at ho3.out.readT (Below.refl _ _) hq'.out
  cases e9
  simp only [Nat.zero_add] at d0 d1 d2 d3 d4 d5 d6
  obtain ⟨ya,yc,rfl,hyn⟩:=RdS.len hqits
  have hyi:=Lib.hid hqits
  clear hqits
  have Q:w3.cell? ⟨g,j * 7,none⟩=some (.int .i64 yk)∧w3.cell? ⟨g,j * 7+1,none⟩=some (.int .i64 yn)∧w3.cell? ⟨g,j * 7+2,none⟩=some (.slice ya 0 yc)∧w3.cell? ⟨g,j * 7+3,none⟩=some (.int .i64 yset)∧w3.cell? ⟨g,j * 7+4,none⟩=some (.int .i64 yclr)∧w3.cell? ⟨g,j * 7+5,none⟩=some (.bool yto)∧w3.cell? ⟨g,j * 7+6,none⟩=some (str yl)∧w3.cell? ⟨w.heap.size,0,none⟩=some (.int .i64 xk)∧w3.cell? ⟨w.heap.size,1,none⟩=some (.int .i64 xn)∧w3.cell? ⟨w.heap.size,2,none⟩=some (.slice a2 0 c2)∧w3.cell? ⟨w.heap.size,3,none⟩=some (.int .i64 xset)∧w3.cell? ⟨w.heap.size,4,none⟩=some (.int .i64 xclr)∧w3.cell? ⟨w.heap.size,5,none⟩=some (.bool xto)∧w3.cell? ⟨w.heap.size,6,none⟩=some (str xl)∧Below w3.heap.size w3 w3:=⟨d0,d1,d2,d3,d4,d5,d6,a0,a1,b2,a3,a4,a5,a6,brf w3⟩
  clear d0 d1 d2 d3 d4 d5 d6 a0 a1 b2 a3 a4 a5 a6
  go_region_held3 (fun w'=>w'.cell? ⟨g,j * 7,none⟩=some (.int .i64 yk)∧w'.cell? ⟨g,j * 7+1,none⟩=some (.int .i64 yn)∧w'.cell? ⟨g,j * 7+2,none⟩=some (.slice ya 0 yc)∧w'.cell? ⟨g,j * 7+3,none⟩=some (.int .i64 yset)∧w'.cell? ⟨g,j * 7+4,none⟩=some (.int .i64 yclr)∧w'.cell? ⟨g,j * 7+5,none⟩=some (.bool yto)∧w'.cell? ⟨g,j * 7+6,none⟩=some (str yl)∧w'.cell? ⟨w.heap.size,0,none⟩=some (.int .i64 xk)∧w'.cell? ⟨w.heap.size,1,none⟩=some (.int .i64 xn)∧w'.cell? ⟨w.heap.size,2,none⟩=some (.slice a2 0 c2)∧w'.cell? ⟨w.heap.size,3,none⟩=some (.int .i64 xset)∧w'.cell? ⟨w.heap.size,4,none⟩=some (.int .i64 xclr)∧w'.cell? ⟨w.heap.size,5,none⟩=some (.bool xto)∧w'.cell? ⟨w.heap.size,6,none⟩=some (str xl)∧Below w3.heap.size w3 w') (first | exact keep15 (by assumption) (by assumption) | exact keep15 Q (Below.refl _ _).drew)
   (first | (go_at_call 153;refine (alike_any ⟨yk,yn,[],yset,yclr,yto,yl⟩ ⟨xk,xn,[],xset,xclr,xto,xl⟩ _ _ _).mono ?_;rintro e w4 ⟨rfl,hb4⟩;rw [hal'.out]))
  go_wp2_with fail
  refine name_world ?_
  intro w5 hW5
  have Q5:w5.cell? ⟨g,j * 7,none⟩=some (.int .i64 yk)∧w5.cell? ⟨g,j * 7+1,none⟩=some (.int .i64 yn)∧w5.cell? ⟨g,j * 7+2,none⟩=some (.slice ya 0 yc)∧w5.cell? ⟨g,j * 7+3,none⟩=some (.int .i64 yset)∧w5.cell? ⟨g,j * 7+4,none⟩=some (.int .i64 yclr)∧w5.cell? ⟨g,j * 7+5,none⟩=some (.bool yto)∧w5.cell? ⟨g,j * 7+6,none⟩=some (str yl)∧w5.cell? ⟨w.heap.size,0,none⟩=some (.int .i64 xk)∧w5.cell? ⟨w.heap.size,1,none⟩=some (.int .i64 xn)∧w5.cell? ⟨w.heap.size,2,none⟩=some (.slice a2 0 c2)∧w5.cell? ⟨w.heap.size,3,none⟩=some (.int .i64 xset)∧w5.cell? ⟨w.heap.size,4,none⟩=some (.int .i64 xclr)∧w5.cell? ⟨w.heap.size,5,none⟩=some (.bool xto)∧w5.cell? ⟨w.heap.size,6,none⟩=some (str xl)∧Below w3.heap.size w3 w5:=by rw [← hW5];assumption
  clear hW5 Q
  obtain ⟨d0,d1,d2,d3,d4,d5,d6,a0,a1,b2,a3,a4,a5,a6,hB5⟩:=Q5
  have ho5:=Lib.hid (ho3.out.below hB5 fun cs x _ r=>r.below hB5)
  obtain ⟨_,_,cur5,e9,_,hg5⟩:=ho5.out.shape (by intro e;have:=hj'.out;rw [e] at this;simp at this)
  cases e9
  have f1:w5.frozen? ⟨g,j * 7+1,none⟩=false:=Lib.frozen_of_heap hg5 _
  have f2:w5.frozen? ⟨g,j * 7+2,none⟩=false:=Lib.frozen_of_heap hg5 _
  have hg5':=Lib.hid hg5;clear hg5
  have hs1:IntKind.i64.wrap (yn+xn)=yn+xn:=IntWalk.i64_in _ (by omega)
  have hgne:¬ w.heap.size=g:=by omega
  have hgne2:¬ g=w.heap.size:=by omega
  go_region
  go_wp2_with fail
  cases a2 <;> cases ya
  all_goals
   go_region
   go_wp2_with fail
   go_ret
   refine ⟨.slice (some ⟨g,0,none⟩) (j+1) c,rfl, ?_, ?_, ?_⟩
   ·rw [hres.out]
    have ho6:=ho5.out
    rw [hj'.out] at ho6
    exact own_bump (by decide) ho6 ⟨_,hg5'.out⟩ hq'.out (by rw [hj'.out];omega) (yn+xn) (by first | exact fun _=>ritems_nil hyi.out | exact fun _=>RdS.nil) rfl
   ·exact bdrewN ((((HB3.trans (hB5.mono HB3.size)).mono hB).setCell hgB _).setCell hgB _) 2
   ·exact fun k hk hn=>by
     have hkg:k≠g:=fun e=>hn (by rw [e];rfl)
     exact (heap_setCell_other _ _ _ _ hkg).trans ((heap_setCell_other _ _ _ _ hkg).trans ((HB3.trans (hB5.mono HB3.size)).block k hk))
end Go.Proofs.YteikncnldbdfmaaGreatDoor
namespace Go.Proofs.YteikncnldbdfmaaGreatDoor
open Go.RowKit Go.Mh
theorem add_any (B:Nat) (v:Value) (O:List Pt) (p:Pt) (sv:Value) (w:World) (ho:OwnS B 93 7 (RPtI 58) w v O) (F:Nat→Prop) (hits:RItems F w sv p.its) (hB:B≤w.heap.size)
  (hl:p.its.length≤100000) (hO:O.length≤100000) (hn0:0≤p.n) (hn1:p.n≤1000000) (hpi:p.k≠2→p.its=[]) (hq:∀ q,O.getLast?=some q→alikeP q p=true→p.k≠2∧q.its=[]∧0≤q.n∧q.n≤1000000) :
  Calls Tryz.prog 239 #[v,pv p sv] w fun e w'=>∃ u,e=.returned u∧OwnS B 93 7 (RPtI 58) w' u (addP O p)∧Below B w w'∧Kpt v w w':=by
 by_cases h:(p.k≠2∧p.n=0)∨(p.k=2∧p.its=[])
 ·obtain ⟨a,c,e,_⟩:=RdS.len ho.rd
  obtain ⟨a',c',e',_⟩:=RdS.len hits
  refine (add_skip v O p sv w ⟨a,c,e⟩ ⟨a',c',e'⟩ h).mono ?_
  rintro e w' ⟨rfl,hb⟩
  refine ⟨v,rfl, ?_,hb.mono hB,Kpt.of hb fun _ _ _=>rfl⟩
  rw [addP_none O p h]
  exact ho.below hb fun cs x _ r=>r.below hb
 ·rcases Nat.eq_zero_or_pos O.length with h0 | h0
  ·obtain rfl:=List.eq_nil_of_length_eq_zero h0
   exact add_first B v p sv w ho F hits hB hl h
  ·obtain ⟨j,hj⟩:∃ j,O.length=j+1:=⟨O.length - 1,by omega⟩
   obtain ⟨q,hqj⟩:∃ q,O[j]?=some q:=⟨_,List.getElem?_eq_getElem (by omega)⟩
   have hlast:O.getLast?=some q:=by rw [List.getLast?_eq_getElem?,hj];exact hqj
   cases hal:alikeP q p with
   | false=>exact add_more B v O p sv w ho F hits hB hl h j hj (by omega) q hqj hal
   | true =>
    obtain ⟨h1,h2,h3,h4⟩:=hq q hlast hal
    exact add_old B v O p sv w ho F hits hB hl h1 (fun e=>h (Or.inl ⟨h1,e⟩)) hn0 hn1 (hpi h1) j hj (by omega) q hqj hal h2 h3 h4
end Go.Proofs.YteikncnldbdfmaaGreatDoor
namespace Go.Proofs.YteikncnldbdfmaaGreatDoor
open Go.RowKit Go.Mh
theorem made_boxes {wr w2:World} {g g':Nat} {o o':Obj} {r:Option Nat} (h:wr.heap[g]?=some o) (h':wr.heap[g']?=some o') (hg:wr.drew.grownBy w2 r) (h1:some g≠r) (h2:some g'≠r):Hid (w2.heap[g]?=some o)∧Hid (w2.heap[g']?=some o'):=
 ⟨Lib.hid ((hg.block g (lt_of_heap h) h1).trans h),Lib.hid ((hg.block g' (lt_of_heap h') h2).trans h')⟩
theorem made_size {B:Nat} {wr w5:World} (h:B≤wr.heap.size) (hb:Below B wr.drew w5):B≤w5.heap.size:=Nat.le_trans h hb.size
theorem made_cut {v:Value} {wr w5:World} {g:Nat} {o:Obj} (hk:Kpt v wr.drew w5) (h1:g < wr.heap.size) (h2:some g≠v.ownBlock) (h:wr.heap[g]?=some o):Hid (w5.heap[g]?=some o):=Lib.hid ((hk g h1 h2).trans h)
theorem own_far {B e T:Nat} {w:World} {v:Value} {O:List Pt} (h:OwnS B e 7 (RPtI T) w v O) (g:Nat) (hg:w.heap.size≤g):some g≠v.ownBlock:=by
 obtain ⟨css,hrow,_⟩:=h
 intro e
 have:=(hrow.lt g e.symm).2
 omega
theorem made_frozen {w:World} {g:Nat} {cs:Array Value} {T:TypeId} (h:Hid (w.heap[g]?=some (.cells cs T (0,0)))):w.frozen? ⟨g,2,none⟩=false:=Lib.frozen_of_heap h.out _
theorem add_put (B:Nat) (v:Value) (O:List Pt) (its:List It) (s2:Value) (w:World) (ho:OwnS B 93 7 (RPtI 58) w v O) (F:Nat→Prop) (hits:RItems F w s2 its) (hB:B≤w.heap.size)
  (hnum:its.length≤100000∧O.length≤2000) (hq:∀ q,O.getLast?=some q→alikeP q (putP its)=true→(putP its).k≠2∧q.its=[]∧0≤q.n∧q.n≤1000000) :
  Calls Tryz.prog 239 #[v,.agg #[.int .i64 2,.int .i64 0,s2,.int .i64 0,.int .i64 0,.bool false,.string ⟨#[]⟩]] w fun e w'=>∃ u,e=.returned u∧OwnS B 93 7 (RPtI 58) w' u (addP O (putP its))∧Below B w w'∧Kpt v w w':=
 add_any B v O (putP its) s2 w ho F hits hB hnum.1 (by omega) (Int.le_refl _) (by simp [putP]) (fun h=>absurd rfl h) hq
theorem add_cut (B:Nat) (v:Value) (O:List Pt) (its:List It) (n:Int) (w:World) (ho:OwnS B 93 7 (RPtI 58) w v (addP O (putP its))) (hB:B≤w.heap.size)
  (hn:0≤n∧n≤100000∧O.length≤2000) (hq:∀ q,(addP O (putP its)).getLast?=some q→alikeP q (cutP n)=true→(cutP n).k≠2∧q.its=[]∧0≤q.n∧q.n≤1000000) :
  Calls Tryz.prog 239 #[v,.agg #[.int .i64 3,.int .i64 n,.slice none 0 0,.int .i64 0,.int .i64 0,.bool false,.string ⟨#[]⟩]] w fun e w'=>∃ u,e=.returned u∧OwnS B 93 7 (RPtI 58) w' u (addP (addP O (putP its)) (cutP n))∧Below B w w'∧Kpt v w w':=
 add_any B v (addP O (putP its)) (cutP n) (.slice none 0 0) w ho (fun _=>True) RdS.nil hB (by simp [cutP]) (by have:=addP_len O (putP its);omega) hn.1 (by simp only [cutP];omega) (fun _=>rfl) hq
set_option maxRecDepth 100000 in
set_option maxHeartbeats 4000000 in
theorem opMade_any (G:Nat→Prop) (u:Value) (L:List Pt) (w:World) (g:ROp G w u L) (hL:Lok L) :
  Calls Tryz.prog 222 #[u] w fun e w'=>∃ r,e=.returned r∧OwnS w.heap.size 93 7 (RPtI 58) w' r (madeP L)∧Below w.heap.size w w':=by
 obtain ⟨a,cap,rfl,hn⟩:=RdS.len g
 have G':=Lib.hid g;clear g
 have hL':=Lib.hid hL
 have hlen:=hL.len
 clear hL
 go_enter Tryz.func222,Tryz.ntmps222
 go_wp2
 go_loopw [3,4] (fun v i wr=>∃ (k:Nat) (O:List Pt),i=.int .i64 k∧MadeI L O k∧OwnS w.heap.size 93 7 (RPtI 58) wr v O∧Below w.heap.size w wr) (fun _ i _=>L.length - (intOf i).toNat)
 case atStart=>exact ⟨0,[],rfl,made_start L,OwnS.nil,Below.refl _ _⟩
 case round =>
  obtain ⟨k,O,rfl,hm,ho,hb⟩:=hrel
  have ho':=Lib.hid ho;clear ho
  have hk:=hm.le
  have hws:w.heap.size≤wr.heap.size:=hb.size
  by_cases hlt:k < L.length
  ·obtain ⟨p,hp⟩:∃ x,L[k]?=some x:=⟨_,List.getElem?_eq_getElem hlt⟩
   obtain ⟨b,o,sv,rfl,hits,c0,c1,c2,c3,c4,c5,c6⟩:=ROp.at G'.out hb hp
   obtain ⟨sa,sc,rfl,hsn⟩:=RdS.len hits
   have hbs:b < wr.heap.size:=lt_of_cell c0
   have hI:=Lib.hid hits;clear hits
   by_cases hpk:p.k=1
   ·have hnext:=Lib.hid (made_keep hL'.out hm hp hpk)
    have hpi:=Lib.hid ((hL'.out.fm p (List.mem_of_getElem? hp)).its0 (by omega))
    have hq:=Lib.hid (made_keep_q hL'.out hm hpk)
    have hn0:=(hL'.out.fm p (List.mem_of_getElem? hp)).n0
    have hn1:=hL'.out.n p (List.mem_of_getElem? hp)
    have hi1:=hL'.out.its p (List.mem_of_getElem? hp)
    have hOl:=hm.len
    clear hp hm
    have hpk':(p.k == 1)=true:=by simpa using hpk
    clear hpk
    go_wp2_with fail
    refine (add_any w.heap.size _ O p _ _ ho'.out _ hI.out hws (by omega) (by omega) hn0 (by omega) (fun _=>hpi.out) hq.out).mono ?_
    rintro e w1 ⟨v1,rfl,ho1,hb1,_⟩
    have ho1':=Lib.hid ho1
    clear ho1
    go_wp2
    go_roundw
    case rel=>exact ⟨k+1,_,by go_num,hnext.out,ho1'.out,hb.trans hb1⟩
    case measure=>simp [intOf];omega
   ·have hpk':(p.k == 1)=false:=by simpa using hpk
    have hop:=Lib.hid (made_open hm hp hpk)
    clear hm
    go_wp2
    obtain ⟨wo,rfl⟩:∃ wo:World,wo=wr:=⟨_,rfl⟩
    go_loopw [4] (fun j ws=>∃ (j':Nat) (its:List It) (n:Int) (s2:Value),j=.int .i64 j'∧MadeJ L O k j' its n∧ws.heap[wo.heap.size]?=some (.cells #[.int .i64 2,.int .i64 0,s2,.int .i64 0,.int .i64 0,.bool false,.string ⟨#[]⟩] 93 (0,0))∧ws.heap[wo.heap.size+1]?=some (.cells #[.int .i64 3,.int .i64 n,.slice none 0 0,.int .i64 0,.int .i64 0,.bool false,.string ⟨#[]⟩] 93 (0,0))∧OwnS (wo.heap.size+2) 58 3 RIt ws s2 its∧Below wo.heap.size wo ws) (fun j _=>L.length - (intOf j).toNat)
    case atStart=>exact ⟨k,[],0,_,rfl,hop.out,((bal (brf _) _).block _ (by simp)).trans (heap_new _ _),by have:=heap_new (wo.alloc (.cells #[.int .i64 2,.int .i64 0,.slice none 0 0,.int .i64 0,.int .i64 0,.bool false,.string ⟨#[]⟩] 93)) (.cells #[.int .i64 3,.int .i64 0,.slice none 0 0,.int .i64 0,.int .i64 0,.bool false,.string ⟨#[]⟩] 93);simpa using this,OwnS.nil,(bal (brf _) _).alloc (by simp) _⟩
    case round =>
     obtain ⟨j,its,n,s2,rfl,hj,hbox,hcut,hoi,hbi⟩:=hrel
     have hj1:=hj.le
     have hj2:=hj.ij
     have hoi':=Lib.hid hoi;clear hoi
     have hbox':=Lib.hid hbox;clear hbox
     have hcut':=Lib.hid hcut;clear hcut
     obtain ⟨a0,a1,a2,a3,a4,a5,a6⟩:=P7.of hbox'.out
     obtain ⟨d0,d1,d2,d3,d4,d5,d6⟩:=P7.of hcut'.out
     have hws1:wo.heap.size+1 < wr.heap.size:=lt_of_heap hcut'.out
     have hbw:Below w.heap.size w wr:=btr hb hbi
     by_cases hgo:∃ x,L[j]?=some x∧x.k≠1
     ·obtain ⟨x,hx,hxk⟩:=hgo
      have hjl:=(List.getElem?_eq_some_iff.1 hx).1
      obtain ⟨b3,o3,sv,e3,xits,x0,x1,x2,x3,x4,x5,x6⟩:=ROp.at G'.out hbw hx
      cases e3
      obtain ⟨xa,xc,rfl,hxn⟩:=RdS.len xits
      have hxI:=Lib.hid xits;clear xits
      have hnext:=Lib.hid (made_step hL'.out hj hx hxk)
      have hxk':(x.k == 1)=false:=by simpa using hxk
      have hxk2:(x.k != 1)=true:=by simpa using hxk
      have hj0:=Lib.hid (⟨by have h1:=hj.il;have h2:=hL'.out.its x (List.mem_of_getElem? hx);omega,hj.n0,by have h1:=hj.n1;omega,hL'.out.n x (List.mem_of_getElem? hx),(hL'.out.fm x (List.mem_of_getElem? hx)).n0⟩:its.length+x.its.length≤200000∧0≤n∧n≤100000∧x.n≤100∧0≤x.n)
      have hx':=Lib.hid hx
      clear hxk hj hx
      go_wp2
      have hs2:some wo.heap.size≠s2.ownBlock:=hoi'.out.ne hbox'.out (by decide)
      have hs3:some (wo.heap.size+1)≠s2.ownBlock:=hoi'.out.ne hcut'.out (by decide)
      have hil:=hj0.out.1
      have hoi2:Hid (OwnS (wo.heap.size+2) 58 3 RIt wr.drew s2 its):=Lib.hid (hoi'.out.below (Below.refl _ _).drew fun _ _ _ r=>r)
      have hxI2:Hid (RItems G wr.drew (.slice xa x.its.length xc) x.its):=Lib.hid (hxI.out.to (Kp.below (Below.refl _ _).drew))
      go_region_law (refine step_app rfl (.tmp 40) (.tmp 45) 22 rfl (wo.heap.size+2) 58 3 32 _ elItems RIt s2 its x.its (by simp [Act.eval]) hoi2.out _ (.slice xa x.its.length xc) (by simp [Act.eval]) hxI2.out RIt_one (by unfold maxLen;omega) (by omega) (by simp;omega) (fun _ _ _ _ _ r=>r) ?_;intro v2 w2 ho2 hgrow hB2;obtain ⟨ya,yc,rfl,_⟩:=RdS.len ho2.rd;obtain ⟨hbox2,hcut2⟩:=made_boxes hbox'.out hcut'.out hgrow hs2 hs3;have f2:=made_frozen hbox2;obtain ⟨k0,k1,k2,k3,k4,k5,k6⟩:=P7.of hbox2.out)
      all_goals
       go_wp2_with fail
       refine name_world ?_
       intro w3 hW3
       rw [← List.length_append] at hW3
       have hbox3:=Lib.hid (by rw [← hW3];exact heap_setCell_same _ _ 2 _ _ (.slice ya (its ++ x.its).length yc) hbox2.out:w3.heap[wo.heap.size]?=some (.cells #[.int .i64 2,.int .i64 0,.slice ya (its ++ x.its).length yc,.int .i64 0,.int .i64 0,.bool false,.string ⟨#[]⟩] 93 (0,0)))
       have hcut3:=Lib.hid (by rw [← hW3];exact (heap_setCell_other _ _ _ _ (by simp)).trans hcut2.out:w3.heap[wo.heap.size+1]?=some (.cells #[.int .i64 3,.int .i64 n,.slice none 0 0,.int .i64 0,.int .i64 0,.bool false,.string ⟨#[]⟩] 93 (0,0)))
       have ho3:Hid (OwnS (wo.heap.size+2) 58 3 RIt w3 (.slice ya (its ++ x.its).length yc) (its ++ x.its)):=Lib.hid (by rw [← hW3];exact ho2.to (fun g hg _=>heap_setCell_other _ _ _ _ (fun e=>ho2.ne hbox2.out (by decide) (by rw [hg,e]))) fun _ _ _ r=>r)
       have hb3:Below wo.heap.size wo w3:=by rw [← hW3];exact ((hbi.drew).trans (hB2.mono (by omega))).setCell (Nat.le_refl _) _
       clear hW3 k0 k1 k2 k3 k4 k5 k6 a0 a1 a2 a3 a4 a5 a6 d0 d1 d2 d3 d4 d5 d6 x0 x1 x2 x3 x4 x5 x6 f2
       obtain ⟨k0,k1,k2,k3,k4,k5,k6⟩:=P7.of hcut3.out
       obtain ⟨b4,o4,sv4,e4,_,x0,x1,x2,x3,x4,x5,x6⟩:=ROp.at G'.out (btr hb hb3) hx'.out
       cases e4
       have f2:w3.frozen? ⟨wo.heap.size+1,1,none⟩=false:=Lib.frozen_of_heap hcut3.out _
       have hsum:IntKind.i64.wrap (n+x.n)=n+x.n:=IntWalk.i64_in _ (by have:=hj0.out;omega)
       go_region
       go_wp2
       go_roundw
       case rel=>exact ⟨j+1,its ++ x.its,n+x.n,.slice ya (its ++ x.its).length yc,by go_num,hnext.out,(heap_setCell_other _ _ _ _ (by simp)).trans hbox3.out,heap_setCell_same _ _ _ _ _ _ hcut3.out,ho3.out.to (fun g hg _=>heap_setCell_other _ _ _ _ (fun e=>ho3.out.ne hcut3.out (by decide) (by rw [hg,e]))) fun _ _ _ r=>r,(hb3.drew).setCell (Nat.le_succ _) _⟩
       case measure=>simp [intOf];omega
     ·have hex:∀ p,L[j]?=some p→p.k=1:=fun p hp=>Decidable.byContradiction fun h=>hgo ⟨p,hp,h⟩
      have hkj:k < j:=by
       rcases Nat.lt_or_ge k j with h | h
       ·exact h
       ·obtain rfl:j=k:=by omega
        exact absurd (hex p hp) hpk
      have hnext:=Lib.hid (made_shut hj hkj hex)
      have hq1:=Lib.hid (made_put_q hj)
      have hq2:=Lib.hid (made_cut_q hj)
      have hnum:=Lib.hid (⟨by have:=hj.il;omega,hj.n0,by have:=hj.n1;omega,by have:=hj.len;omega⟩:its.length≤100000∧0≤n∧n≤100000∧O.length≤2000)
      have hex':=Lib.hid hex
      clear hex hgo hj
      by_cases hjl:j < L.length
      ·obtain ⟨x,hx⟩:∃ x,L[j]?=some x:=⟨_,List.getElem?_eq_getElem hjl⟩
       obtain ⟨b3,o3,sv,e3,xits,x0,x1,x2,x3,x4,x5,x6⟩:=ROp.at G'.out hbw hx
       cases e3
       have hxk:x.k=1:=hex'.out x hx
       rw [hxk] at x0
       clear hx xits hxk
       go_wp2
       have ho4:Hid (OwnS w.heap.size 93 7 (RPtI 58) wr.drew _ O):=Lib.hid (ho'.out.below hbi.drew fun cs x _ r=>r.below hbi.drew)
       have hits4:Hid (RItems (wo.heap.size+2≤·) wr.drew s2 its):=Lib.hid (RItems.to hoi'.out.rd (Kp.below (Below.refl _ _).drew))
       have hlt4:=own_far ho'.out (wo.heap.size+1) (by omega)
       have hws4:w.heap.size≤wr.heap.size:=hbw.size
       have hj1':IntKind.i64.wrap ((j:Int) - 1)=(j:Int) - 1:=IntWalk.i64_in _ (by omega)
       have C1:=Lib.hid (add_put w.heap.size _ O its s2 wr.drew ho4.out _ hits4.out hws4 ⟨hnum.out.1,hnum.out.2.2.2⟩ hq1.out)
       have C2:=Lib.hid (fun w5 v5 (ho5:OwnS w.heap.size 93 7 (RPtI 58) w5 v5 (addP O (putP its))) hs5=>add_cut w.heap.size v5 O its n w5 ho5 hs5 hnum.out.2 hq2.out)
       go_region_law (first | (go_simp;go_at_call 239;(with_reducible refine C1.out.mono ?_);rintro e w5 ⟨v5,rfl,ho5,hb5,hk5⟩;have ho5':=Lib.hid ho5;have hs5:=made_size hws4 hb5;have hcut5:=made_cut hk5 hws1 hlt4 hcut'.out;obtain ⟨k0,k1,k2,k3,k4,k5,k6⟩:=P7.of hcut5.out) | (go_simp;go_at_call 239;(with_reducible refine (C2.out _ _ ho5'.out hs5).mono ?_);rintro e w6 ⟨v6,rfl,ho6,hb6,_⟩;have ho6':=Lib.hid ho6))
       all_goals
        go_wp2
        go_roundw
        case rel=>exact ⟨_,_,by go_num,hnext.out,ho6'.out,((hb.trans (hbi.mono hws)).drew.trans hb5).trans hb6⟩
        case measure=>simp [intOf];omega
      ·obtain rfl:j=L.length:=by omega
       go_wp2
       have ho4:Hid (OwnS w.heap.size 93 7 (RPtI 58) wr.drew _ O):=Lib.hid (ho'.out.below hbi.drew fun cs x _ r=>r.below hbi.drew)
       have hits4:Hid (RItems (wo.heap.size+2≤·) wr.drew s2 its):=Lib.hid (RItems.to hoi'.out.rd (Kp.below (Below.refl _ _).drew))
       have hlt4:=own_far ho'.out (wo.heap.size+1) (by omega)
       have hws4:w.heap.size≤wr.heap.size:=hbw.size
       have hj1':IntKind.i64.wrap ((L.length:Int) - 1)=(L.length:Int) - 1:=IntWalk.i64_in _ (by omega)
       have C1:=Lib.hid (add_put w.heap.size _ O its s2 wr.drew ho4.out _ hits4.out hws4 ⟨hnum.out.1,hnum.out.2.2.2⟩ hq1.out)
       have C2:=Lib.hid (fun w5 v5 (ho5:OwnS w.heap.size 93 7 (RPtI 58) w5 v5 (addP O (putP its))) hs5=>add_cut w.heap.size v5 O its n w5 ho5 hs5 hnum.out.2 hq2.out)
       go_region_law (first | (go_simp;go_at_call 239;(with_reducible refine C1.out.mono ?_);rintro e w5 ⟨v5,rfl,ho5,hb5,hk5⟩;have ho5':=Lib.hid ho5;have hs5:=made_size hws4 hb5;have hcut5:=made_cut hk5 hws1 hlt4 hcut'.out;obtain ⟨k0,k1,k2,k3,k4,k5,k6⟩:=P7.of hcut5.out) | (go_simp;go_at_call 239;(with_reducible refine (C2.out _ _ ho5'.out hs5).mono ?_);rintro e w6 ⟨v6,rfl,ho6,hb6,_⟩;have ho6':=Lib.hid ho6))
       all_goals
        go_wp2
        go_roundw
        case rel=>exact ⟨_,_,by go_num,hnext.out,ho6'.out,((hb.trans (hbi.mono hws)).drew.trans hb5).trans hb6⟩
        case measure=>simp [intOf];omega
  ·obtain rfl:k=L.length:=by omega
   have hfin:=Lib.hid (made_end hm)
   go_wp2
   go_ret
   exact ⟨_,rfl,by rw [← hfin.out];exact ho'.out,hb⟩
end Go.Proofs.YteikncnldbdfmaaGreatDoor
namespace Go.Proofs.YteikncnldbdfmaaGreatDoor
open Go.RowKit Go.Mh
set_option maxRecDepth 100000 in
set_option maxHeartbeats 2000000 in
theorem part_keep (F:Nat→Prop) (sv:Value) (n:Int) (its:List It) (set clr:Int) (tto:Bool) (l:Bs) (w:World) (h:RItems F w sv its) :
  Calls Tryz.prog 169 #[pv ⟨1,n,its,set,clr,tto,l⟩ sv] w fun e w'=>e=.returned (.int .i64 (chkPt ⟨1,n,its,set,clr,tto,l⟩))∧Below w.heap.size w w':=by
 obtain ⟨a,cap,rfl,hn⟩:=RdS.len h
 have H:=Lib.hid h;clear h
 ·skip
  go_enter Tryz.func169,Tryz.ntmps169
  go_wp2
  go_region
  refine name_world ?_
  intro w3 hW3
  have hB3:Below w.heap.size w w3:=by rw [← hW3];exact (bal (bal (brf _) _) _).drew
  have hq0:P7 w3 w.heap.size (.int .i64 1) (.int .i64 n) (.slice a its.length cap) (.int .i64 set) (.int .i64 clr) (.bool tto) (str l):=by rw [← hW3];refine ⟨?_, ?_, ?_, ?_, ?_, ?_, ?_⟩ <;> simp
  have hq1:P7 w3 (w.heap.size+1) (.int .i64 1) (.int .i64 n) (.slice none 0 0) (.int .i64 set) (.int .i64 clr) (.bool tto) (str l):=by rw [← hW3];refine ⟨?_, ?_, ?_, ?_, ?_, ?_, ?_⟩ <;> simp
  clear hW3
  have hp0:=Lib.hid hq0
  have hp1:=Lib.hid hq1
  obtain ⟨a0,a1,a2,a3,a4,a5,a6⟩:=hq0
  obtain ⟨b0,b1,b2,b3,b4,b5,b6⟩:=hq1
  go_wp2_with (go_at_call 182;refine (may_any _ _).mono ?_;rintro e w1 ⟨rfl,hb⟩;obtain ⟨a0,a1,a2,a3,a4,a5,a6⟩:=hp0.out.below hb;obtain ⟨b0,b1,b2,b3,b4,b5,b6⟩:=hp1.out.below hb)
  all_goals
   go_ret
   go_light
   refine ⟨congrArg (fun n=>Ending.returned (Value.int IntKind.i64 n)) ?_, ?_⟩
   ·rw [chkPt1]
    clear hp0 hp1 H
    clear a0 a1 a2 a3 a4 a5 a6 b0 b1 b2 b3 b4 b5 b6
    first | (simp_all [List.length_pos_iff];done) | (simp_all [List.length_pos_iff];omega) | grind
   ·first | exact hB3 | exact btr hB3 (by assumption)
end Go.Proofs.YteikncnldbdfmaaGreatDoor
namespace Go.Proofs.YteikncnldbdfmaaGreatDoor
open Go.RowKit Go.Mh
set_option maxRecDepth 100000 in
set_option maxHeartbeats 2000000 in
theorem part_cut (F:Nat→Prop) (sv:Value) (n:Int) (its:List It) (set clr:Int) (tto:Bool) (l:Bs) (w:World) (h:RItems F w sv its) :
  Calls Tryz.prog 169 #[pv ⟨3,n,its,set,clr,tto,l⟩ sv] w fun e w'=>e=.returned (.int .i64 (chkPt ⟨3,n,its,set,clr,tto,l⟩))∧Below w.heap.size w w':=by
 obtain ⟨a,cap,rfl,hn⟩:=RdS.len h
 clear h
 go_enter Tryz.func169,Tryz.ntmps169
 go_wp2
 all_goals
  go_ret
  go_light
  refine ⟨congrArg (fun n=>Ending.returned (Value.int IntKind.i64 n)) ?_,bal (bal (brf _) _) _⟩
  rw [chkPt3]
  first | (simp_all [List.length_pos_iff];done) | (simp_all [List.length_pos_iff];omega) | grind
set_option maxRecDepth 100000 in
set_option maxHeartbeats 2000000 in
theorem part_other (F:Nat→Prop) (sv:Value) (k n:Int) (its:List It) (set clr:Int) (tto:Bool) (l:Bs) (w:World) (_h:RItems F w sv its) (h1:¬k=1) (h2:¬k=2) (h3:¬k=3) :
  Calls Tryz.prog 169 #[pv ⟨k,n,its,set,clr,tto,l⟩ sv] w fun e w'=>e=.returned (.int .i64 (chkPt ⟨k,n,its,set,clr,tto,l⟩))∧Below w.heap.size w w':=by
 rw [chkPt4 k n its set clr tto l h1 h2 h3]
 go_enter Tryz.func169,Tryz.ntmps169
 go_wp2
 all_goals go_ret
 all_goals first | exact ⟨rfl,bal (bal (brf _) _) _⟩ | (exfalso;simp_all;done)
set_option maxRecDepth 100000 in
set_option maxHeartbeats 2000000 in
theorem part_put (F:Nat→Prop) (sv:Value) (n:Int) (its:List It) (set clr:Int) (tto:Bool) (l:Bs) (w:World) (h:RItems F w sv its) :
  Calls Tryz.prog 169 #[pv ⟨2,n,its,set,clr,tto,l⟩ sv] w fun e w'=>e=.returned (.int .i64 (chkPt ⟨2,n,its,set,clr,tto,l⟩))∧Below w.heap.size w w':=by
 obtain ⟨a,cap,rfl,hn⟩:=RdS.len h
 have H:=Lib.hid h;clear h
 by_cases hbad:its=[]∨80 < its.length
 ·have hv:chkPt ⟨2,n,its,set,clr,tto,l⟩=2:=by rw [chkPt2,if_pos hbad]
  rw [hv]
  rcases hbad with rfl | h80
  ·go_enter Tryz.func169,Tryz.ntmps169
   go_wp2
   go_ret
   exact ⟨rfl,bal (bal (brf _) _) _⟩
  ·have hz:((its.length:Int) == 0)=false:=by simp;intro e;subst e;simp at h80
   have hz2:decide ((80:Int) < its.length)=true:=by simp;omega
   go_enter Tryz.func169,Tryz.ntmps169
   go_wp2
   go_ret
   exact ⟨rfl,bal (bal (brf _) _) _⟩
 ·have hz:((its.length:Int) == 0)=false:=by simp;intro e;simp [e] at hbad
  have hz2:decide ((80:Int) < its.length)=false:=by simp;omega
  rw [chkPt2,if_neg hbad]
  clear hbad
  go_enter Tryz.func169,Tryz.ntmps169
  go_wp2_with fail
  refine (items_any F _ its _ (H.out.to (Kp.below (bal (bal (brf _) _) _)))).mono ?_
  rintro e w1 ⟨rfl,hb⟩
  have hB1:Below w.heap.size w w1:=(bal (bal (brf _) _) _).trans (hb.mono (by simp;omega))
  obtain ⟨a0,a1,a2,a3,a4,a5,a6⟩:P7 w1 w.heap.size (.int .i64 2) (.int .i64 n) (.slice a its.length cap) (.int .i64 set) (.int .i64 clr) (.bool tto) (str l):=by
   refine ⟨?_, ?_, ?_, ?_, ?_, ?_, ?_⟩ <;> (rw [hb.cell (by first | (simp;done) | (simp;omega))];simp)
  obtain ⟨b0,b1,b2,b3,b4,b5,b6⟩:P7 w1 (w.heap.size+1) (.int .i64 2) (.int .i64 0) (.slice none 0 0) (.int .i64 0) (.int .i64 0) (.bool false) (str []):=by
   refine ⟨?_, ?_, ?_, ?_, ?_, ?_, ?_⟩ <;> (rw [hb.cell (by first | (simp;done) | (simp;omega))];simp)
  clear hb
  go_wp2
  all_goals
   go_ret
   go_light
   refine ⟨congrArg (fun n=>Ending.returned (Value.int IntKind.i64 n)) ?_,hB1⟩
   clear H a0 a1 a2 a3 a4 a5 a6 b0 b1 b2 b3 b4 b5 b6
   first | (simp_all;done) | grind
theorem part_any (F:Nat→Prop) (sv:Value) (p:Pt) (w:World) (h:RItems F w sv p.its) :
  Calls Tryz.prog 169 #[pv p sv] w fun e w'=>e=.returned (.int .i64 (chkPt p))∧Below w.heap.size w w':=by
 obtain ⟨k,n,its,set,clr,tto,l⟩:=p
 by_cases h1:k=1
 ·subst h1;exact part_keep F sv n its set clr tto l w h
 by_cases h2:k=2
 ·subst h2;exact part_put F sv n its set clr tto l w h
 by_cases h3:k=3
 ·subst h3;exact part_cut F sv n its set clr tto l w h
 exact part_other F sv k n its set clr tto l w h h1 h2 h3
end Go.Proofs.YteikncnldbdfmaaGreatDoor
namespace Go.Proofs.YteikncnldbdfmaaGreatDoor
open Go.RowKit Go.Mh
set_option maxRecDepth 100000 in
set_option maxHeartbeats 2000000 in
theorem opCheck_any (F:Nat→Prop) (v:Value) (L:List Pt) (w:World) (h:ROp F w v L) :
  Calls Tryz.prog 114 #[v] w fun e w'=>e=.returned (.int .i64 (chkOp L))∧Below w.heap.size w w':=by
 obtain ⟨a,cap,rfl,hn⟩:=RdS.len h
 have H:=Lib.hid h;clear h
 by_cases hmany:L=[]∨40 < L.length
 ·rw [chkOp_many hmany]
  rcases hmany with rfl | h40
  ·go_enter Tryz.func114,Tryz.ntmps114
   go_wp2
   go_ret
   exact ⟨rfl,brf _⟩
  ·have hz:((L.length:Int) == 0)=false:=by simp;intro e;subst e;simp at h40
   have hz2:decide ((40:Int) < L.length)=true:=by simp;omega
   go_enter Tryz.func114,Tryz.ntmps114
   go_wp2
   go_ret
   exact ⟨rfl,brf _⟩
 ·have hbad:=Lib.hid (fun hb=>chkOp_bad hmany hb)
  have hlast:=Lib.hid (fun p hb hp=>@chkOp_last L p hmany hb hp)
  have hpos:0 < L.length:=by cases L with | nil=>simp at hmany | cons=>simp
  have hz:((L.length:Int) == 0)=false:=by simp;intro e;subst e;simp at hpos
  have hz2:decide ((40:Int) < L.length)=false:=by simp;omega
  clear hmany
  have hpos':=Lib.hid hpos;clear hpos
  go_enter Tryz.func114,Tryz.ntmps114
  go_wp2
  go_loopw [3,17] (fun n i wr=>∃ (k:Nat) (N:Int),k≤L.length∧i=.int .i64 k∧n=.int .i64 N∧0≤N∧N≤80∧Hid (chkPts 0 L=chkPts N (L.drop k))∧Below w.heap.size w wr) (fun _ i _=>L.length - (intOf i).toNat)
  case atStart=>exact ⟨0,0,Nat.zero_le _,rfl,rfl,by omega,by omega,Lib.hid rfl,Below.refl _ _⟩
  case round =>
   obtain ⟨k,N,hk,rfl,rfl,hN0,hN80,hst,hb⟩:=hrel
   by_cases hlt:k < L.length
   ·obtain ⟨x,hx⟩:∃ x,L[k]?=some x:=⟨_,List.getElem?_eq_getElem hlt⟩
    obtain ⟨b,o,sv,rfl,hits,c0,c1,c2,c3,c4,c5,c6⟩:=ROp.at H.out hb hx
    have hx':=Lib.hid (chkPts_step N hx);clear hx
    obtain ⟨sa,sc,rfl,hsn⟩:=RdS.len hits
    have hI:=Lib.hid hits;clear hits
    have hxn:=Lib.hid (@chkPt_n x)
    obtain ⟨xk,xn,xits,xset,xclr,xto,xl⟩:=x
    go_wp2_with fail
    refine (part_any F _ ⟨xk,xn,xits,xset,xclr,xto,xl⟩ _ (hI.out.to (Kp.below (bal (brf _) _)))).mono ?_
    rintro e w1 ⟨rfl,hb1⟩
    have hB1:Below w.heap.size w w1:=(bal hb _).trans (hb1.mono (by have:=hb.size;simp;omega))
    have d1:w1.cell? ⟨wr.heap.size,1,none⟩=some (.int .i64 xn):=by rw [hb1.cell (by simp)];simp
    clear hb1
    by_cases he:chkPt ⟨xk,xn,xits,xset,xclr,xto,xl⟩=0
    ·obtain ⟨hx0,hx80⟩:=hxn.out he
     rw [he]
     simp only [he,ne_eq,not_true_eq_false,if_false] at hx'
     by_cases h80:80 < N+xn
     ·have hfin:=Lib.hid (hbad.out (by rw [hst.out,hx'.out,if_pos h80];decide))
      have hfin2:Hid (chkPts 0 L=2):=Lib.hid (by rw [hst.out,hx'.out,if_pos h80])
      clear he
      go_wp2
      go_ret
      exact ⟨by rw [hfin.out,hfin2.out];rfl,hB1⟩
     ·have hst':Hid (chkPts 0 L=chkPts (N+xn) (L.drop (k+1))):=Lib.hid (by rw [hst.out,hx'.out,if_neg h80])
      clear he
      go_wp2
      go_roundw
      case rel=>exact ⟨k+1,N+xn,by omega,by go_num,rfl,by omega,by omega,hst',hB1⟩
      case measure=>simp [intOf];omega
    ·have hne:(chkPt ⟨xk,xn,xits,xset,xclr,xto,xl⟩ != 0)=true:=by simpa using he
     have hfin2:Hid (chkPts 0 L=chkPt ⟨xk,xn,xits,xset,xclr,xto,xl⟩):=Lib.hid (by rw [hst.out,hx'.out,if_pos he])
     have hfin:=Lib.hid (hbad.out (by rw [hfin2.out];exact he))
     clear he
     go_wp2
     go_ret
     exact ⟨by rw [hfin.out,hfin2.out];rfl,hB1⟩
   ·obtain rfl:k=L.length:=by omega
    have h0:Hid (chkPts 0 L=0):=Lib.hid (by rw [hst.out,List.drop_length];rfl)
    obtain ⟨x,hx⟩:∃ x,L[L.length - 1]?=some x:=⟨_,List.getElem?_eq_getElem (by have:=hpos'.out;omega)⟩
    have hfin:=Lib.hid (hlast.out x h0.out hx)
    obtain ⟨b,o,sv,rfl,hits,c0,c1,c2,c3,c4,c5,c6⟩:=ROp.at H.out hb hx
    obtain ⟨j,hj⟩:∃ j,L.length=j+1:=⟨L.length - 1,by have:=hpos'.out;omega⟩
    obtain ⟨xk,xn,xits,xset,xclr,xto,xl⟩:=x
    have hj1:L.length - 1=j:=by omega
    rw [hj1] at c0
    clear hits c1 c2 c3 c4 c5 c6 hst hlast hbad hpos' hx hj1 h0
    have H2:True:=trivial
    clear H
    generalize L.length=n at *
    subst hj
    by_cases hxk:xk=1
    ·have hb1:(xk != 1)=false:=by simpa using hxk
     simp only [hxk,if_true] at hfin
     clear hxk
     go_wp2
     go_ret
     exact ⟨by rw [hfin.out];rfl,hb⟩
    ·have hb1:(xk != 1)=true:=by simpa using hxk
     simp only [hxk,if_false] at hfin
     clear hxk
     go_wp2
     go_ret
     exact ⟨by rw [hfin.out];rfl,hb⟩
end Go.Proofs.YteikncnldbdfmaaGreatDoor
namespace Go.Proofs.YteikncnldbdfmaaGreatDoor
open Go.RowKit Go.Mh
set_option maxRecDepth 100000 in
set_option maxHeartbeats 2000000 in
theorem opApply_any (F G:Nat→Prop) (v u:Value) (D:List It) (L:List Pt) (w:World) (h:RItems F w v D) (g:ROp G w u L) :
  Calls Tryz.prog 85 #[v,u] w fun e w'=>∃ r,e=.returned (.tuple #[r,.int .i64 (applyP D L).2])∧RItems (w.heap.size≤·) w' r (applyP D L).1∧Below w.heap.size w w':=by
 obtain ⟨a,cap,rfl,hn⟩:=RdS.len h
 obtain ⟨a',cap',rfl,hn'⟩:=RdS.len g
 have H:=Lib.hid h;clear h
 have G':=Lib.hid g;clear g
 have hres:∃ r,Hid (applyP D L=r):=⟨_,Lib.hid rfl⟩
 obtain ⟨res,hres⟩:=hres
 rw [hres.out]
 unfold applyP at hres
 go_enter Tryz.func85,Tryz.ntmps85
 go_wp2_with fail
 refine (check_any F _ D w H.out).mono ?_
 rintro e w1 ⟨rfl,hb1⟩
 by_cases h1:chkDoc D=0
 ·have hres1:=hres.out
  rw [if_neg (by simpa using h1)] at hres1
  have H1:=Lib.hid (H.out.to (Kp.below hb1))
  have G1:=Lib.hid (ROp.to G'.out (Kp.below hb1))
  have hr1:=Lib.hid hres1
  clear hres1 hres
  rw [h1]
  clear h1
  go_wp2_with fail
  refine (opCheck_any G _ L w1 G1.out).mono ?_
  rintro e w2 ⟨rfl,hb2⟩
  by_cases h2:chkOp L=0
  ·have hres2:=hr1.out
   rw [if_neg (by simpa using h2)] at hres2
   have hok:=Lib.hid (chkOp_ok h2)
   have H2:=Lib.hid (H1.out.to (Kp.below hb2))
   have G2:=Lib.hid (ROp.to G1.out (Kp.below hb2))
   have hr2:=Lib.hid hres2
   clear hres2 hr1
   rw [h2]
   clear h2
   go_wp2_with fail
   refine (opLong_any G _ L w2 G2.out).mono ?_
   rintro e w3 ⟨rfl,hb3⟩
   rw [hok.out.longs]
   have hB3:Below w.heap.size w w3:=(hb1.trans (hb2.mono hb1.size)).trans (hb3.mono (Nat.le_trans hb1.size hb2.size))
   by_cases h3:frm (acts L)=D.length
   ·by_cases h4:80 < too (acts L)
    ·have hres3:=hr2.out
     rw [if_neg (by simpa using h3),if_pos h4] at hres3
     subst hres3
     have h3':((frm (acts L):Int) != (D.length:Int))=false:=by simp;omega
     clear h3 hr2
     generalize frm (acts L)=fr at *
     generalize too (acts L)=tt at *
     go_wp2
     go_ret2
     exact ⟨.slice none 0 0,rfl,RdS.nil,hB3⟩
    ·have hres3:=hr2.out
     rw [if_neg (by simpa using h3),if_neg h4] at hres3
     subst hres3
     have H3:=Lib.hid (H2.out.to (Kp.below hb3))
     have G3:=Lib.hid (ROp.to G2.out (Kp.below hb3))
     have C:=Lib.hid (opDo_any F G _ _ D L w3 H3.out G3.out hok.out h3 (by omega))
     have h3':((frm (acts L):Int) != (D.length:Int))=false:=by simp;omega
     clear h3 hr2 hok
     generalize frm (acts L)=fr at *
     generalize too (acts L)=tt at *
     go_wp2_with fail
     refine C.out.mono ?_
     rintro e w4 ⟨r,rfl,hr,hb4⟩
     have hr':=Lib.hid hr
     clear hr
     go_wp2
     go_ret2
     exact ⟨r,rfl,RItems.to (F:=(w3.heap.size≤·)) hr'.out fun k hk _=>⟨Nat.le_trans hB3.size hk,rfl⟩,hB3.trans (hb4.mono hB3.size)⟩
   ·have hres3:=hr2.out
    rw [if_pos (by simpa using h3)] at hres3
    subst hres3
    have h3':((frm (acts L):Int) != (D.length:Int))=true:=by simp;omega
    clear h3 hr2
    generalize frm (acts L)=fr at *
    generalize too (acts L)=tt at *
    go_wp2
    go_ret2
    exact ⟨.slice none 0 0,rfl,RdS.nil,hB3⟩
  ·have hres2:=hr1.out
   rw [if_pos (by simpa using h2)] at hres2
   subst hres2
   have h2':(chkOp L != 0)=true:=by simpa using h2
   clear hr1 h2
   go_wp2
   go_ret2
   exact ⟨.slice none 0 0,rfl,RdS.nil,hb1.trans (hb2.mono hb1.size)⟩
 ·have hres1:=hres.out
  rw [if_pos (by simpa using h1)] at hres1
  subst hres1
  have h1':(chkDoc D != 0)=true:=by simpa using h1
  clear hres h1
  go_wp2
  go_ret2
  exact ⟨.slice none 0 0,rfl,RdS.nil,hb1⟩
end Go.Proofs.YteikncnldbdfmaaGreatDoor
namespace Go.Proofs.YteikncnldbdfmaaGreatDoor
open Go.RowKit Go.Mh
end Go.Proofs.YteikncnldbdfmaaGreatDoor
namespace Go.Proofs.YteikncnldbdfmaaGreatDoor
open Go.RowKit Go.Mh
set_option maxHeartbeats 400000 in
theorem same_any (F G:Nat→Prop) (v u:Value) (L M:List It) (w:World) (h:RItems F w v L) (g:RItems G w u M) :
  Calls Tryz.prog 30 #[v,u] w fun e w'=>e=.returned (.bool (decide (L=M)))∧Below w.heap.size w w':=by
 have heq:=Lib.hid (eqDoc_any F G v u L M w h g)
 clear h g
 go_enter Tryz.func30,Tryz.ntmps30
 go_wp2_with (go_at_call 24;refine heq.out.mono ?_;rintro e w1 ⟨rfl,hb1⟩)
 go_ret
 exact ⟨rfl,hb1⟩
end Go.Proofs.YteikncnldbdfmaaGreatDoor
namespace Go.Mh
open Go.RowKit
theorem ROp.lit {F:Nat→Prop} {w:World} {g n cap:Nat} {L:List Pt} {xs:Array Value} {e:TypeId} {fr:Nat × Nat} (hg:w.heap[g]?=some (.cells xs e fr)) (hn:n=L.length) (hc:n≤cap) (hm:cap≤maxLen) (hF:F g)
  (hx:∀ i x,L[i]?=some x→∃ sv,RItems F w sv x.its∧xs[i * 7]?=some (.int .i64 x.k)∧xs[i * 7+1]?=some (.int .i64 x.n)∧xs[i * 7+2]?=some sv∧xs[i * 7+3]?=some (.int .i64 x.set)∧xs[i * 7+4]?=some (.int .i64 x.clr)∧xs[i * 7+5]?=some (.bool x.to)∧xs[i * 7+6]?=some (str x.l)):ROp F w (.slice (some ⟨g,0,none⟩) n cap) L:=by
 subst hn
 refine ⟨_,cap,rfl,hc,hm,fun h=>by simp at h,fun i x hi=>?_⟩
 obtain ⟨sv,hs,a0,a1,a2,a3,a4,a5,a6⟩:=hx i x hi
 refine ⟨g,0,[.int .i64 x.k,.int .i64 x.n,sv,.int .i64 x.set,.int .i64 x.clr,.bool x.to,str x.l],rfl,hF,rfl,fun j u hj=>?_,sv,rfl,hs⟩
 unfold World.cell?
 rw [hg]
 match j,hj with
 | 0,hj=>simp at hj;subst hj;simpa using a0
 | 1,hj=>simp at hj;subst hj;simpa using a1
 | 2,hj=>simp at hj;subst hj;simpa using a2
 | 3,hj=>simp at hj;subst hj;simpa using a3
 | 4,hj=>simp at hj;subst hj;simpa using a4
 | 5,hj=>simp at hj;subst hj;simpa using a5
 | 6,hj=>simp at hj;subst hj;simpa using a6
end Go.Mh
namespace Go.Proofs.YteikncnldbdfmaaGreatDoor
open Go.RowKit Go.Mh
end Go.Proofs.YteikncnldbdfmaaGreatDoor
namespace Go.Mh
open Go.RowKit
def putsP (c:UInt8) (k n:Int):List Pt:=[⟨1,k,[],0,0,false,[]⟩,⟨2,0,[⟨c,0,[]⟩],0,0,false,[]⟩,⟨1,n - k,[],0,0,false,[]⟩]
structure NoIt (w:World) (g:Nat):Prop where
 i:∀ o m,w.cell? ⟨g,o,none⟩≠some (.int .u8 m)
 p:∀ o m m',w.cell? ⟨g,o,none⟩=some (.int .i64 m)→w.cell? ⟨g,o+1,none⟩≠some (.int .i64 m')
theorem RItems.ne {F:Nat→Prop} {w:World} {v:Value} {L:List It} {g:Nat} (h:RItems F w v L) (hg:NoIt w g):RItems (fun k=>F k∧k≠g) w v L:=by
 obtain ⟨a,cap,e,h1,h2,h3,h4⟩:=h
 refine ⟨a,cap,e,h1,h2,h3,fun i x hx=>?_⟩
 obtain ⟨b,o,cs,e1,hF,hl,hat,hR⟩:=h4 i x hx
 refine ⟨b,o,cs,e1,⟨hF,fun hb=>?_⟩,hl,hat,hR⟩
 subst hb
 have hR':cs=[.int .u8 x.c.toNat,.int .i64 x.m,str x.l]:=hR
 subst hR'
 exact hg.i _ _ (hat 0 _ rfl)
theorem ROp.ne {F:Nat→Prop} {w:World} {v:Value} {L:List Pt} {g:Nat} (h:ROp F w v L) (hg:NoIt w g):ROp (fun k=>F k∧k≠g) w v L:=by
 obtain ⟨a,cap,e,h1,h2,h3,h4⟩:=h
 refine ⟨a,cap,e,h1,h2,h3,fun i x hx=>?_⟩
 obtain ⟨b,o,cs,e1,hF,hl,hat,sv,hR,hI⟩:=h4 i x hx
 refine ⟨b,o,cs,e1,⟨hF,fun hb=>?_⟩,hl,hat,sv,hR,RItems.ne hI hg⟩
 subst hb
 subst hR
 exact hg.p _ _ _ (hat 0 _ rfl) (hat 1 _ rfl)
theorem NoIt.of3 {w:World} {g e:Nat} {fr:Nat × Nat} {a l n:Value} (ha:∃ x y z,a=.slice x y z) (hl:∃ x y z,l=.slice x y z) (hn:∃ x y z,n=.slice x y z) (h:w.heap[g]?=some (.cells #[a,l,n] e fr)):NoIt w g:=by
 obtain ⟨b1,b2,b3,rfl⟩:=ha
 obtain ⟨n1,n2,n3,rfl⟩:=hl
 obtain ⟨s1,s2,s3,rfl⟩:=hn
 constructor
 ·intro o m hc
  unfold World.cell? at hc
  rw [h] at hc
  match o,hc with
  | 0,hc=>simp at hc
  | 1,hc=>simp at hc
  | 2,hc=>simp at hc
  | n+3,hc=>simp at hc
 ·intro o m m' hc hd
  unfold World.cell? at hc hd
  rw [h] at hc hd
  match o,hc,hd with
  | 0,hc,hd=>simp at hd
  | 1,hc,hd=>simp at hc
  | 2,hc,hd=>simp at hc
  | n+3,hc,hd=>simp at hc
theorem REn.ne {F:Nat→Prop} {w:World} {cs:List Value} {x:En} {g:Nat} (h:REn F w cs x) (hg:NoIt w g):REn (fun k=>F k∧k≠g) w cs x:=by
 obtain ⟨ov,e,r⟩:=h
 exact ⟨ov,e,ROp.ne r hg⟩
end Go.Mh
namespace Go.Proofs.YteikncnldbdfmaaGreatDoor
open Go.RowKit Go.Mh
set_option maxRecDepth 100000 in
set_option maxHeartbeats 2000000 in
theorem puts_any (c:UInt8) (k n:Int) (hn:IntKind.i64.wrap (n - k)=n - k) (w:World) :
  Calls Tryz.prog 41 #[.int .u8 c.toNat,.int .i64 k,.int .i64 n] w fun e w'=>∃ r,e=.returned r∧ROp (w.heap.size≤·) w' r (putsP c k n)∧Below w.heap.size w w':=by
 go_enter Tryz.func41,Tryz.ntmps41
 go_wp2
 go_ret
 refine ⟨_,rfl, ?_,(bal (brf w) _).alloc (by simp) _⟩
 have hg:=heap_new (w.alloc (.cells #[.int .u8 c.toNat,.int .i64 0,.string ⟨#[]⟩] 58)) (.cells #[.int .i64 1,.int .i64 k,.slice none 0 0,.int .i64 0,.int .i64 0,.bool false,.string ⟨#[]⟩,.int .i64 2,.int .i64 0,.slice (some ⟨w.heap.size,0,none⟩) 1 1,.int .i64 0,.int .i64 0,.bool false,.string ⟨#[]⟩,.int .i64 1,.int .i64 (n - k),.slice none 0 0,.int .i64 0,.int .i64 0,.bool false,.string ⟨#[]⟩] 93)
 have hz:(w.alloc (.cells #[.int .u8 c.toNat,.int .i64 0,.string ⟨#[]⟩] 58)).heap.size=w.heap.size+1:=by simp
 rw [hz] at hg
 refine ROp.lit hg rfl (by decide) (by decide) (Nat.le_succ _) (fun i x hi=>?_)
 match i,hi with
 | 0,hi=>simp [putsP] at hi;subst hi;exact ⟨_,RdS.nil,rfl,rfl,rfl,rfl,rfl,rfl,rfl⟩
 | 1,hi =>
  simp [putsP] at hi;subst hi
  refine ⟨_, ?_,rfl,rfl,rfl,rfl,rfl,rfl,rfl⟩
  refine RItems.lit (((bal (brf _) _).block _ (by simp)).trans (heap_new w _)) rfl (by decide) (by decide) (Nat.le_refl _) (fun i x hi=>?_)
  match i,hi with
  | 0,hi=>simp at hi;subst hi;exact ⟨rfl,rfl,rfl⟩
  | n+1,hi=>simp at hi
 | 2,hi=>simp [putsP] at hi;subst hi;exact ⟨_,RdS.nil,rfl,rfl,rfl,rfl,rfl,rfl,rfl⟩
 | n+3,hi=>simp [putsP] at hi
end Go.Proofs.YteikncnldbdfmaaGreatDoor
namespace Go.Mh
theorem apply_ok {d:List It} {o:List Pt} (h:(applyP d o).2=0):chkDoc d=0∧chkDoc (applyP d o).1=0:=by
 unfold applyP at h
 split at h
 ·rename_i h1;exact absurd h h1
 ·rename_i h1
  split at h
  ·rename_i h2;exact absurd h h2
  ·rename_i h2
   split at h
   ·exact absurd h (by decide)
   ·rename_i h3
    split at h
    ·exact absurd h (by decide)
    ·rename_i h4
     have ha:Applies d o:=⟨by simpa using h1,by simpa using h2,by simpa using h3,by omega⟩
     rw [ha.eq]
     exact ⟨by simpa using h1,ha.res.1⟩
end Go.Mh
namespace Go.Proofs.YteikncnldbdfmaaGreatDoor
open Go.RowKit Go.Mh
end Go.Proofs.YteikncnldbdfmaaGreatDoor
