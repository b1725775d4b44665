import Derived.Test.YteikncnldbdfmaaGreatDoorMTokB
import Derived.Test.YteikncnldbdfmaaGreatDoorMPl
import Derived.Test.YteikncnldbdfmaaGreatDoorMTok
import Derived.Test.YteikncnldbdfmaaGreatDoorMMem
import Derived.Test.YteikncnldbdfmaaGreatDoorMRegT
namespace Go.Mh
open Go.RowKit
theorem u8le (a b:UInt8):decide (a≤b)=decide ((a.toNat:Int)≤(b.toNat:Int)):=by
 rw [decide_eq_decide,UInt8.le_iff_toNat_le];omega
theorem tok_src {F:Nat→Prop} {w:World} {e:TypeId} {fr:Nat × Nat} {g:Nat} {k:Int} {n t h:Bs} (hb:w.heap[g]?=some (.cells #[.int .i64 k,str n,str t,str h] e fr)) (hF:F g):RdS 4 RTok F w (.slice (some ⟨g,0,none⟩) 1 1) [(⟨k,n,t,h⟩:Tok)]:=by
 refine ⟨_,1,rfl,by simp,by simp [maxLen],fun h=>by simp at h,fun i y hy=>?_⟩
 cases i with
 | succ i=>simp at hy
 | zero =>
  simp at hy
  subst hy
  refine ⟨_,0,[.int .i64 k,str n,str t,str h],rfl,hF,rfl,fun j u hj=>?_,rfl⟩
  unfold World.cell?
  rw [hb]
  match j,hj with
  | 0,hj=>simpa using hj
  | 1,hj=>simpa using hj
  | 2,hj=>simpa using hj
  | 3,hj=>simpa using hj
  | n+4,hj=>simp at hj
theorem own_below {α:Type} {base e sz:Nat} {R:World→List Value→α→Prop} {w w':World} {v:Value} {L:List α} (h:OwnS base e sz R w v L) (hR:∀ cs x,R w cs x→R w' cs x) (hb:Below w.heap.size w w'):OwnS base e sz R w' v L:=
 h.to (fun k _ hl=>hb.block k hl) (fun cs x _ r=>hR cs x r)
end Go.Mh
namespace Go.Proofs.YteikncnldbdfmaaGreatDoor
open Go.RowKit Go.Mh
theorem elToks:El Tryz.prog 108 115 4 56 (.agg #[.int .i64 0,.string ⟨#[]⟩,.string ⟨#[]⟩,.string ⟨#[]⟩]):=⟨Tryz.underlying108,by kernel_rfl,rfl,by decide⟩
abbrev OwnT (B:Nat) (w:World) (v:Value) (L:List Tok):Prop:=OwnS B 115 4 RTok w v L
theorem own_tok {B:Nat} {w w':World} {v:Value} {L:List Tok} (h:OwnT B w v L) (hb:Below w.heap.size w w'):OwnT B w' v L:=own_below h (fun _ _ r=>r) hb
theorem wpList_tok {w:World} {ops:Array Oper} {rest:List Oper} {o:Oper} {a:Act} {Q:Exit→Act→World→Prop} (hg:o.guard=none) (s x:Operand)
  (hop:o.op=Op.call { callee:=Callee.builtin Builtin.append,args:=#[s,x],argTypes:=#[108,108] })
  (B g:Nat) (v:Value) (L:List Tok) (k:Int) (n t h:Bs) (hs:a.eval s=v) (hown:OwnT B w v L) (hx:a.eval x=.slice (some ⟨g,0,none⟩) 1 1) (hb:w.heap[g]?=some (.cells #[.int .i64 k,str n,str t,str h] 115 (0,0)))
  (hL:L.length≤100000) (hB:B≤w.heap.size)
  (hK:∀ la lc w',OwnT B w' (.slice la (L.length+1) lc) (L ++ [⟨k,n,t,h⟩])→Below B w w'→wpList Tryz.prog ops Q rest (a.put o.dst (.slice la (L.length+1) lc)) w'):wpList Tryz.prog ops Q (o :: rest) a w:=by
 refine wpList_app hg s x 108 hop B 115 4 56 _ elToks RTok v L [⟨k,n,t,h⟩] hs hown (fun _=>True) _ hx (tok_src hb trivial) RTok_one (by simp [maxLen];omega) (by simp;omega) hB (fun _ _ _ _ _ r=>r) ?_
 intro v' w' ho _ hbel
 obtain ⟨la,lc,rfl,_⟩:=RdS.len ho.rd
 have hln:(L ++ [(⟨k,n,t,h⟩:Tok)]).length=L.length+1:=by simp
 rw [hln] at ho ⊢
 exact hK la lc w' ho hbel
theorem step_tok {ops:Array Oper} {o:Oper} {a:Act} {w:World} {K:Act→World→Prop} {Q:Exit→Act→World→Prop} {E:Prop} (hg:o.guard=none) (s x:Operand)
  (hop:o.op=Op.call { callee:=Callee.builtin Builtin.append,args:=#[s,x],argTypes:=#[108,108] })
  (B g:Nat) (v:Value) (L:List Tok) (k:Int) (n t h:Bs) (hs:a.eval s=v) (hown:OwnT B w v L) (hx:a.eval x=.slice (some ⟨g,0,none⟩) 1 1) (hb:w.heap[g]?=some (.cells #[.int .i64 k,str n,str t,str h] 115 (0,0)))
  (hL:L.length≤100000) (hB:B≤w.heap.size)
  (hK:∀ la lc w',OwnT B w' (.slice la (L.length+1) lc) (L ++ [⟨k,n,t,h⟩])→Below B w w'→K (a.put o.dst (.slice la (L.length+1) lc)) w') :
  if Region.wanted o (yielded ops a.tmps)=true then Oper.wp Tryz.prog o a w K Q else E:=by
 refine step_app hg s x 108 hop B 115 4 56 _ elToks RTok v L [⟨k,n,t,h⟩] hs hown (fun _=>True) _ hx (tok_src hb trivial) RTok_one (by simp [maxLen];omega) (by simp;omega) hB (fun _ _ _ _ _ r=>r) ?_
 intro v' w' ho _ hbel
 obtain ⟨la,lc,rfl,_⟩:=RdS.len ho.rd
 have hln:(L ++ [(⟨k,n,t,h⟩:Tok)]).length=L.length+1:=by simp
 rw [hln] at ho ⊢
 exact hK la lc w' ho hbel
set_option maxHeartbeats 1000000 in
theorem tokLetter_any (c:UInt8) (w:World) :
  Calls Tryz.prog 122 #[.int .u8 c.toNat] w fun e w'=>e=.returned (.bool (isLt c))∧Below w.heap.size w w':=by
 rw [show isLt c=((decide (97≤(c.toNat:Int)) && decide ((c.toNat:Int)≤122)) || (decide (65≤(c.toNat:Int)) && decide ((c.toNat:Int)≤90))) from by
  unfold isLt;rw [u8le 97 c,u8le c 122,u8le 65 c,u8le c 90];rfl]
 go_enter Tryz.func122,Tryz.ntmps122
 cases h1:decide (97≤(c.toNat:Int)) with
 | true =>
  cases h2:decide ((c.toNat:Int)≤122) with
  | true=>go_wp2;go_ret;exact ⟨by simp,brf _⟩
  | false =>
   cases h3:decide (65≤(c.toNat:Int)) with
   | true=>go_wp2;go_ret;exact ⟨by simp,brf _⟩
   | false=>go_wp2;go_ret;exact ⟨by simp,brf _⟩
 | false =>
  cases h3:decide (65≤(c.toNat:Int)) with
  | true=>go_wp2;go_ret;exact ⟨by simp,brf _⟩
  | false=>go_wp2;go_ret;exact ⟨by simp,brf _⟩
set_option maxRecDepth 100000 in
set_option maxHeartbeats 16000000 in
theorem tokPage_any (F:Nat→Prop) (v:Value) (l:Bs) (w:World) (h:RBytes F w v l) (hm:∃ m,w.cell? ⟨2,0,none⟩=some (.int .i64 m)) :
  Calls Tryz.prog 69 #[v] w fun e w'=>∃ r,e=.returned (.tuple #[r,.int .i64 (pageP l).2])∧RToks (w.heap.size≤·) w' r (pageP l).1∧Below w.heap.size w w':=by
 obtain ⟨va,vc,rfl,hl63⟩:=RdS.len h
 obtain ⟨m,hm⟩:=hm
 have hcv:=run_string_of F w _ l h
 have hM:=Lib.hid hm
 have hcv':=Lib.hid hcv
 clear h hm hcv
 go_enter Tryz.func69,Tryz.ntmps69
 by_cases hlong:20000 < l.length
 ·have hR:=Lib.hid (show pageP l=([],2) from if_pos hlong)
  have d1:decide ((20000:Int) < (l.length:Int))=true:=by simp;omega
  clear hlong
  go_wp2
  go_ret2
  exact ⟨.slice none 0 0,by rw [hR.out];rfl,by rw [hR.out];exact RdS.nil,brf _⟩
 ·have hR:=Lib.hid (show pageP l=(pageT l,0) from if_neg hlong)
  have d1:decide ((20000:Int) < (l.length:Int))=false:=by simp;omega
  have hl20:l.length≤20000:=by omega
  have hcv:=hcv'.out
  clear hlong hl63 hcv'
  go_wp2
  clear hcv d1
  go_loopw [4,5] (fun ov sv wr=>∃ out s oa oc,ov=.slice oa out.length oc∧sv=str s∧out.length+s.length≤l.length∧Hid (pageT l=out ++ pageT s)∧OwnT w.heap.size wr (.slice oa out.length oc) out∧Below w.heap.size w wr) (fun _ sv _=>szOf sv)
  case atStart=>exact ⟨[],l,none,0,rfl,rfl,by simp,Lib.hid rfl,OwnS.nil,brf _⟩
  case round =>
   obtain ⟨out,s,oa,oc,rfl,rfl,hlen,hf,hown,hb⟩:=hrel
   cases s with
   | nil =>
    have hfin:=Lib.hid (show pageT l=out by rw [hf.out];simp [pageT_nil])
    clear hf
    go_wp2
    go_ret2
    exact ⟨.slice oa out.length oc,by rw [hR.out];rfl,by rw [hR.out,hfin.out];exact hown.rd,hb⟩
   | cons c0 s0 =>
    have hs0:(c0 :: s0).length≤maxLen:=by unfold maxLen;omega
    have O1:=Lib.hid hown
    clear hown
    go_wp2_with fail
    refine (tokWordP_any (c0 :: s0) wr hs0).mono ?_
    rintro e w1 ⟨rfl,hb1⟩
    have hB1:=btr hb hb1
    have O1:=Lib.hid (own_tok O1.out hb1)
    obtain ⟨text,ht⟩:∃ text,(c0 :: s0).takeWhile (· != 60)=text:=⟨_,rfl⟩
    obtain ⟨rest,hr⟩:∃ rest,(c0 :: s0).dropWhile (· != 60)=rest:=⟨_,rfl⟩
    have hln:text.length+rest.length=s0.length+1:=by
     rw [← ht,← hr,← List.length_append,List.takeWhile_append_dropWhile];rfl
    have hst:=page_step ht hr
    have hhd:rest=[]∨∃ u,rest=60 :: u:=by
     rcases head_dw (p:=(· != 60)) (c0 :: s0) with h | ⟨c,u,h,hc⟩
     ·left;rw [← hr];exact h
     ·right;refine ⟨u, ?_⟩;rw [← hr,h];simpa using hc
    rw [ht,hr]
    have hf1:=Lib.hid (hf.out.trans (by rw [hst,← List.append_assoc]))
    clear hf hst ht hr hb1 hb
    simp only [List.length_cons] at hlen
    obtain ⟨out1,ho1⟩:∃ o,out ++ (if text=[] then [] else [tText (readE text)])=o:=⟨_,rfl⟩
    have ho1':=Lib.hid ho1
    clear ho1
    go_upto_if 31 with fail
    go_cut [4] (fun t4 wx=>∃ oa oc,t4=.slice oa out1.length oc∧OwnT w.heap.size wx t4 out1∧out1.length+rest.length≤l.length∧Below w.heap.size w wx)
    case first =>
     cases text with
     | nil =>
      have ho2:=ho1'.out
      simp at ho2
      subst ho2
      clear hf1 hhd
      go_wp2_with fail
      go_meet
      exact ⟨_,_,rfl,O1.out,by simp at hln;omega,hB1⟩
     | cons t0 t1 =>
      have htl:(t0 :: t1).length≤maxLen:=by unfold maxLen;simp at hln ⊢;omega
      have ht12:¬ 120000 < (t0 :: t1).length:=by simp at hln ⊢;omega
      have ho2:=ho1'.out
      rw [if_neg (by simp)] at ho2
      have C:=Lib.hid (escRead_any (t0 :: t1) w1 htl)
      rw [show readP (t0 :: t1)=(readE (t0 :: t1),0) from if_neg ht12] at C
      have hol:out.length≤100000:=by omega
      clear hf1 hhd ht12 htl ho1'
      go_wp2_with fail
      refine C.out.mono ?_
      rintro e w2 ⟨rfl,hb2⟩
      have O2:=own_tok O1.out hb2
      have hB2:=btr hB1 hb2
      have hz:=hB2.size
      clear C hb2
      go_wp2_with (at_builtin;refine wpList_tok rfl (.tmp 37) (.tmp 40) rfl w.heap.size _ _ (out) 1 [] (readE (t0 :: t1)) [] rfl (own_tok O2 (bal (brf _) _)) rfl (heap_new _ _) hol (by simp;omega) ?_;intro pa pc wp hop hbp)
      go_wp2_with fail
      go_meet
      subst ho2
      exact ⟨pa,pc,by simp,by simpa [tText] using hop,by simp at hln ⊢;omega,(bal hB2 _).trans hbp⟩
    case rest =>
     obtain ⟨oa1,oc1,rfl,O2,hlen1,hB2⟩:=hcut
     have O2:=Lib.hid O2
     have hf2:=Lib.hid (hf1.out.trans (by rw [ho1'.out]:(out ++ (if text=[] then [] else [tText (readE text)])) ++ markT rest=out1 ++ markT rest))
     have hsz:rest.length≤s0.length+1:=by omega
     clear hf1 ho1' O1 hB1 hlen hln
     rcases hhd with rfl | ⟨u,rfl⟩
     ·have hfin:=Lib.hid (show pageT l=out1 by rw [hf2.out];simp [markT])
      clear hf2
      go_wp2
      go_ret2
      exact ⟨.slice oa1 out1.length oc1,by rw [hR.out];rfl,by rw [hR.out,hfin.out];exact O2.out.rd,hB2⟩
     ·have hol:out1.length≤100000:=by omega
      have hMc:=(hB2.cell (lt_of_cell hM.out)).trans hM.out
      have hrl:(60 :: u).length≤maxLen:=by unfold maxLen;omega
      go_wp2_with fail
      refine (Tryz.strings_HasPrefix ⟨(60 :: u).toArray⟩ ⟨#[60,33,45,45]⟩ wc).mono ?_
      rintro e w3 ⟨rfl,hw3⟩
      subst hw3
      rw [show Lib.hasPrefix (⟨(60 :: u).toArray⟩:ByteArray).data.toList (⟨#[60,33,45,45]⟩:ByteArray).data.toList=sCom.isPrefixOf (60 :: u) from rfl]
      cases hC:sCom.isPrefixOf (60 :: u) with
      | true =>
       have h4:4≤(60 :: u).length:=(List.isPrefixOf_iff_prefix.1 hC).length_le
       have h4i:(4:Int)≤(u.length:Int)+1:=by simp at h4;omega
       obtain ⟨⟨q1,q2,q3⟩,hq⟩:∃ q,Lib.cut (⟨((60 :: u).drop 4).toArray⟩:ByteArray).data.toList (⟨#[45,45,62]⟩:ByteArray).data.toList=q:=⟨_,rfl⟩
       have hq2:cutC (u.drop 3)=q2:=by rw [cutC_eq];exact congrArg (fun q=>q.2.1) hq
       have hql:q2.length≤u.length - 3:=by rw [← hq2];simpa using Suf.len (cutC_suf (u.drop 3))
       have CC:=Lib.hid (Tryz.strings_Cut ⟨((60 :: u).drop 4).toArray⟩ ⟨#[45,45,62]⟩ m w3 (by show ((60 :: u).drop 4).length < 4294967281;simp;simp at hlen1;omega) hMc)
       rw [hq] at CC
       have hmk0:markT (60 :: u)=tOther :: pageT q2:=by simp only [markT];rw [if_pos hC,hq2]
       clear hq hq2 hC hMc
       go_wp2_with fail
       rw [show Value.string ((⟨(60 :: u).toArray⟩:ByteArray).extract 4 (u.length+1))=str ((60 :: u).drop 4) from str_from (60 :: u) 4]
       refine CC.out.mono ?_
       rintro e w4 ⟨rfl,nn,rfl⟩
       clear CC
       have hOL:=Lib.hid (own_tok O2.out (bdrewN (brf _) _):OwnT w.heap.size (w3.drewN nn) (.slice oa1 out1.length oc1) out1)
       have hBL:Below w.heap.size w (w3.drewN nn):=bdrewN hB2 _
       have hz:=hBL.size
       have hmk:=Lib.hid (hmk0:markT _=tOther :: pageT (q2))
       have hls:=Lib.hid (by simp at hsz h4;omega:(q2).length < s0.length+1∧(q2).length < u.length+1)
       go_wp2_with (at_builtin;refine wpList_tok rfl (.tmp 61) (.tmp 63) rfl w.heap.size _ _ out1 4 [] [] [] rfl (own_tok hOL.out (bal (brf (w3.drewN nn)) _)) rfl (heap_new _ _) hol (Nat.le_trans hz (bal (brf _) _).size) ?_;intro pa pc wp hop hbp)
       go_wp2
       go_roundw
       case rel=>exact ⟨out1 ++ [tOther],q2,pa,pc,by simp,rfl,by have:=hls.out.2;simp at hlen1 ⊢;omega,Lib.hid (by rw [hf2.out,hmk.out];simp),by simpa [tText,tOther] using hop,(hBL.trans ((bal (brf (w3.drewN nn)) _).mono hz)).trans hbp⟩
       case measure=>have:=hls.out.1;rw [show szOf (.string ⟨q2.toArray⟩)=q2.length from rfl,szOf_str];simp;omega
      | false =>
       cases u with
       | nil =>
        have hOD:=Lib.hid (O2.out:OwnT w.heap.size w3 (.slice oa1 out1.length oc1) out1)
        have hBD:Below w.heap.size w w3:=hB2
        have h1le:(1:Int)≤(0:Int)+1:=by omega
        clear hMc hC
        go_upto_region 12 with fail
        have hz0:w.heap.size≤w3.heap.size:=hBD.size
        refine wp_region_held (S:=fun _=>True) (by kernel_rfl) ?_
        refine tD 0 45 (v:=?_) trivial ?_ ?_
        rotate_left
        ·(intro w' hw';(try dsimp only at hw');go_simp;try with_reducible rfl)
        simp only [List.set_cons_zero,List.set_cons_succ]
        refine tD 1 46 (v:=?_) trivial ?_ ?_
        rotate_left
        ·(intro w' hw';(try dsimp only at hw');go_simp;try with_reducible rfl)
        simp only [List.set_cons_zero,List.set_cons_succ]
        refine tD 4 49 (v:=?_) trivial ?_ ?_
        rotate_left
        ·(intro w' hw';(try dsimp only at hw');go_simp;try with_reducible rfl)
        simp only [List.set_cons_zero,List.set_cons_succ]
        refine tD 5 50 (v:=?_) trivial ?_ ?_
        rotate_left
        ·(intro w' hw';(try dsimp only at hw');go_simp;try with_reducible rfl)
        simp only [List.set_cons_zero,List.set_cons_succ]
        refine wpAnyH_step 2 rfl (by kernel_rfl) (fun K' hK'=>?_)
        rw [if_pos (by rfl)]
        go_simp
        refine hK'.out _ _ trivial ?_
        clear hK' K'
        refine wpAnyH_step 3 rfl (by kernel_rfl) (fun K' hK'=>?_)
        refine step_tok rfl (.tmp 45) (.tmp 47) rfl w.heap.size _ _ out1 1 [] [60] [] rfl (own_tok hOD.out (bal (brf w3).drew _)) rfl (heap_new _ _) hol (Nat.le_trans hz0 (bal (brf w3).drew _).size) ?_
        intro pa pc wp hop hbp
        refine hK'.out _ _ trivial ?_
        clear hK' K'
        refine tD 6 4 (v:=?_) trivial ?_ ?_
        rotate_left
        ·(intro w' hw';(try dsimp only at hw');go_simp;try with_reducible rfl)
        simp only [List.set_cons_zero,List.set_cons_succ]
        refine tD 7 5 (v:=?_) trivial ?_ ?_
        rotate_left
        ·(intro w' hw';(try dsimp only at hw');go_simp;try with_reducible rfl)
        simp only [List.set_cons_zero,List.set_cons_succ]
        refine wpAnyH_done (by kernel_rfl) ?_ _
        go_wp2
        go_roundw
        case rel=>exact ⟨out1 ++ [tText [60]],[],pa,pc,by simp,str_from (60 :: []) 1,by simp at hlen1 ⊢;omega,Lib.hid (by rw [hf2.out,show markT (60 :: [])=tText [60] :: pageT [] from rfl];simp),by simpa [tText] using hop,(hBD.trans ((bal (brf w3).drew _).mono hz0)).trans hbp⟩
        case measure=>(first | rw [show Value.string ((⟨(60 :: []).toArray⟩:ByteArray).extract 1 _)=str [] from str_from (60 :: []) 1] | show szOf (str []) < _);rw [szOf_str,szOf_str];simp at hsz ⊢ <;> omega
       | cons d v =>
        have hg1:∀ hk,(⟨(60 :: d :: v).toArray⟩:ByteArray)[1]'hk=d:=str_get rfl
        have h1l:(1:Int) < (v.length:Int)+1+1:=by omega
        have hdl:(d :: v).length≤maxLen:=by unfold maxLen;simp at hlen1 ⊢;omega
        have hC':=Lib.hid hC
        clear hC hMc
        by_cases h3:d=33∨d=63
        ·have way:((d.toNat:Int) == 33)=true∨(((d.toNat:Int) == 33)=false∧((d.toNat:Int) == 63)=true):=by
          rcases h3 with h | h
          ·left;subst h;rfl
          ·right;subst h;exact ⟨rfl,rfl⟩
         have hmk0:markT (60 :: d :: v)=tOther :: pageT (cut1 62 (60 :: d :: v)).2.1:=by simp only [markT];rw [if_neg (by rw [hC'.out];simp),if_pos h3]
         have hcl:(cut1 62 (60 :: d :: v)).2.1.length≤v.length+1:=by
          unfold cut1
          split
          ·have:=dw_le (· != 62) (60 :: d :: v)
           simp at this ⊢;omega
          ·simp
         have CC:=Lib.hid (cut1_any (60 :: d :: v) 62 w3 hrl)
         have hmk1:=Lib.hid hmk0
         clear h3 hmk0
         generalize cut1 62 (60 :: d :: v)=q at *
         obtain ⟨q1,q2,q3⟩:=q
         rcases way with k1 | ⟨k1,k2⟩
         all_goals
          go_wp2_with fail
          refine CC.out.mono ?_
          rintro e w4 ⟨rfl,hb4⟩
          clear CC k1
          have hOL:=Lib.hid (own_tok O2.out hb4:OwnT w.heap.size w4 (.slice oa1 out1.length oc1) out1)
          have hBL:Below w.heap.size w w4:=btr hB2 hb4
          have hz:=hBL.size
          have hmk:=Lib.hid (hmk1.out:markT _=tOther :: pageT (q2))
          have hls:=Lib.hid (by simp at hsz hcl;omega:(q2).length < s0.length+1∧(q2).length < v.length+1+1)
          go_wp2_with (at_builtin;refine wpList_tok rfl (.tmp 85) (.tmp 87) rfl w.heap.size _ _ out1 4 [] [] [] rfl (own_tok hOL.out (bal (brf w4) _)) rfl (heap_new _ _) hol (Nat.le_trans hz (bal (brf _) _).size) ?_;intro pa pc wp hop hbp)
          go_wp2
          go_roundw
          case rel=>exact ⟨out1 ++ [tOther],q2,pa,pc,by simp,rfl,by have:=hls.out.2;simp at hlen1 ⊢;omega,Lib.hid (by rw [hf2.out,hmk.out];simp),by simpa [tText,tOther] using hop,(hBL.trans ((bal (brf w4) _).mono hz)).trans hbp⟩
          case measure=>have:=hls.out.1;rw [szOf_str,szOf_str];simp;omega
        ·have k1:((d.toNat:Int) == 33)=false:=by rw [show ((d.toNat:Int) == 33)=(d == 33) from (u8eq d 33).symm];simp;exact fun h=>h3 (Or.inl h)
         have k2:((d.toNat:Int) == 63)=false:=by rw [show ((d.toNat:Int) == 63)=(d == 63) from (u8eq d 63).symm];simp;exact fun h=>h3 (Or.inr h)
         have h3':=Lib.hid h3
         clear h3
         go_wp2_with fail
         refine (tokLetter_any d w3).mono ?_
         rintro e w4 ⟨rfl,hb4⟩
         have hB4:=btr hB2 hb4
         have O4:=Lib.hid (own_tok O2.out hb4)
         clear O2 hb4 hB2
         cases hL:isLt d with
         | true =>
          have k47:((d.toNat:Int) == 47)=false:=by
           rw [show ((d.toNat:Int) == 47)=(d == 47) from (u8eq d 47).symm]
           cases hq:d == 47 with
           | false=>rfl
           | true=>simp at hq;subst hq;exact absurd hL (by decide)
          have h1le:(1:Int)≤(v.length:Int)+1+1:=by omega
          have CT:=Lib.hid (tokTag_any (d :: v) w4 hdl)
          have hmk0:markT (60 :: d :: v)=(match tagT (d :: v) with
            | none=>[]
            | some (name,h,r)=>⟨2,name,[],readE h⟩ :: pageT r):=by simp only [markT];rw [if_neg (by rw [hC'.out];simp),if_neg h3'.out,if_pos hL] <;> rfl
          clear h3' hL
          cases hT:tagT (d :: v) with
          | none =>
           rw [hT] at CT hmk0
           have hfin:=Lib.hid (show pageT l=out1 by rw [hf2.out,hmk0];simp)
           clear hf2 hmk0 hT
           go_wp2_with fail
           rw [show Value.string ((⟨(60 :: d :: v).toArray⟩:ByteArray).extract 1 (v.length+1+1))=str (d :: v) from str_from (60 :: d :: v) 1]
           refine CT.out.mono ?_
           rintro e w5 ⟨rfl,hb5⟩
           unfold tagV
           go_wp2
           go_ret2
           exact ⟨.slice oa1 out1.length oc1,by rw [hR.out];rfl,by rw [hR.out,hfin.out];exact (own_tok O4.out hb5).rd,btr hB4 hb5⟩
          | some x =>
           obtain ⟨nm,hh,r⟩:=x
           rw [hT] at CT hmk0
           have hrs:=(tagT_suf hT).len
           have hhl:=tagT_len hT
           have hhm:hh.length≤maxLen:=Nat.le_trans hhl hdl
           have hh12:¬ 120000 < hh.length:=by simp at hhl hlen1;omega
           have hmk1:=Lib.hid hmk0
           have CR:=Lib.hid (fun w'=>escRead_any hh w' hhm)
           rw [show readP hh=(readE hh,0) from if_neg hh12] at CR
           clear hT hmk0 hhl hhm hh12
           go_wp2_with fail
           rw [show Value.string ((⟨(60 :: d :: v).toArray⟩:ByteArray).extract 1 (v.length+1+1))=str (d :: v) from str_from (60 :: d :: v) 1]
           refine CT.out.mono ?_
           rintro e w5 ⟨rfl,hb5⟩
           unfold tagV
           go_wp2_with fail
           refine (CR.out w5).mono ?_
           rintro e w6 ⟨rfl,hb6⟩
           have hb46:=btr hb5 hb6
           clear CT CR
           have hOL:=Lib.hid (own_tok O4.out hb46:OwnT w.heap.size w6 (.slice oa1 out1.length oc1) out1)
           have hBL:Below w.heap.size w w6:=btr hB4 hb46
           have hz:=hBL.size
           have hmk:=Lib.hid (hmk1.out:markT _=⟨2,nm,[],readE hh⟩ :: pageT (r))
           have hls:=Lib.hid (by simp at hsz hrs;omega:(r).length < s0.length+1∧(r).length < v.length+1+1)
           go_wp2_with (at_builtin;refine wpList_tok rfl (.tmp 133) (.tmp 138) rfl w.heap.size _ _ out1 2 nm [] (readE hh) rfl (own_tok hOL.out (bal (brf w6) _)) rfl (heap_new _ _) hol (Nat.le_trans hz (bal (brf _) _).size) ?_;intro pa pc wp hop hbp)
           go_wp2
           go_roundw
           case rel=>exact ⟨out1 ++ [⟨2,nm,[],readE hh⟩],r,pa,pc,by simp,rfl,by have:=hls.out.2;simp at hlen1 ⊢;omega,Lib.hid (by rw [hf2.out,hmk.out];simp),by simpa [tText,tOther] using hop,(hBL.trans ((bal (brf w6) _).mono hz)).trans hbp⟩
           case measure=>have:=hls.out.1;rw [szOf_str,szOf_str];simp;omega
         | false =>
          cases k47:((d.toNat:Int) == 47) with
          | false =>
           have hd47:¬ d=47:=by
            have:(d == 47)=false:=by rw [u8eq d 47];exact k47
            simpa using this
           have hmk9:=Lib.hid (show markT (60 :: d :: v)=tText [60] :: pageT (d :: v) by simp only [markT];rw [if_neg (by rw [hC'.out];simp),if_neg h3'.out,if_neg (by rw [hL];simp),if_neg (fun h=>hd47 h.1)])
           clear h3' hL hd47
           have hOD:=Lib.hid (O4.out:OwnT w.heap.size w4 (.slice oa1 out1.length oc1) out1)
           have hBD:Below w.heap.size w w4:=hB4
           have h1le:(1:Int)≤((v.length:Int)+1)+1:=by omega
           clear hC'
           go_upto_region 12 with fail
           all_goals
            have hz0:w.heap.size≤w4.heap.size:=hBD.size
            refine wp_region_held (S:=fun _=>True) (by kernel_rfl) ?_
            refine tD 0 45 (v:=?_) trivial ?_ ?_
            rotate_left
            ·(intro w' hw';(try dsimp only at hw');go_simp;try with_reducible rfl)
            simp only [List.set_cons_zero,List.set_cons_succ]
            refine tD 1 46 (v:=?_) trivial ?_ ?_
            rotate_left
            ·(intro w' hw';(try dsimp only at hw');go_simp;try with_reducible rfl)
            simp only [List.set_cons_zero,List.set_cons_succ]
            refine tD 4 49 (v:=?_) trivial ?_ ?_
            rotate_left
            ·(intro w' hw';(try dsimp only at hw');go_simp;try with_reducible rfl)
            simp only [List.set_cons_zero,List.set_cons_succ]
            refine tD 5 50 (v:=?_) trivial ?_ ?_
            rotate_left
            ·(intro w' hw';(try dsimp only at hw');go_simp;try with_reducible rfl)
            simp only [List.set_cons_zero,List.set_cons_succ]
            refine wpAnyH_step 2 rfl (by kernel_rfl) (fun K' hK'=>?_)
            rw [if_pos (by rfl)]
            go_simp
            refine hK'.out _ _ trivial ?_
            clear hK' K'
            refine wpAnyH_step 3 rfl (by kernel_rfl) (fun K' hK'=>?_)
            refine step_tok rfl (.tmp 45) (.tmp 47) rfl w.heap.size _ _ out1 1 [] [60] [] rfl (own_tok hOD.out (bal (brf w4).drew _)) rfl (heap_new _ _) hol (Nat.le_trans hz0 (bal (brf w4).drew _).size) ?_
            intro pa pc wp hop hbp
            refine hK'.out _ _ trivial ?_
            clear hK' K'
            refine tD 6 4 (v:=?_) trivial ?_ ?_
            rotate_left
            ·(intro w' hw';(try dsimp only at hw');go_simp;try with_reducible rfl)
            simp only [List.set_cons_zero,List.set_cons_succ]
            refine tD 7 5 (v:=?_) trivial ?_ ?_
            rotate_left
            ·(intro w' hw';(try dsimp only at hw');go_simp;try with_reducible rfl)
            simp only [List.set_cons_zero,List.set_cons_succ]
            refine wpAnyH_done (by kernel_rfl) ?_ _
            go_wp2
            go_roundw
            case rel=>exact ⟨out1 ++ [tText [60]],(d :: v),pa,pc,by simp,str_from (60 :: (d :: v)) 1,by simp at hlen1 ⊢;omega,Lib.hid (by rw [hf2.out,show markT (60 :: (d :: v))=tText [60] :: pageT (d :: v) from hmk9.out];simp),by simpa [tText] using hop,(hBD.trans ((bal (brf w4).drew _).mono hz0)).trans hbp⟩
            case measure=>(first | rw [show Value.string ((⟨(60 :: (d :: v)).toArray⟩:ByteArray).extract 1 (v.length+1+1))=str (d :: v) from str_from (60 :: (d :: v)) 1] | show szOf (str (d :: v)) < _);rw [szOf_str,szOf_str];simp at hsz ⊢ <;> omega
          | true =>
           have hd47:d=47:=by
            have:(d == 47)=true:=by rw [u8eq d 47];exact k47
            simpa using this
           cases v with
           | nil =>
            have hmk9:=Lib.hid (show markT [60,d]=tText [60] :: pageT [d] by simp only [markT];rw [if_neg (by rw [hC'.out];simp),if_neg h3'.out,if_neg (by rw [hL];simp),if_neg (fun h=>by simp at h)])
            clear h3' hL hd47
            have hOD:=Lib.hid (O4.out:OwnT w.heap.size w4 (.slice oa1 out1.length oc1) out1)
            have hBD:Below w.heap.size w w4:=hB4
            have h1le:(1:Int)≤((0:Int)+1)+1:=by omega
            clear hC'
            go_upto_region 12 with fail
            have hz0:w.heap.size≤w4.heap.size:=hBD.size
            refine wp_region_held (S:=fun _=>True) (by kernel_rfl) ?_
            refine tD 0 45 (v:=?_) trivial ?_ ?_
            rotate_left
            ·(intro w' hw';(try dsimp only at hw');go_simp;try with_reducible rfl)
            simp only [List.set_cons_zero,List.set_cons_succ]
            refine tD 1 46 (v:=?_) trivial ?_ ?_
            rotate_left
            ·(intro w' hw';(try dsimp only at hw');go_simp;try with_reducible rfl)
            simp only [List.set_cons_zero,List.set_cons_succ]
            refine tD 4 49 (v:=?_) trivial ?_ ?_
            rotate_left
            ·(intro w' hw';(try dsimp only at hw');go_simp;try with_reducible rfl)
            simp only [List.set_cons_zero,List.set_cons_succ]
            refine tD 5 50 (v:=?_) trivial ?_ ?_
            rotate_left
            ·(intro w' hw';(try dsimp only at hw');go_simp;try with_reducible rfl)
            simp only [List.set_cons_zero,List.set_cons_succ]
            refine wpAnyH_step 2 rfl (by kernel_rfl) (fun K' hK'=>?_)
            rw [if_pos (by rfl)]
            go_simp
            refine hK'.out _ _ trivial ?_
            clear hK' K'
            refine wpAnyH_step 3 rfl (by kernel_rfl) (fun K' hK'=>?_)
            refine step_tok rfl (.tmp 45) (.tmp 47) rfl w.heap.size _ _ out1 1 [] [60] [] rfl (own_tok hOD.out (bal (brf w4).drew _)) rfl (heap_new _ _) hol (Nat.le_trans hz0 (bal (brf w4).drew _).size) ?_
            intro pa pc wp hop hbp
            refine hK'.out _ _ trivial ?_
            clear hK' K'
            refine tD 6 4 (v:=?_) trivial ?_ ?_
            rotate_left
            ·(intro w' hw';(try dsimp only at hw');go_simp;try with_reducible rfl)
            simp only [List.set_cons_zero,List.set_cons_succ]
            refine tD 7 5 (v:=?_) trivial ?_ ?_
            rotate_left
            ·(intro w' hw';(try dsimp only at hw');go_simp;try with_reducible rfl)
            simp only [List.set_cons_zero,List.set_cons_succ]
            refine wpAnyH_done (by kernel_rfl) ?_ _
            go_wp2
            go_roundw
            case rel=>exact ⟨out1 ++ [tText [60]],[d],pa,pc,by simp,str_from (60 :: [d]) 1,by simp at hlen1 ⊢;omega,Lib.hid (by rw [hf2.out,show markT (60 :: [d])=tText [60] :: pageT [d] from hmk9.out];simp),by simpa [tText] using hop,(hBD.trans ((bal (brf w4).drew _).mono hz0)).trans hbp⟩
            case measure=>(first | rw [show Value.string ((⟨(60 :: [d]).toArray⟩:ByteArray).extract 1 _)=str [d] from str_from (60 :: [d]) 1] | show szOf (str [d]) < _);rw [szOf_str,szOf_str];simp at hsz ⊢ <;> omega
           | cons x v =>
            have hd47':=Lib.hid hd47
            clear hd47
            have hg2:∀ hk,(⟨(60 :: d :: x :: v).toArray⟩:ByteArray)[2]'hk=x:=str_get rfl
            have h2l:(2:Int) < (v.length:Int)+1+1+1:=by omega
            have hxl:(x :: v).length≤maxLen:=by unfold maxLen;simp at hlen1 ⊢;omega
            go_wp2_with fail
            refine (tokLetter_any x w4).mono ?_
            rintro e w7 ⟨rfl,hb7⟩
            have hB7:=btr hB4 hb7
            have O7:=Lib.hid (own_tok O4.out hb7)
            clear O4 hb7 hB4
            cases hX:isLt x with
            | false =>
             have hmk9:=Lib.hid (show markT (60 :: d :: x :: v)=tText [60] :: pageT (d :: x :: v) by simp only [markT];rw [if_neg (by rw [hC'.out];simp),if_neg h3'.out,if_neg (by rw [hL];simp),if_neg (fun h=>by have:=h.2;simp [hX] at this)])
             clear h3' hL hd47' hX
             have hOD:=Lib.hid (O7.out:OwnT w.heap.size w7 (.slice oa1 out1.length oc1) out1)
             have hBD:Below w.heap.size w w7:=hB7
             have h1le:(1:Int)≤((v.length:Int)+1+1)+1:=by omega
             clear hC'
             go_upto_region 12 with fail
             have hz0:w.heap.size≤w7.heap.size:=hBD.size
             refine wp_region_held (S:=fun _=>True) (by kernel_rfl) ?_
             refine tD 0 45 (v:=?_) trivial ?_ ?_
             rotate_left
             ·(intro w' hw';(try dsimp only at hw');go_simp;try with_reducible rfl)
             simp only [List.set_cons_zero,List.set_cons_succ]
             refine tD 1 46 (v:=?_) trivial ?_ ?_
             rotate_left
             ·(intro w' hw';(try dsimp only at hw');go_simp;try with_reducible rfl)
             simp only [List.set_cons_zero,List.set_cons_succ]
             refine tD 4 49 (v:=?_) trivial ?_ ?_
             rotate_left
             ·(intro w' hw';(try dsimp only at hw');go_simp;try with_reducible rfl)
             simp only [List.set_cons_zero,List.set_cons_succ]
             refine tD 5 50 (v:=?_) trivial ?_ ?_
             rotate_left
             ·(intro w' hw';(try dsimp only at hw');go_simp;try with_reducible rfl)
             simp only [List.set_cons_zero,List.set_cons_succ]
             refine wpAnyH_step 2 rfl (by kernel_rfl) (fun K' hK'=>?_)
             rw [if_pos (by rfl)]
             go_simp
             refine hK'.out _ _ trivial ?_
             clear hK' K'
             refine wpAnyH_step 3 rfl (by kernel_rfl) (fun K' hK'=>?_)
             refine step_tok rfl (.tmp 45) (.tmp 47) rfl w.heap.size _ _ out1 1 [] [60] [] rfl (own_tok hOD.out (bal (brf w7).drew _)) rfl (heap_new _ _) hol (Nat.le_trans hz0 (bal (brf w7).drew _).size) ?_
             intro pa pc wp hop hbp
             refine hK'.out _ _ trivial ?_
             clear hK' K'
             refine tD 6 4 (v:=?_) trivial ?_ ?_
             rotate_left
             ·(intro w' hw';(try dsimp only at hw');go_simp;try with_reducible rfl)
             simp only [List.set_cons_zero,List.set_cons_succ]
             refine tD 7 5 (v:=?_) trivial ?_ ?_
             rotate_left
             ·(intro w' hw';(try dsimp only at hw');go_simp;try with_reducible rfl)
             simp only [List.set_cons_zero,List.set_cons_succ]
             refine wpAnyH_done (by kernel_rfl) ?_ _
             go_wp2
             go_roundw
             case rel=>exact ⟨out1 ++ [tText [60]],(d :: x :: v),pa,pc,by simp,str_from (60 :: (d :: x :: v)) 1,by simp at hlen1 ⊢;omega,Lib.hid (by rw [hf2.out,show markT (60 :: (d :: x :: v))=tText [60] :: pageT (d :: x :: v) from hmk9.out];simp),by simpa [tText] using hop,(hBD.trans ((bal (brf w7).drew _).mono hz0)).trans hbp⟩
             case measure=>(first | rw [show Value.string ((⟨(60 :: (d :: x :: v)).toArray⟩:ByteArray).extract 1 (v.length+1+1+1))=str (d :: x :: v) from str_from (60 :: (d :: x :: v)) 1] | show szOf (str (d :: x :: v)) < _);rw [szOf_str,szOf_str];simp at hsz ⊢ <;> omega
            | true =>
             have h2le:(2:Int)≤(v.length:Int)+1+1+1:=by omega
             have CT:=Lib.hid (tokTag_any (x :: v) w7 hxl)
             have hmk0:markT (60 :: d :: x :: v)=(match tagT (x :: v) with
               | none=>[]
               | some (name,_,r)=>⟨3,name,[],[]⟩ :: pageT r):=by simp only [markT];rw [if_neg (by rw [hC'.out];simp),if_neg h3'.out,if_neg (by rw [hL];simp),if_pos ⟨hd47'.out,by simp [hX]⟩] <;> rfl
             clear h3' hL hd47' hX
             cases hT:tagT (x :: v) with
             | none =>
              rw [hT] at CT hmk0
              have hfin:=Lib.hid (show pageT l=out1 by rw [hf2.out,hmk0];simp)
              clear hf2 hmk0 hT
              go_wp2_with fail
              rw [show Value.string ((⟨(60 :: d :: x :: v).toArray⟩:ByteArray).extract 2 (v.length+1+1+1))=str (x :: v) from str_from (60 :: d :: x :: v) 2]
              refine CT.out.mono ?_
              rintro e w5 ⟨rfl,hb5⟩
              unfold tagV
              go_wp2
              go_ret2
              exact ⟨.slice oa1 out1.length oc1,by rw [hR.out];rfl,by rw [hR.out,hfin.out];exact (own_tok O7.out hb5).rd,btr hB7 hb5⟩
             | some y =>
              obtain ⟨nm,hh,r⟩:=y
              rw [hT] at CT hmk0
              have hrs:=(tagT_suf hT).len
              have hmk1:=Lib.hid hmk0
              have CR:=Lib.hid (fun w'=>escRead_any [] w' (by simp))
              rw [show readP []=([],0) from rfl] at CR
              clear hT hmk0
              go_wp2_with fail
              rw [show Value.string ((⟨(60 :: d :: x :: v).toArray⟩:ByteArray).extract 2 (v.length+1+1+1))=str (x :: v) from str_from (60 :: d :: x :: v) 2]
              refine CT.out.mono ?_
              rintro e w5 ⟨rfl,hb5⟩
              unfold tagV
              go_wp2_with fail
              refine (CR.out w5).mono ?_
              rintro e w6 ⟨rfl,hb6⟩
              have hb46:=btr hb5 hb6
              clear CT CR
              have hOL:=Lib.hid (own_tok O7.out hb46:OwnT w.heap.size w6 (.slice oa1 out1.length oc1) out1)
              have hBL:Below w.heap.size w w6:=btr hB7 hb46
              have hz:=hBL.size
              have hmk:=Lib.hid (hmk1.out:markT _=⟨3,nm,[],[]⟩ :: pageT (r))
              have hls:=Lib.hid (by simp at hsz hrs;omega:(r).length < s0.length+1∧(r).length < v.length+1+1+1)
              go_wp2_with (at_builtin;refine wpList_tok rfl (.tmp 133) (.tmp 138) rfl w.heap.size _ _ out1 3 nm [] [] rfl (own_tok hOL.out (bal (brf w6) _)) rfl (heap_new _ _) hol (Nat.le_trans hz (bal (brf _) _).size) ?_;intro pa pc wp hop hbp)
              go_wp2
              go_roundw
              case rel=>exact ⟨out1 ++ [⟨3,nm,[],[]⟩],r,pa,pc,by simp,rfl,by have:=hls.out.2;simp at hlen1 ⊢;omega,Lib.hid (by rw [hf2.out,hmk.out];simp),by simpa [tText,tOther] using hop,(hBL.trans ((bal (brf w6) _).mono hz)).trans hbp⟩
              case measure=>have:=hls.out.1;rw [szOf_str,szOf_str];simp;omega
end Go.Proofs.YteikncnldbdfmaaGreatDoor
