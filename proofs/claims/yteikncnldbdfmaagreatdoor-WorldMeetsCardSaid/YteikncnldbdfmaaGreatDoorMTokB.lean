import Derived.Test.YteikncnldbdfmaaGreatDoorMTok
import Derived.Deep.RegionWith
import Derived.Deep.DeepCutAuto
import Derived.Deep.CutBlock
import Derived.Test.YteikncnldbdfmaaGreatDoorMRegT
namespace Go.Mh
open Go.RowKit
theorem str_one (c:UInt8) (s:Bs):Value.string ((⟨(c :: s).toArray⟩:ByteArray).extract 0 1)=.string ⟨#[c]⟩:=str_upto (c :: s) 1
theorem str_cat (a b:Bs):Value.string ((⟨a.toArray⟩:ByteArray) ++ ⟨b.toArray⟩)=str (a ++ b):=by
 unfold str
 congr 1
theorem suf_blanks (s:Bs):Suf (blanks s) s:=suf_dw isSp s
def tagV:Option (Bs × Bs × Bs)→Value
 | none=>.tuple #[str [],str [],str [],.bool false]
 | some (n,h,r)=>.tuple #[str n,str h,str r,.bool true]
end Go.Mh
namespace Go.Proofs.YteikncnldbdfmaaGreatDoor
open Go.RowKit Go.Mh
set_option maxHeartbeats 400000 in
theorem tokLower_any (l:Bs) (w:World) (hs:l.length≤maxLen) :
  Calls Tryz.prog 177 #[str l] w fun e w'=>e=.returned (str (lower l))∧Below w.heap.size w w':=by
 unfold maxLen at hs
 go_enter Tryz.func177,Tryz.ntmps177
 go_wp2_with (refine wpList_bytes_of_string _ rfl 9 41 (.tmp 6) rfl 5 Tryz.underlying9 Tryz.underlying41 Tryz.underlying5 l rfl ?_;intro w1 cap hc hf hz hb)
 go_loopw [4,5,10] (fun _ _ i wr=>∃ k:Nat,k≤l.length∧i=.int .i64 k∧(∀ j c,l[j]?=some c→wr.cell? ⟨w.heap.size,j,none⟩=some (.int .u8 ((if j < k then lowB c else c).toNat:Int)))∧(∀ j,j < l.length→wr.frozen? ⟨w.heap.size,j,none⟩=false)∧Below w.heap.size w wr) (fun _ _ i _=>l.length - (intOf i).toNat)
 case atStart=>exact ⟨0,Nat.zero_le _,rfl,by simpa using hc,hf,hb⟩
 case round =>
  obtain ⟨k,hk,rfl,hc',hf',hb'⟩:=hrel
  clear hc hf hz hb
  by_cases hlt:k < l.length
  ·obtain ⟨c,hck'⟩:∃ c,l[k]?=some c:=⟨_,List.getElem?_eq_getElem hlt⟩
   have hck:=hc' k c hck'
   simp only [Nat.lt_irrefl,if_false] at hck
   have hfk:=hf' k hlt
   have hcz:=Lib.hid hc';clear hc'
   have hfz:=Lib.hid hf';clear hf'
   have hcv:=Lib.hid hck';clear hck'
   go_wp2
   ·go_roundw
    case rel =>
     refine ⟨k+1,by omega,by go_num,fun j d h=>?_,fun j h=>by rw [World.frozen?_setCell];exact hfz.out j h,hb'.setCell (Nat.le_refl _) _⟩
     rw [cell_set (hcz.out j d h)]
     by_cases hkj:k=j
     ·subst hkj
      obtain rfl:c=d:=by have:=hcv.out;rw [this] at h;exact Option.some.inj h
      rw [if_pos rfl,if_pos (by omega),lowB_up ‹_› ‹_›]
     ·rw [if_neg hkj]
      have:(j < k+1)=(j < k):=by simp;omega
      simp only [this]
    case measure=>simp [intOf];omega
   all_goals
    go_roundw
    case rel =>
     refine ⟨k+1,by omega,by go_num,fun j d h=>?_,hfz.out,hb'⟩
     rw [hcz.out j d h]
     by_cases hkj:k=j
     ·subst hkj
      obtain rfl:c=d:=by have:=hcv.out;rw [this] at h;exact Option.some.inj h
      rw [if_neg (by omega),if_pos (by omega),lowB_id (by omega)]
     ·have:(j < k+1)=(j < k):=by simp;omega
      simp only [this]
    case measure=>simp [intOf];omega
  ·obtain rfl:k=l.length:=by omega
   have hback:=run_convert_bytes_back (P:=Tryz.prog) wr 41 9 5 ⟨w.heap.size,0,none⟩ cap (lower l) Tryz.underlying41 Tryz.underlying5 Tryz.underlying9 (fun j hj=>by
    have hj':j < l.length:=by simpa [lower] using hj
    have:=hc' j _ (List.getElem?_eq_getElem hj')
    rw [if_pos hj'] at this
    simpa [Addr.add_lit,lower] using this)
   have hl:(lower l).length=l.length:=by simp [lower]
   rw [hl] at hback
   clear hc' hf' hl
   go_wp2
   go_ret
   exact ⟨rfl,hb'⟩
set_option maxRecDepth 100000 in
set_option maxHeartbeats 2000000 in
theorem tokValue_any (l:Bs) (w:World) (hl:l.length≤maxLen) :
  Calls Tryz.prog 180 #[str l] w fun e w'=>e=.returned (.tuple #[str (valueT l).1,str (valueT l).2])∧Below w.heap.size w w':=by
 have hbl:=(suf_blanks l).len
 have hres:∃ r,Hid (valueT l=r):=⟨_,Lib.hid rfl⟩
 obtain ⟨⟨R1,R2⟩,hres⟩:=hres
 rw [hres.out]
 go_enter Tryz.func180,Tryz.ntmps180
 go_wp2_with fail
 refine (tokBlanks_any l w hl).mono ?_
 rintro e w1 ⟨rfl,hb1⟩
 have hr:=hres.out
 unfold valueT at hr
 cases hB:blanks l with
 | nil =>
  rw [hB] at hr
  cases hr
  clear hres
  go_wp2_with fail
  refine (tokWordV_any [] w1 (by simp)).mono ?_
  rintro e w2 ⟨rfl,hb2⟩
  go_wp2
  go_ret2
  exact ⟨rfl,btr hb1 hb2⟩
 | cons c r =>
  rw [hB] at hr hbl
  simp only at hr
  have hrl:r.length≤maxLen:=by simp at hbl;omega
  have hcl:(c :: r).length≤maxLen:=by omega
  have hg:∀ hk,(⟨(c :: r).toArray⟩:ByteArray)[0]'hk=c:=str_get rfl
  by_cases hq:c=34∨c=39
  ·rw [if_pos hq] at hr
   cases hr
   have C:=Lib.hid (cut1_any r c w1.drew hrl)
   have way:((c.toNat:Int) == 34)=true∨(((c.toNat:Int) == 34)=false∧((c.toNat:Int) == 39)=true):=by
    rcases hq with h | h
    ·left;subst h;rfl
    ·right;subst h;exact ⟨rfl,rfl⟩
   clear hres hq hB
   rcases way with d1 | ⟨d1,d2⟩
   all_goals
    go_upto_region 3 with fail
    have h1le:(1:Int)≤(r.length:Int)+1:=by omega
    have Q0:Below w1.heap.size w1 w1.drew:=(brf w1).drew
    refine wp_region_held (S:=fun w'=>Below w1.heap.size w1 w') (by kernel_rfl) ?_
    refine tD 0 22 (v:=?_) Q0 ?_ ?_
    rotate_left
    ·(intro w' hw';(try dsimp only at hw');go_simp;try with_reducible rfl)
    simp only [List.set_cons_zero,List.set_cons_succ]
    refine tD 1 23 (v:=?_) Q0 ?_ ?_
    rotate_left
    ·(intro w' hw';(try dsimp only at hw');go_simp;try with_reducible rfl)
    simp only [List.set_cons_zero,List.set_cons_succ]
    refine tD 2 24 (v:=?_) Q0 ?_ ?_
    rotate_left
    ·(intro w' hw';(try dsimp only at hw');go_simp;try with_reducible rfl)
    simp only [List.set_cons_zero,List.set_cons_succ]
    refine tD 3 25 (v:=?_) Q0 ?_ ?_
    rotate_left
    ·(intro w' hw';(try dsimp only at hw');go_simp;try with_reducible rfl)
    simp only [List.set_cons_zero,List.set_cons_succ]
    refine wpAnyH_step 4 rfl (by kernel_rfl) (fun K' hK'=>?_)
    rw [if_pos (by rfl)]
    go_simp
    go_at_call 121
    rw [str_tail,str_one]
    refine (C.out).mono ?_
    rintro e w2 ⟨rfl,hb2⟩
    have Q1:=btr Q0 hb2
    go_wp2_with fail
    refine hK'.out _ _ Q1 ?_
    clear hK' K'
    refine tD 5 21 (v:=?_) Q1 ?_ ?_
    rotate_left
    ·(intro w' hw';(try dsimp only at hw');go_simp;try with_reducible rfl)
    simp only [List.set_cons_zero,List.set_cons_succ]
    refine tD 6 27 (v:=?_) Q1 ?_ ?_
    rotate_left
    ·(intro w' hw';(try dsimp only at hw');go_simp;try with_reducible rfl)
    simp only [List.set_cons_zero,List.set_cons_succ]
    refine tD 7 28 (v:=?_) Q1 ?_ ?_
    rotate_left
    ·(intro w' hw';(try dsimp only at hw');go_simp;try with_reducible rfl)
    simp only [List.set_cons_zero,List.set_cons_succ]
    refine tD 8 29 (v:=?_) Q1 ?_ ?_
    rotate_left
    ·(intro w' hw';(try dsimp only at hw');go_simp;try with_reducible rfl)
    simp only [List.set_cons_zero,List.set_cons_succ]
    refine tD 9 4 (v:=?_) Q1 ?_ ?_
    rotate_left
    ·(intro w' hw';(try dsimp only at hw');go_simp;try with_reducible rfl)
    simp only [List.set_cons_zero,List.set_cons_succ]
    refine tD 10 5 (v:=?_) Q1 ?_ ?_
    rotate_left
    ·(intro w' hw';(try dsimp only at hw');go_simp;try with_reducible rfl)
    simp only [List.set_cons_zero,List.set_cons_succ]
    refine tD 11 6 (v:=?_) Q1 ?_ ?_
    rotate_left
    ·(intro w' hw';(try dsimp only at hw');go_simp;try with_reducible rfl)
    simp only [List.set_cons_zero,List.set_cons_succ]
    refine wpAnyH_done (by kernel_rfl) ?_ _
    go_wp2
    go_ret2
    exact ⟨rfl,btr hb1 Q1⟩
  ·rw [if_neg hq] at hr
   cases hr
   have d1:((c.toNat:Int) == 34)=false:=by rw [← show (c == 34)=((c.toNat:Int) == 34) from u8eq c 34];simp;exact fun h=>hq (Or.inl h)
   have d2:((c.toNat:Int) == 39)=false:=by rw [← show (c == 39)=((c.toNat:Int) == 39) from u8eq c 39];simp;exact fun h=>hq (Or.inr h)
   clear hres hq hB
   go_wp2_with fail
   refine (tokWordV_any (c :: r) w1 hcl).mono ?_
   rintro e w2 ⟨rfl,hb2⟩
   go_wp2
   go_ret2
   exact ⟨rfl,btr hb1 hb2⟩
end Go.Proofs.YteikncnldbdfmaaGreatDoor
namespace Go.Mh
open Go.RowKit
theorem hasP_one (l:Bs) (c:UInt8):Lib.hasPrefix (⟨l.toArray⟩:ByteArray).data.toList (⟨#[c]⟩:ByteArray).data.toList=(match l with | []=>false | d :: _=>c == d):=by
 cases l with
 | nil=>rfl
 | cons d l=>show [c].isPrefixOf (d :: l)=(c == d);rw [List.isPrefixOf_cons_cons];simp
theorem valOf_len (s:Bs):(valOf s).2.length≤s.length:=(suf_valOf s).len
theorem str_cons (c:UInt8) (s a:Bs):Value.string ((⟨(c :: s).toArray⟩:ByteArray).extract 0 1 ++ ⟨a.toArray⟩)=str (c :: a):=by
 rw [ext_str];exact str_cat _ _
def pfx (l:Bs):Bool:=match l with
 | []=>false
 | d :: _=>61 == d
theorem pfx_yes {m:Bs} (h:pfx (blanks m)=true):∃ r,blanks m=61 :: r∧valOf m=valueT r:=by
 unfold pfx at h
 cases hb:blanks m with
 | nil=>rw [hb] at h;cases h
 | cons d r =>
  rw [hb] at h
  have hd:d=61:=by simpa using Eq.symm (by simpa using h:(61:UInt8)=d)
  subst hd
  exact ⟨r,rfl,by simp [valOf,hb]⟩
theorem pfx_no {m:Bs} (h:pfx (blanks m)=false):valOf m=([],m):=by
 unfold pfx at h
 unfold valOf
 cases hb:blanks m with
 | nil=>rfl
 | cons d r =>
  rw [hb] at h
  have hd:¬ d=61:=by intro e;subst e;simp at h
  simp only
  rw [if_neg hd]
end Go.Mh
namespace Go.Proofs.YteikncnldbdfmaaGreatDoor
open Go.RowKit Go.Mh
set_option maxRecDepth 100000 in
set_option maxHeartbeats 4000000 in
theorem tokTag_any (l:Bs) (w:World) (hl:l.length≤maxLen) :
  Calls Tryz.prog 123 #[str l] w fun e w'=>e=.returned (tagV (tagT l))∧Below w.heap.size w w':=by
 have hdl:=(suf_dw nb2 l).len
 have htl:(l.takeWhile nb2).length≤maxLen:=Nat.le_trans (List.takeWhile_prefix nb2).length_le hl
 have hres:∃ r,Hid (tagT l=r):=⟨_,Lib.hid rfl⟩
 obtain ⟨R,hres⟩:=hres
 rw [hres.out]
 have hr:=hres.out
 unfold tagT at hr
 clear hres
 go_enter Tryz.func123,Tryz.ntmps123
 go_wp2_with fail
 refine (tokWordT1_any l w hl).mono ?_
 rintro e w1 ⟨rfl,hb1⟩
 generalize l.takeWhile nb2=nm at *
 generalize hs0:l.dropWhile nb2=s0 at *
 clear hs0
 have hR:=Lib.hid hr
 clear hr
 go_wp2
 go_loopw [0,2,3,6] (fun sv nv hv fv wr=>∃ s href found,sv=str s∧nv=str nm∧hv=str href∧fv=.bool found∧s.length≤l.length∧Hid (attrT s0 [] false=attrT s href found)∧Below w.heap.size w wr) (fun sv _ _ _ _=>szOf sv)
 case atStart=>exact ⟨s0,[],false,rfl,rfl,rfl,rfl,hdl,Lib.hid rfl,hb1⟩
 case round =>
  obtain ⟨s,href,found,rfl,rfl,rfl,rfl,hsl,hf,hb⟩:=hrel
  obtain ⟨wo,hwo⟩:∃ wo,wo=wr:=⟨_,rfl⟩
  subst hwo
  go_wp2
  go_loopw [0] (fun sv wr=>∃ s',sv=str s'∧s'.length≤s.length∧Hid (s'.dropWhile sk2=s.dropWhile sk2)∧Below wo.heap.size wo wr) (fun sv _=>szOf sv)
  case atStart=>exact ⟨s,rfl,Nat.le_refl _,Lib.hid rfl,brf _⟩
  case round =>
   obtain ⟨s',rfl,hsl',hd,hbi⟩:=hrel
   have hB:=btr hb hbi
   cases s' with
   | nil =>
    have hn:attrT s0 [] false=none:=by rw [hf.out,attrT_eq,← hd.out];rfl
    have hr:=hR.out
    rw [hn] at hr
    subst hr
    clear hf hd hR hn
    go_wp2
    exact bodyPost_ret (v:=.tuple #[str [],str [],str [],.bool false]) (by simp [results,Tryz.results123,go_sem]) rfl ⟨rfl,hB⟩
   | cons c r =>
    have hg:∀ hk,(⟨(c :: r).toArray⟩:ByteArray)[0]'hk=c:=str_get rfl
    have h1le:(1:Int)≤(r.length:Int)+1:=by omega
    go_wp2_with fail
    refine (tokSpace_any c wr).mono ?_
    rintro e w2 ⟨rfl,hb2⟩
    cases hsp:isSp c with
    | true =>
     go_wp2
     go_roundw
     case rel=>exact ⟨r,str_tail c r,by simp at hsl';omega,Lib.hid (by rw [← hd.out];simp [sk2,hsp]),btr hbi hb2⟩
     case measure=>rw [str_tail,szOf_str,szOf_str];simp
    | false =>
     cases h47:((c.toNat:Int) == 47) with
     | true =>
      go_wp2
      go_roundw
      case rel=>exact ⟨r,str_tail c r,by simp at hsl';omega,Lib.hid (by rw [← hd.out,List.dropWhile_cons,show sk2 c=true from by unfold sk2;rw [u8eq c 47,show ((c.toNat:Int) == ((47:UInt8).toNat:Int))=true from h47];simp];rfl),btr hbi hb2⟩
      case measure=>rw [str_tail,szOf_str,szOf_str];simp
     | false =>
      have hsk:sk2 c=false:=by unfold sk2;rw [hsp,u8eq c 47,show ((c.toNat:Int) == ((47:UInt8).toNat:Int))=false from h47];rfl
      have hdc:s.dropWhile sk2=c :: r:=by rw [← hd.out];simp [hsk]
      cases h62:((c.toNat:Int) == 62) with
      | true =>
       have hc62:c=62:=by have:(c == 62)=true:=by rw [u8eq c 62];exact h62
                          simpa using this
       have hn:attrT s0 [] false=some (href,r):=by rw [hf.out,attrT_eq,hdc];simp only;rw [if_pos hc62]
       have hr:=hR.out
       rw [hn] at hr
       subst hr
       have C:=Lib.hid (tokLower_any nm w2.drew htl)
       clear hf hd hR hn hdc hsk hc62
       go_upto_region 8 with fail
       have Q0:Below w2.heap.size w2 w2.drew:=(brf w2).drew
       refine wp_region_held (S:=fun w'=>Below w2.heap.size w2 w') (by kernel_rfl) ?_
       refine tD 0 34 (v:=?_) Q0 ?_ ?_
       rotate_left
       ·(intro w' hw';(try dsimp only at hw');go_simp;try with_reducible rfl)
       simp only [List.set_cons_zero,List.set_cons_succ]
       refine tD 2 36 (v:=?_) Q0 ?_ ?_
       rotate_left
       ·(intro w' hw';(try dsimp only at hw');go_simp;try with_reducible rfl)
       simp only [List.set_cons_zero,List.set_cons_succ]
       refine tD 3 37 (v:=?_) Q0 ?_ ?_
       rotate_left
       ·(intro w' hw';(try dsimp only at hw');go_simp;try with_reducible rfl)
       simp only [List.set_cons_zero,List.set_cons_succ]
       refine tD 4 38 (v:=?_) Q0 ?_ ?_
       rotate_left
       ·(intro w' hw';(try dsimp only at hw');go_simp;try with_reducible rfl)
       simp only [List.set_cons_zero,List.set_cons_succ]
       refine wpAnyH_step 1 rfl (by kernel_rfl) (fun K' hK'=>?_)
       rw [if_pos (by rfl)]
       go_simp
       go_at_call 177
       refine (C.out).mono ?_
       rintro e w3 ⟨rfl,hb3⟩
       have Q1:=btr Q0 hb3
       go_wp2_with fail
       refine hK'.out _ _ Q1 ?_
       clear hK' K'
       refine tD 5 2 (v:=?_) Q1 ?_ ?_
       rotate_left
       ·(intro w' hw';(try dsimp only at hw');go_simp;try with_reducible rfl)
       simp only [List.set_cons_zero,List.set_cons_succ]
       refine tD 6 3 (v:=?_) Q1 ?_ ?_
       rotate_left
       ·(intro w' hw';(try dsimp only at hw');go_simp;try with_reducible rfl)
       simp only [List.set_cons_zero,List.set_cons_succ]
       refine tD 7 4 (v:=?_) Q1 ?_ ?_
       rotate_left
       ·(intro w' hw';(try dsimp only at hw');go_simp;try with_reducible rfl)
       simp only [List.set_cons_zero,List.set_cons_succ]
       refine tD 8 5 (v:=?_) Q1 ?_ ?_
       rotate_left
       ·(intro w' hw';(try dsimp only at hw');go_simp;try with_reducible rfl)
       simp only [List.set_cons_zero,List.set_cons_succ]
       refine wpAnyH_done (by kernel_rfl) ?_ _
       go_wp2
       exact bodyPost_ret (v:=.tuple #[str (lower nm),str href,str r,.bool true]) (by rw [str_tail];simp [results,Tryz.results123,go_sem]) rfl ⟨rfl,btr hB (btr hb2 Q1)⟩
      | false =>
       have hc62:¬ c=62:=by have:(c == 62)=false:=by rw [u8eq c 62];exact h62
                            simpa using this
       have hn:attrT s href found=attrT (Mh.valOf (r.dropWhile nb3)).2 (if lower (c :: r.takeWhile nb3)=sHref∧found=false then (Mh.valOf (r.dropWhile nb3)).1 else href) (if lower (c :: r.takeWhile nb3)=sHref∧found=false then true else found):=by rw [attrT_eq,hdc];simp only;rw [if_neg hc62]
       have hn':=Lib.hid (hf.out.trans hn)
       have hrm:r.length≤maxLen:=by simp at hsl';omega
       have hB2:=btr hB hb2
       clear hf hd hn hdc hsk hc62
       go_wp2_with fail
       rw [str_tail]
       refine (tokWordT2_any r w2 hrm).mono ?_
       rintro e w3 ⟨rfl,hb3⟩
       have hB3:=btr hB2 hb3
       have hml:(r.dropWhile nb3).length≤r.length:=(suf_dw nb3 r).len
       have htl3:(c :: r.takeWhile nb3).length≤maxLen:=by have:=(List.takeWhile_prefix nb3 (l:=r)).length_le;simp at hsl' ⊢;omega
       generalize r.dropWhile nb3=m at *
       generalize r.takeWhile nb3=a at *
       clear hb3 hb2 hB2 hbi hB
       have hcat:¬ 9223372036854775807 < 1+a.length:=by unfold maxLen at htl3;simp at htl3;omega
       have hmm:m.length≤maxLen:=Nat.le_trans hml hrm
       have hms:m.length < s.length:=by simp at hsl';omega
       go_wp2_with fail
       rw [str_cons]
       refine (tokLower_any (c :: a) w3 htl3).mono ?_
       rintro e w4 ⟨rfl,hb4⟩
       have hB4:=btr hB3 hb4
       generalize lower (c :: a)=A at *
       clear hb4 hB3 hcat
       go_wp2_with fail
       refine (tokBlanks_any m w4 hmm).mono ?_
       rintro e w5 ⟨rfl,hb5⟩
       have hB5:=btr hB4 hb5
       go_wp2_with fail
       refine (Tryz.strings_HasPrefix ⟨(blanks m).toArray⟩ ⟨#[61]⟩ w5).mono ?_
       rintro e w6 ⟨rfl,rfl⟩
       rw [show Lib.hasPrefix (⟨(blanks m).toArray⟩:ByteArray).data.toList (⟨#[61]⟩:ByteArray).data.toList=pfx (blanks m) from hasP_one _ _]
       clear hb5 hB4
       go_upto_if 53 with fail
       go_cut [0,9] (fun t0 t9 wx=>t9=str (Mh.valOf m).1∧t0=str (Mh.valOf m).2∧Below w6.heap.size w6 wx)
       case first =>
        cases hp:pfx (blanks m) with
        | false =>
         have hv:=Lib.hid (pfx_no hp)
         clear hn'
         go_wp2_with fail
         go_meet
         exact ⟨by rw [hv.out],by rw [hv.out],brf _⟩
        | true =>
         obtain ⟨r2,h1,h2⟩:=pfx_yes hp
         have hv:=Lib.hid h2
         have hr2:(61 :: r2).length≤maxLen:=by rw [← h1];exact Nat.le_trans (suf_blanks m).len hmm
         have hr3:r2.length≤maxLen:=by simp at hr2;omega
         have h1l:(1:Int)≤(r2.length:Int)+1:=by omega
         have h1':=Lib.hid h1
         clear hn' h1 h2 hp
         go_wp2_with fail
         refine (tokBlanks_any m w6 hmm).mono ?_
         rintro e w7 ⟨rfl,hb7⟩
         rw [h1'.out]
         go_wp2_with fail
         rw [str_tail]
         refine (tokValue_any r2 w7 hr3).mono ?_
         rintro e w8 ⟨rfl,hb8⟩
         go_wp2_with fail
         go_meet
         exact ⟨by rw [hv.out],by rw [hv.out],btr hb7 hb8⟩
       case rest =>
        obtain ⟨rfl,rfl,hb7⟩:=hcut
        have hB7:=btr hB5 hb7
        have hvl:=valOf_len m
        generalize Mh.valOf m=V at *
        obtain ⟨V1,V2⟩:=V
        by_cases hA:A=sHref
        ·subst hA
         cases found with
         | true =>
          go_wp2
          go_roundw
          case rel=>exact ⟨V2,_,true,rfl,rfl,rfl,rfl,by simp at hvl;omega,Lib.hid (by rw [hn'.out];simp),hB7⟩
          case measure=>rw [szOf_str,szOf_str];simp at hvl;omega
         | false =>
          go_wp2
          go_roundw
          case rel=>exact ⟨V2,V1,true,rfl,rfl,rfl,rfl,by simp at hvl;omega,Lib.hid (by rw [hn'.out];simp),hB7⟩
          case measure=>rw [szOf_str,szOf_str];simp at hvl;omega
        ·have hA':=Lib.hid hA
         go_wp2
         go_roundw
         case rel=>exact ⟨V2,href,found,rfl,rfl,rfl,rfl,by simp at hvl;omega,Lib.hid (by rw [hn'.out,if_neg (fun h=>hA'.out h.1),if_neg (fun h=>hA'.out h.1)]),hB7⟩
         case measure=>rw [szOf_str,szOf_str];simp at hvl;omega
end Go.Proofs.YteikncnldbdfmaaGreatDoor
