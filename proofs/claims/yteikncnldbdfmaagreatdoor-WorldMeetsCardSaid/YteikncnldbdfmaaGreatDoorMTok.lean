import Derived.Test.YteikncnldbdfmaaGreatDoorMMem
import Derived.Test.YteikncnldbdfmaaGreatDoorMPl
import Derived.Test.YteikncnldbdfmaaGreatDoorMShelf
import Derived.Test.YteikncnldbdfmaaGreatDoorRows
import Derived.Deep.DeepCutAuto
import Derived.Deep.CutBlock
import Derived.WalkMore
import Derived.Lib.MapLaws
import Derived.Lib.RuneBytes
import Derived.Lib.ReplaceLaws
import Derived.Lib.Replace
import Derived.Laws.RangeAny
import Derived.Lib.OthersKept
import Derived.Laws.Runes
import Derived.BigQuiet
import Derived.Deep.Cut
import Derived.Deep.LoopGhost
import Derived.Shelf.Strings.SlTrimAscii
namespace Go.Mh
open Go.RowKit
theorem u8eq (c d:UInt8):(c == d)=((c.toNat:Int) == (d.toNat:Int)):=by
 rw [Bool.eq_iff_iff]
 simp only [beq_iff_eq]
 constructor
 ·rintro rfl;rfl
 ·intro e;exact UInt8.toNat_inj.1 (by omega)
theorem isSp_eq (c:UInt8):isSp c=(((c.toNat:Int) == 32) || ((c.toNat:Int) == 9) || ((c.toNat:Int) == 10) || ((c.toNat:Int) == 13) || ((c.toNat:Int) == 12)):=by
 unfold isSp
 have h:∀ (d:UInt8),(c == d)=((c.toNat:Int) == (d.toNat:Int)):=fun d=>by
  rw [Bool.eq_iff_iff]
  simp only [beq_iff_eq]
  constructor
  ·rintro rfl;rfl
  ·intro e;exact UInt8.toNat_inj.1 (by omega)
 rw [h 32,h 9,h 10,h 13,h 12]
 rfl
theorem ext_str (l:Bs) (i j:Nat):(⟨l.toArray⟩:ByteArray).extract i j=⟨((l.take j).drop i).toArray⟩:=by
 apply ByteArray.ext
 simp [ByteArray.data_extract]
 rw [List.drop_take]
theorem str_from (l:Bs) (i:Nat):Value.string ((⟨l.toArray⟩:ByteArray).extract i l.length)=str (l.drop i):=by
 rw [ext_str,List.take_length]
theorem str_upto (l:Bs) (j:Nat):Value.string ((⟨l.toArray⟩:ByteArray).extract 0 j)=str (l.take j):=by
 rw [ext_str,List.drop_zero]
theorem str_tail (c:UInt8) (s:Bs):Value.string ((⟨(c :: s).toArray⟩:ByteArray).extract 1 (s.length+1))=str s:=str_from (c :: s) 1
theorem str_get {l:Bs} {k:Nat} {c:UInt8} (h:l[k]?=some c):∀ hk,(⟨l.toArray⟩:ByteArray)[k]'hk=c:=by
 obtain ⟨hk,e⟩:=List.getElem?_eq_some_iff.1 h
 intro _
 exact e
def szOf:Value→Nat
 | .string b=>b.size
 | _=>0
theorem szOf_str (l:Bs):szOf (str l)=l.length:=rfl
theorem tw_of {p:UInt8→Bool}:∀ {l:Bs} {k:Nat},(∀ (j:Nat) c,j < k→l[j]?=some c→p c=true)→(k=l.length∨∃ c,l[k]?=some c∧p c=false)→l.takeWhile p=l.take k∧l.dropWhile p=l.drop k
 | [],k,_,h=>by simp
 | c :: l,0,_,h=>by
  rcases h with h | ⟨d,h1,h2⟩
  ·simp at h
  ·simp at h1;subst h1;simp [h2]
 | c :: l,k+1,h0,h=>by
  have hc:=h0 0 c (by omega) rfl
  have:=tw_of (p:=p) (l:=l) (k:=k) (fun j d hj hd=>h0 (j+1) d (by omega) (by simpa using hd)) (by
   rcases h with h | ⟨d,h1,h2⟩
   ·left;simpa using h
   ·right;exact ⟨d,by simpa using h1,h2⟩)
  simp [hc,this.1,this.2]
end Go.Mh
namespace Go.Proofs.YteikncnldbdfmaaGreatDoor
open Go.RowKit Go.Mh
set_option maxHeartbeats 1000000 in
theorem tokSpace_any (c:UInt8) (w:World) :
  Calls Tryz.prog 176 #[.int .u8 c.toNat] w fun e w'=>e=.returned (.bool (isSp c))∧Below w.heap.size w w':=by
 rw [isSp_eq]
 go_enter Tryz.func176,Tryz.ntmps176
 cases h1:((c.toNat:Int) == 32) with
 | true=>go_wp2;go_ret;exact ⟨rfl,brf _⟩
 | false =>
  cases h2:((c.toNat:Int) == 9) with
  | true=>go_wp2;go_ret;exact ⟨rfl,brf _⟩
  | false =>
   cases h3:((c.toNat:Int) == 10) with
   | true=>go_wp2;go_ret;exact ⟨rfl,brf _⟩
   | false =>
    cases h4:((c.toNat:Int) == 13) with
    | true=>go_wp2;go_ret;exact ⟨rfl,brf _⟩
    | false=>go_wp2;go_ret;exact ⟨by simp,brf _⟩
set_option maxHeartbeats 1000000 in
theorem tokBlanks_any (l:Bs) (w:World) (_:l.length≤maxLen) :
  Calls Tryz.prog 179 #[str l] w fun e w'=>e=.returned (str (blanks l))∧Below w.heap.size w w':=by
 go_enter Tryz.func179,Tryz.ntmps179
 go_wp2
 go_loopw [0] (fun sv wr=>∃ s,sv=str s∧s.length≤l.length∧blanks s=blanks l∧Below w.heap.size w wr) (fun sv _=>szOf sv)
 case atStart=>exact ⟨l,rfl,Nat.le_refl _,rfl,brf _⟩
 case round =>
  obtain ⟨s,rfl,hs,hbl,hb⟩:=hrel
  cases s with
  | nil =>
   go_wp2
   go_ret
   exact ⟨by rw [← hbl];rfl,hb⟩
  | cons c s =>
   go_wp2_with fail
   refine (tokSpace_any c wr).mono ?_
   rintro e w1 ⟨rfl,hb1⟩
   cases hc:isSp c with
   | false =>
    go_wp2
    go_ret
    exact ⟨by rw [← hbl];simp [blanks,hc],btr hb hb1⟩
   | true =>
    go_wp2
    go_roundw
    case rel=>exact ⟨s,str_tail c s,by simp at hs;omega,by rw [← hbl];simp [blanks,hc],btr hb hb1⟩
    case measure=>rw [str_tail,szOf_str,szOf_str];simp
set_option maxHeartbeats 1000000 in
theorem tokEndP_any (c:UInt8) (w:World) :
  Calls Tryz.prog 118 #[.int .u8 c.toNat] w fun e w'=>e=.returned (.bool (!(c != 60)))∧Below w.heap.size w w':=by
 rw [show (!(c != 60))=((c.toNat:Int) == 60) from by rw [bne,Bool.not_not,u8eq c 60];rfl]
 go_enter Tryz.func118,Tryz.ntmps118
 go_wp2
 go_ret
 exact ⟨rfl,brf _⟩
set_option maxHeartbeats 1000000 in
theorem tokEndT1_any (c:UInt8) (w:World) :
  Calls Tryz.prog 175 #[.int .u8 c.toNat] w fun e w'=>e=.returned (.bool (!nb2 c))∧Below w.heap.size w w':=by
 rw [show (!nb2 c)=(isSp c || ((c.toNat:Int) == 47) || ((c.toNat:Int) == 62)) from by unfold nb2;rw [Bool.not_not,u8eq c 47,u8eq c 62];rfl]
 go_enter Tryz.func175,Tryz.ntmps175
 go_wp2_with fail
 refine (tokSpace_any c w).mono ?_
 rintro e w1 ⟨rfl,hb1⟩
 cases hs:isSp c with
 | true=>go_wp2;go_ret;exact ⟨by rw [hs];rfl,hb1⟩
 | false =>
  cases h47:((c.toNat:Int) == 47) with
  | true=>go_wp2;go_ret;exact ⟨by rw [hs,h47];rfl,hb1⟩
  | false =>
   go_wp2
   go_ret
   exact ⟨by rw [hs,h47];rfl,hb1⟩
set_option maxHeartbeats 1000000 in
theorem tokEndT2_any (c:UInt8) (w:World) :
  Calls Tryz.prog 178 #[.int .u8 c.toNat] w fun e w'=>e=.returned (.bool (!nb3 c))∧Below w.heap.size w w':=by
 rw [show (!nb3 c)=(isSp c || ((c.toNat:Int) == 47) || ((c.toNat:Int) == 62) || ((c.toNat:Int) == 61)) from by unfold nb3;rw [Bool.not_not,u8eq c 47,u8eq c 62,u8eq c 61];rfl]
 go_enter Tryz.func178,Tryz.ntmps178
 go_wp2_with fail
 refine (tokSpace_any c w).mono ?_
 rintro e w1 ⟨rfl,hb1⟩
 cases hs:isSp c with
 | true=>go_wp2;go_ret;exact ⟨by rw [hs];rfl,hb1⟩
 | false =>
  cases h47:((c.toNat:Int) == 47) with
  | true=>go_wp2;go_ret;exact ⟨by rw [hs,h47];rfl,hb1⟩
  | false =>
   cases h62:((c.toNat:Int) == 62) with
   | true=>go_wp2;go_ret;exact ⟨by rw [hs,h47,h62];rfl,hb1⟩
   | false =>
    go_wp2
    go_ret
    exact ⟨by rw [hs,h47,h62];rfl,hb1⟩
set_option maxHeartbeats 1000000 in
theorem tokEndV_any (c:UInt8) (w:World) :
  Calls Tryz.prog 201 #[.int .u8 c.toNat] w fun e w'=>e=.returned (.bool (!nb1 c))∧Below w.heap.size w w':=by
 rw [show (!nb1 c)=(isSp c || ((c.toNat:Int) == 62)) from by unfold nb1;rw [Bool.not_not,u8eq c 62];rfl]
 go_enter Tryz.func201,Tryz.ntmps201
 go_wp2_with fail
 refine (tokSpace_any c w).mono ?_
 rintro e w1 ⟨rfl,hb1⟩
 cases hs:isSp c with
 | true=>go_wp2;go_ret;exact ⟨by rw [hs];rfl,hb1⟩
 | false =>
  go_wp2
  go_ret
  exact ⟨by rw [hs];rfl,hb1⟩
set_option maxRecDepth 100000 in
set_option maxHeartbeats 1000000 in
theorem tokWordP_any (l:Bs) (w:World) (hl:l.length≤maxLen) :
  Calls Tryz.prog 117 #[str l,.func (Fn.func 118) #[] #[]] w fun e w'=>e=.returned (.tuple #[str (l.takeWhile (· != 60)),str (l.dropWhile (· != 60))])∧Below w.heap.size w w':=by
 unfold maxLen at hl
 go_enter Tryz.func117,Tryz.ntmps117
 go_wp2
 go_loopw [6] (fun i wr=>∃ k:Nat,k≤l.length∧i=.int .i64 k∧Hid (∀ (j:Nat) c,j < k→l[j]?=some c→((· != 60)) c=true)∧Below w.heap.size w wr) (fun i _=>l.length - (intOf i).toNat)
 case atStart=>exact ⟨0,Nat.zero_le _,rfl,Lib.hid (fun j c h=>by omega),brf _⟩
 case round =>
  obtain ⟨k,hk,rfl,hf,hb⟩:=hrel
  by_cases hlt:k < l.length
  ·have g1:(0:Int)≤(k:Int):=by omega
   have g2:(k:Int)≤(l.length:Int):=by omega
   obtain ⟨c,hc⟩:∃ c,l[k]?=some c:=⟨_,List.getElem?_eq_getElem hlt⟩
   have hg:=str_get hc
   have hc':=Lib.hid hc
   clear hc
   go_wp2_with fail
   refine (tokEndP_any c wr).mono ?_
   rintro e w1 ⟨rfl,hb1⟩
   cases hp:((· != 60)) c with
   | true =>
    have hnx:Hid (∀ (j:Nat) d,j < k+1→l[j]?=some d→((· != 60)) d=true):=Lib.hid (fun j d hj hd=>by
     by_cases hjk:j=k
     ·subst hjk
      have:=hc'.out
      rw [this] at hd
      cases hd
      exact hp
     ·exact hf.out j d (by omega) hd)
    clear hf hg
    go_wp2
    go_roundw
    case rel=>exact ⟨k+1,by omega,by go_num,hnx,btr hb hb1⟩
    case measure=>simp [intOf];omega
   | false =>
    obtain ⟨h1,h2⟩:=tw_of hf.out (Or.inr ⟨c,hc'.out,hp⟩)
    have H1:=Lib.hid h1
    have H2:=Lib.hid h2
    clear hf hg h1 h2
    go_wp2
    go_region
    all_goals
     go_wp2
     go_ret2
     exact ⟨by rw [H1.out,H2.out,str_from,str_upto];rfl,(btr hb hb1).drew⟩
  ·obtain rfl:k=l.length:=by omega
   obtain ⟨h1,h2⟩:=tw_of hf.out (Or.inl rfl)
   have H1:=Lib.hid h1
   have H2:=Lib.hid h2
   have g1:(0:Int)≤(l.length:Int):=by omega
   clear hf h1 h2
   go_wp2
   go_region
   all_goals
    go_wp2
    go_ret2
    exact ⟨by rw [H1.out,H2.out,List.take_length,List.drop_length,str_from,List.drop_zero];rfl,hb.drew⟩
set_option maxRecDepth 100000 in
set_option maxHeartbeats 1000000 in
theorem tokWordT1_any (l:Bs) (w:World) (hl:l.length≤maxLen) :
  Calls Tryz.prog 117 #[str l,.func (Fn.func 175) #[] #[]] w fun e w'=>e=.returned (.tuple #[str (l.takeWhile nb2),str (l.dropWhile nb2)])∧Below w.heap.size w w':=by
 unfold maxLen at hl
 go_enter Tryz.func117,Tryz.ntmps117
 go_wp2
 go_loopw [6] (fun i wr=>∃ k:Nat,k≤l.length∧i=.int .i64 k∧Hid (∀ (j:Nat) c,j < k→l[j]?=some c→(nb2) c=true)∧Below w.heap.size w wr) (fun i _=>l.length - (intOf i).toNat)
 case atStart=>exact ⟨0,Nat.zero_le _,rfl,Lib.hid (fun j c h=>by omega),brf _⟩
 case round =>
  obtain ⟨k,hk,rfl,hf,hb⟩:=hrel
  by_cases hlt:k < l.length
  ·have g1:(0:Int)≤(k:Int):=by omega
   have g2:(k:Int)≤(l.length:Int):=by omega
   obtain ⟨c,hc⟩:∃ c,l[k]?=some c:=⟨_,List.getElem?_eq_getElem hlt⟩
   have hg:=str_get hc
   have hc':=Lib.hid hc
   clear hc
   go_wp2_with fail
   refine (tokEndT1_any c wr).mono ?_
   rintro e w1 ⟨rfl,hb1⟩
   cases hp:(nb2) c with
   | true =>
    have hnx:Hid (∀ (j:Nat) d,j < k+1→l[j]?=some d→(nb2) d=true):=Lib.hid (fun j d hj hd=>by
     by_cases hjk:j=k
     ·subst hjk
      have:=hc'.out
      rw [this] at hd
      cases hd
      exact hp
     ·exact hf.out j d (by omega) hd)
    clear hf hg
    go_wp2
    go_roundw
    case rel=>exact ⟨k+1,by omega,by go_num,hnx,btr hb hb1⟩
    case measure=>simp [intOf];omega
   | false =>
    obtain ⟨h1,h2⟩:=tw_of hf.out (Or.inr ⟨c,hc'.out,hp⟩)
    have H1:=Lib.hid h1
    have H2:=Lib.hid h2
    clear hf hg h1 h2
    go_wp2
    go_region
    all_goals
     go_wp2
     go_ret2
     exact ⟨by rw [H1.out,H2.out,str_from,str_upto];rfl,(btr hb hb1).drew⟩
  ·obtain rfl:k=l.length:=by omega
   obtain ⟨h1,h2⟩:=tw_of hf.out (Or.inl rfl)
   have H1:=Lib.hid h1
   have H2:=Lib.hid h2
   have g1:(0:Int)≤(l.length:Int):=by omega
   clear hf h1 h2
   go_wp2
   go_region
   all_goals
    go_wp2
    go_ret2
    exact ⟨by rw [H1.out,H2.out,List.take_length,List.drop_length,str_from,List.drop_zero];rfl,hb.drew⟩
set_option maxRecDepth 100000 in
set_option maxHeartbeats 1000000 in
theorem tokWordT2_any (l:Bs) (w:World) (hl:l.length≤maxLen) :
  Calls Tryz.prog 117 #[str l,.func (Fn.func 178) #[] #[]] w fun e w'=>e=.returned (.tuple #[str (l.takeWhile nb3),str (l.dropWhile nb3)])∧Below w.heap.size w w':=by
 unfold maxLen at hl
 go_enter Tryz.func117,Tryz.ntmps117
 go_wp2
 go_loopw [6] (fun i wr=>∃ k:Nat,k≤l.length∧i=.int .i64 k∧Hid (∀ (j:Nat) c,j < k→l[j]?=some c→(nb3) c=true)∧Below w.heap.size w wr) (fun i _=>l.length - (intOf i).toNat)
 case atStart=>exact ⟨0,Nat.zero_le _,rfl,Lib.hid (fun j c h=>by omega),brf _⟩
 case round =>
  obtain ⟨k,hk,rfl,hf,hb⟩:=hrel
  by_cases hlt:k < l.length
  ·have g1:(0:Int)≤(k:Int):=by omega
   have g2:(k:Int)≤(l.length:Int):=by omega
   obtain ⟨c,hc⟩:∃ c,l[k]?=some c:=⟨_,List.getElem?_eq_getElem hlt⟩
   have hg:=str_get hc
   have hc':=Lib.hid hc
   clear hc
   go_wp2_with fail
   refine (tokEndT2_any c wr).mono ?_
   rintro e w1 ⟨rfl,hb1⟩
   cases hp:(nb3) c with
   | true =>
    have hnx:Hid (∀ (j:Nat) d,j < k+1→l[j]?=some d→(nb3) d=true):=Lib.hid (fun j d hj hd=>by
     by_cases hjk:j=k
     ·subst hjk
      have:=hc'.out
      rw [this] at hd
      cases hd
      exact hp
     ·exact hf.out j d (by omega) hd)
    clear hf hg
    go_wp2
    go_roundw
    case rel=>exact ⟨k+1,by omega,by go_num,hnx,btr hb hb1⟩
    case measure=>simp [intOf];omega
   | false =>
    obtain ⟨h1,h2⟩:=tw_of hf.out (Or.inr ⟨c,hc'.out,hp⟩)
    have H1:=Lib.hid h1
    have H2:=Lib.hid h2
    clear hf hg h1 h2
    go_wp2
    go_region
    all_goals
     go_wp2
     go_ret2
     exact ⟨by rw [H1.out,H2.out,str_from,str_upto];rfl,(btr hb hb1).drew⟩
  ·obtain rfl:k=l.length:=by omega
   obtain ⟨h1,h2⟩:=tw_of hf.out (Or.inl rfl)
   have H1:=Lib.hid h1
   have H2:=Lib.hid h2
   have g1:(0:Int)≤(l.length:Int):=by omega
   clear hf h1 h2
   go_wp2
   go_region
   all_goals
    go_wp2
    go_ret2
    exact ⟨by rw [H1.out,H2.out,List.take_length,List.drop_length,str_from,List.drop_zero];rfl,hb.drew⟩
set_option maxRecDepth 100000 in
set_option maxHeartbeats 1000000 in
theorem tokWordV_any (l:Bs) (w:World) (hl:l.length≤maxLen) :
  Calls Tryz.prog 117 #[str l,.func (Fn.func 201) #[] #[]] w fun e w'=>e=.returned (.tuple #[str (l.takeWhile nb1),str (l.dropWhile nb1)])∧Below w.heap.size w w':=by
 unfold maxLen at hl
 go_enter Tryz.func117,Tryz.ntmps117
 go_wp2
 go_loopw [6] (fun i wr=>∃ k:Nat,k≤l.length∧i=.int .i64 k∧Hid (∀ (j:Nat) c,j < k→l[j]?=some c→(nb1) c=true)∧Below w.heap.size w wr) (fun i _=>l.length - (intOf i).toNat)
 case atStart=>exact ⟨0,Nat.zero_le _,rfl,Lib.hid (fun j c h=>by omega),brf _⟩
 case round =>
  obtain ⟨k,hk,rfl,hf,hb⟩:=hrel
  by_cases hlt:k < l.length
  ·have g1:(0:Int)≤(k:Int):=by omega
   have g2:(k:Int)≤(l.length:Int):=by omega
   obtain ⟨c,hc⟩:∃ c,l[k]?=some c:=⟨_,List.getElem?_eq_getElem hlt⟩
   have hg:=str_get hc
   have hc':=Lib.hid hc
   clear hc
   go_wp2_with fail
   refine (tokEndV_any c wr).mono ?_
   rintro e w1 ⟨rfl,hb1⟩
   cases hp:(nb1) c with
   | true =>
    have hnx:Hid (∀ (j:Nat) d,j < k+1→l[j]?=some d→(nb1) d=true):=Lib.hid (fun j d hj hd=>by
     by_cases hjk:j=k
     ·subst hjk
      have:=hc'.out
      rw [this] at hd
      cases hd
      exact hp
     ·exact hf.out j d (by omega) hd)
    clear hf hg
    go_wp2
    go_roundw
    case rel=>exact ⟨k+1,by omega,by go_num,hnx,btr hb hb1⟩
    case measure=>simp [intOf];omega
   | false =>
    obtain ⟨h1,h2⟩:=tw_of hf.out (Or.inr ⟨c,hc'.out,hp⟩)
    have H1:=Lib.hid h1
    have H2:=Lib.hid h2
    clear hf hg h1 h2
    go_wp2
    go_region
    all_goals
     go_wp2
     go_ret2
     exact ⟨by rw [H1.out,H2.out,str_from,str_upto];rfl,(btr hb hb1).drew⟩
  ·obtain rfl:k=l.length:=by omega
   obtain ⟨h1,h2⟩:=tw_of hf.out (Or.inl rfl)
   have H1:=Lib.hid h1
   have H2:=Lib.hid h2
   have g1:(0:Int)≤(l.length:Int):=by omega
   clear hf h1 h2
   go_wp2
   go_region
   all_goals
    go_wp2
    go_ret2
    exact ⟨by rw [H1.out,H2.out,List.take_length,List.drop_length,str_from,List.drop_zero];rfl,hb.drew⟩
end Go.Proofs.YteikncnldbdfmaaGreatDoor
namespace Go.Proofs.YteikncnldbdfmaaGreatDoor
open Go.RowKit Go.Mh
abbrev IsBld (B b:Nat) (l:Bs) (w:World):Prop:=Lib.IsBuilder 177 5 B b (Lib.byteCells l) w
theorem bldInfo:(Tryz.prog.info? 5).map (fun i=>(i.zero,i.size,i.bytes))=some (some (.int .u8 0),1,1):=by kernel_rfl
theorem bldSize:(Tryz.prog.info? 177).map (fun i=>i.size)=some 2:=by kernel_rfl
theorem bldLies:liesAt Tryz.prog Tryz.prog.depth 177 (2 / Tryz.prog.cellsOf 177) 0 177 1=true:=by kernel_rfl
set_option maxHeartbeats 400000 in
set_option maxRecDepth 100000 in
theorem copyCheck_used (b:Nat) (w:World) (h0:w.cell? ⟨b,0,none⟩=some (.pointer (some ⟨b,0,none⟩))) :
  Calls Tryz.prog 183 #[.pointer (some ⟨b,0,none⟩)] w fun e w'=>e=.returned (.tuple #[])∧w'=w:=by
 obtain ⟨j,hj,_⟩:=Option.map_eq_some_iff.1 bldSize
 go_enter Tryz.func183,Tryz.ntmps183
 go_wp2
 rw [Lib.run_neq_ptr_same w _ Tryz.underlying175 hj]
 go_wp2
 go_end0
 exact ⟨rfl,rfl⟩
set_option maxHeartbeats 400000 in
set_option maxRecDepth 100000 in
theorem copyCheck_fresh (b:Nat) (w:World) (h0:w.cell? ⟨b,0,none⟩=some (.pointer none)) (hsh:w.shape? b=some (177,2)) (hfz:w.frozen? ⟨b,0,none⟩=false) :
  Calls Tryz.prog 183 #[.pointer (some ⟨b,0,none⟩)] w fun e w'=>e=.returned (.tuple #[])∧w'=w.setCell ⟨b,0,none⟩ (.pointer (some ⟨b,0,none⟩)):=by
 obtain ⟨j,hj,hjs⟩:=Option.map_eq_some_iff.1 bldSize
 go_enter Tryz.func183,Tryz.ntmps183
 go_wp2
 rw [Lib.run_to_unsafe w ⟨b,0,none⟩ Tryz.underlying175 Tryz.underlying245 hj (by rw [hjs];decide) hsh (Nat.zero_lt_succ 1)]
 simp only [Result.andThen]
 rw [Oper.upon_value]
 go_wp2
 rw [run_callFunc_extern Tryz.func211 (by kernel_rfl) (by kernel_rfl) (by kernel_rfl) (e:=Extern.AbiNoEscape.same) (by kernel_rfl)]
 rw [Lib.run_noEscape]
 simp only [Result.andThen]
 rw [Oper.upon_value]
 go_wp2
 rw [Lib.run_from_unsafe w ⟨b,0,none⟩ Tryz.underlying245 Tryz.underlying175 hj hsh bldLies]
 simp only [Result.andThen]
 rw [Oper.upon_value]
 go_wp2
 go_end0
 exact ⟨rfl,rfl⟩
theorem copyCheck_any (B b:Nat) (bs:List Value) (w:World) (h:Lib.IsBuilder 177 5 B b bs w) :
  Calls Tryz.prog 183 #[.pointer (some ⟨b,0,none⟩)] w fun e w'=>e=.returned (.tuple #[])∧(Lib.BuilderAt 177 5 B b (.pointer (some ⟨b,0,none⟩)) bs w'∧Below B w w'):=by
 rcases h with h | h
 ·refine (copyCheck_fresh b w h.cell0 h.shape h.frozen0).mono ?_
  rintro e w' ⟨rfl,rfl⟩
  exact ⟨rfl,h.used _,(Below.refl B w).setCell (p:=⟨b,0,none⟩) h.1 _⟩
 ·refine (copyCheck_used b w h.cell0).mono ?_
  rintro e w' ⟨rfl,rfl⟩
  exact ⟨rfl,h,Below.refl B _⟩
set_option maxHeartbeats 1000000 in
set_option maxRecDepth 100000 in
theorem bld_WriteByte (B b:Nat) (l:Bs) (c:UInt8) (w:World) (h:IsBld B b l w) (hlen:l.length+1≤140737488355328) (hBw:B≤w.heap.size) :
  Calls Tryz.prog 172 #[.pointer (some ⟨b,0,none⟩),.int .u8 c.toNat] w fun e w'=>e=.returned .nilIface∧IsBld B b (l ++ [c]) w'∧Below B w w':=by
 obtain ⟨i0,hi,hz0,hz1,hz2⟩:=info_parts bldInfo
 have hll:Hid ((Lib.byteCells l).length=l.length):=by show (Lib.byteCells l).length=l.length;simp [Lib.byteCells]
 go_enter Tryz.func172,Tryz.ntmps172
 go_wp2_with (go_at_call 183;refine (copyCheck_any B b _ _ h).mono ?_)
 rintro e w1 ⟨rfl,h1,hb1⟩
 obtain ⟨hB,v,hbk,hown,hne⟩:=h1
 have c0:w1.cell? ⟨b,0,none⟩=some (.pointer (some ⟨b,0,none⟩)):=by rw [Lib.cell_of_heap hbk];rfl
 have c1:w1.cell? ⟨b,1,none⟩=some v:=by rw [Lib.cell_of_heap hbk];rfl
 go_wp2_with (at_builtin;refine wpList_append_own _ rfl _ _ 41 rfl B 5 i0 (.int .u8 0) 1 1 Tryz.underlying41 hi hz0 hz1 hz2 rfl (by decide) _ _ _ rfl (hown.alloc _) ⟨w1.heap.size,0,none⟩ 1 1 [.int .u8 c.toNat] rfl rfl ?c1 ?c2 ?c3 ?c4 ?c5 ?_)
 case c1 =>
  intro j u hj
  match j,hj with
  | 0,hj=>simp at hj;subst hj;simp [Addr.add]
 case c2=>intro u hu;simp at hu;subst hu;rfl
 case c3=>have:=hll.out;unfold maxLen;omega
 case c4=>have:=hll.out;omega
 case c5=>have:=hb1.size;simp;omega
 intro v' w2 hown' hgrow _
 have hlt:b < w1.heap.size:=by
  rcases Nat.lt_or_ge b w1.heap.size with h' | h'
  ·exact h'
  ·simp [Array.getElem?_eq_none h'] at hbk
 have hb2:w2.heap[b]?=some (.cells #[.pointer (some ⟨b,0,none⟩),v] 177 (0,0)):=by
  rw [hgrow.block b (by simp;omega) (fun e=>hne e.symm),Lib.alloc_old w1 _ b hlt]
  exact hbk
 have d0:w2.cell? ⟨b,0,none⟩=some (.pointer (some ⟨b,0,none⟩)):=by rw [Lib.cell_of_heap hb2];rfl
 have d1:w2.cell? ⟨b,1,none⟩=some v:=by rw [Lib.cell_of_heap hb2];rfl
 have f1:w2.frozen? ⟨b,1,none⟩=false:=Lib.frozen_of_heap hb2 1
 obtain ⟨g,cap,rfl⟩:∃ g cap,v'=.slice (some ⟨g,0,none⟩) ((Lib.byteCells l).length+1) cap:=by
  rcases hown'.2 with ⟨_,h0⟩ | ⟨g,cap,cur,hv,_⟩
  ·omega
  ·exact ⟨g,cap,hv⟩
 clear hll
 go_wp2
 go_ret
 refine ⟨rfl,Or.inr ?_, ?_⟩
 ·have e1:Lib.byteCells (l ++ [c])=Lib.byteCells l ++ [.int .u8 c.toNat]:=by simp [Lib.byteCells]
  exact Lib.BuilderAt.put (T:=177) (e:=5) hB hb2 (bs':=Lib.byteCells (l ++ [c])) (by rw [e1,List.length_append];exact hown') (by decide)
 ·exact ((hb1.alloc (by have:=hb1.size;omega) _).grown hgrow (by have:=hb1.size;simp;omega) (fun k hk=>(hown.lt k hk).1)).setCell (p:=⟨b,1,none⟩) hB _
set_option maxHeartbeats 1000000 in
set_option maxRecDepth 100000 in
theorem bld_WriteString (B b:Nat) (l:Bs) (s:ByteArray) (w:World) (h:IsBld B b l w) (hlen:l.length+s.size≤140737488355328) (hBw:B≤w.heap.size) :
  Calls Tryz.prog 127 #[.pointer (some ⟨b,0,none⟩),.string s] w fun e w'=>e=.returned (.tuple #[.int .i64 s.size,.nilIface])∧IsBld B b (l ++ s.data.toList) w'∧Below B w w':=by
 obtain ⟨i0,hi,hz0,hz1,hz2⟩:=info_parts bldInfo
 have hll:Hid ((Lib.byteCells l).length=l.length):=by show (Lib.byteCells l).length=l.length;simp [Lib.byteCells]
 go_enter Tryz.func127,Tryz.ntmps127
 go_wp2_with (go_at_call 183;refine (copyCheck_any B b _ _ h).mono ?_)
 rintro e w1 ⟨rfl,h1,hb1⟩
 obtain ⟨hB,v,hbk,hown,hne⟩:=h1
 have c0:w1.cell? ⟨b,0,none⟩=some (.pointer (some ⟨b,0,none⟩)):=by rw [Lib.cell_of_heap hbk];rfl
 have c1:w1.cell? ⟨b,1,none⟩=some v:=by rw [Lib.cell_of_heap hbk];rfl
 go_wp2_with (at_builtin;refine Lib.wpList_append_own_string _ rfl _ _ 41 9 rfl B 5 i0 Tryz.underlying41 Tryz.underlying9 hi hz0 hz1 hz2 _ _ _ rfl hown s rfl ?c3 ?c4 ?c5 ?_)
 case c3=>have:=hll.out;unfold maxLen;omega
 case c4=>have:=hll.out;omega
 case c5=>have:=hb1.size;omega
 intro v' w2 hown' hgrow _
 have hlt:b < w1.heap.size:=by
  rcases Nat.lt_or_ge b w1.heap.size with h' | h'
  ·exact h'
  ·simp [Array.getElem?_eq_none h'] at hbk
 have hb2:w2.heap[b]?=some (.cells #[.pointer (some ⟨b,0,none⟩),v] 177 (0,0)):=by
  rw [hgrow.block b hlt (fun e=>hne e.symm)]
  exact hbk
 have d0:w2.cell? ⟨b,0,none⟩=some (.pointer (some ⟨b,0,none⟩)):=by rw [Lib.cell_of_heap hb2];rfl
 have d1:w2.cell? ⟨b,1,none⟩=some v:=by rw [Lib.cell_of_heap hb2];rfl
 have f1:w2.frozen? ⟨b,1,none⟩=false:=Lib.frozen_of_heap hb2 1
 obtain ⟨ao,n',cap,rfl⟩:∃ ao n' cap,v'=.slice ao n' cap:=by
  rcases hown'.2 with ⟨hv,_⟩ | ⟨g,cap,cur,hv,_⟩
  ·exact ⟨_,_,_,hv⟩
  ·exact ⟨_,_,_,hv⟩
 clear hll
 go_wp2
 go_ret2
 refine ⟨rfl,Or.inr ?_, ?_⟩
 ·have e1:Lib.byteCells (l ++ s.data.toList)=Lib.byteCells l ++ Lib.strCells s:=by simp [Lib.byteCells,Lib.strCells]
  have:=Lib.BuilderAt.put (T:=177) (e:=5) hB hb2 (bs':=Lib.byteCells (l ++ s.data.toList)) (by rw [e1];simpa [Lib.strCells_length] using hown') (by decide)
  exact this
 ·exact (hb1.grown hgrow (by have:=hb1.size;omega) (fun k hk=>(hown.lt k hk).1)).setCell (p:=⟨b,1,none⟩) hB _
theorem bld_String (B b:Nat) (l:Bs) (w:World) (h:IsBld B b l w) (hBw:B≤w.heap.size) :
  Calls Tryz.prog 130 #[.pointer (some ⟨b,0,none⟩)] w fun e w'=>e=.returned (str l)∧Below B w w':=Tryz.Builder_String_any B b l w h hBw
end Go.Proofs.YteikncnldbdfmaaGreatDoor
namespace Go.Mh
open Go.RowKit
theorem first_1 {c:UInt8} {r:Bs} (h:eAmp.isPrefixOf (c :: r)=true):readE (c :: r)=38 :: readE ((c :: r).drop 5):=by
 rw [readE_cons,first1,if_pos h];rfl
theorem first_2 {c:UInt8} {r:Bs} (h1:eAmp.isPrefixOf (c :: r)=false) (h:eLt.isPrefixOf (c :: r)=true):readE (c :: r)=60 :: readE ((c :: r).drop 4):=by
 rw [readE_cons,first1,if_neg (by rw [h1];simp),if_pos h];rfl
theorem first_3 {c:UInt8} {r:Bs} (h1:eAmp.isPrefixOf (c :: r)=false) (h2:eLt.isPrefixOf (c :: r)=false) (h:eGt.isPrefixOf (c :: r)=true):readE (c :: r)=62 :: readE ((c :: r).drop 4):=by
 rw [readE_cons,first1,if_neg (by rw [h1];simp),if_neg (by rw [h2];simp),if_pos h];rfl
theorem first_4 {c:UInt8} {r:Bs} (h1:eAmp.isPrefixOf (c :: r)=false) (h2:eLt.isPrefixOf (c :: r)=false) (h3:eGt.isPrefixOf (c :: r)=false) (h:eQuot.isPrefixOf (c :: r)=true):readE (c :: r)=34 :: readE ((c :: r).drop 6):=by
 rw [readE_cons,first1,if_neg (by rw [h1];simp),if_neg (by rw [h2];simp),if_neg (by rw [h3];simp),if_pos h];rfl
theorem first_5 {c:UInt8} {r:Bs} (h1:eAmp.isPrefixOf (c :: r)=false) (h2:eLt.isPrefixOf (c :: r)=false) (h3:eGt.isPrefixOf (c :: r)=false) (h4:eQuot.isPrefixOf (c :: r)=false):readE (c :: r)=c :: readE r:=by
 rw [readE_cons,first1,if_neg (by rw [h1];simp),if_neg (by rw [h2];simp),if_neg (by rw [h3];simp),if_neg (by rw [h4];simp)];rfl
def readP (l:Bs):Bs × Int:=if 120000 < l.length then ([],2) else (readE l,0)
end Go.Mh
namespace Go.Proofs.YteikncnldbdfmaaGreatDoor
open Go.RowKit Go.Mh
theorem IsBld.below {B b:Nat} {l:Bs} {w w':World} (h:IsBld B b l w) (hb:Below w.heap.size w w'):IsBld B b l w':=by
 rcases h with ⟨hB,v,h1,h2,h3⟩ | ⟨hB,v,h1,h2,h3⟩
 ·exact Or.inl ⟨hB,v,(hb.block b (lt_of_heap h1)).trans h1,ownsRow_below h2 (fun k hk=>hb.block k (h2.lt k hk).2),h3⟩
 ·exact Or.inr ⟨hB,v,(hb.block b (lt_of_heap h1)).trans h1,ownsRow_below h2 (fun k hk=>hb.block k (h2.lt k hk).2),h3⟩
theorem IsBld.new (w:World):IsBld w.heap.size w.heap.size [] (w.alloc (.cells #[.pointer none,.slice none 0 0] 177)):=
 Or.inl ⟨Nat.le_refl _,.slice none 0 0,heap_new _ _,World.ownsRow_nil _ _ _ _,by simp [Value.ownBlock]⟩
theorem pairs_at0 (w:World):(Instr.index 216 (.agg #[.string ⟨#[38]⟩,.string ⟨#[38,97,109,112,59]⟩,.string ⟨#[60]⟩,.string ⟨#[38,108,116,59]⟩,.string ⟨#[62]⟩,.string ⟨#[38,103,116,59]⟩,.string ⟨#[34]⟩,.string ⟨#[38,113,117,111,116,59]⟩]) (.int .i64 0)).run Tryz.prog w=.ok (.agg #[.string ⟨#[38]⟩,.string ⟨#[38,97,109,112,59]⟩]) w:=by
 simp [Instr.index,run_underlying Tryz.underlying216,asIntOf,go_sem]
theorem pairs_at1 (w:World):(Instr.index 216 (.agg #[.string ⟨#[38]⟩,.string ⟨#[38,97,109,112,59]⟩,.string ⟨#[60]⟩,.string ⟨#[38,108,116,59]⟩,.string ⟨#[62]⟩,.string ⟨#[38,103,116,59]⟩,.string ⟨#[34]⟩,.string ⟨#[38,113,117,111,116,59]⟩]) (.int .i64 1)).run Tryz.prog w=.ok (.agg #[.string ⟨#[60]⟩,.string ⟨#[38,108,116,59]⟩]) w:=by
 simp [Instr.index,run_underlying Tryz.underlying216,asIntOf,go_sem]
theorem pairs_at2 (w:World):(Instr.index 216 (.agg #[.string ⟨#[38]⟩,.string ⟨#[38,97,109,112,59]⟩,.string ⟨#[60]⟩,.string ⟨#[38,108,116,59]⟩,.string ⟨#[62]⟩,.string ⟨#[38,103,116,59]⟩,.string ⟨#[34]⟩,.string ⟨#[38,113,117,111,116,59]⟩]) (.int .i64 2)).run Tryz.prog w=.ok (.agg #[.string ⟨#[62]⟩,.string ⟨#[38,103,116,59]⟩]) w:=by
 simp [Instr.index,run_underlying Tryz.underlying216,asIntOf,go_sem]
theorem pairs_at3 (w:World):(Instr.index 216 (.agg #[.string ⟨#[38]⟩,.string ⟨#[38,97,109,112,59]⟩,.string ⟨#[60]⟩,.string ⟨#[38,108,116,59]⟩,.string ⟨#[62]⟩,.string ⟨#[38,103,116,59]⟩,.string ⟨#[34]⟩,.string ⟨#[38,113,117,111,116,59]⟩]) (.int .i64 3)).run Tryz.prog w=.ok (.agg #[.string ⟨#[34]⟩,.string ⟨#[38,113,117,111,116,59]⟩]) w:=by
 simp [Instr.index,run_underlying Tryz.underlying216,asIntOf,go_sem]
set_option maxHeartbeats 1000000 in
theorem pairs_any (w:World) :
  Calls Tryz.prog 170 #[] w fun e w'=>e=.returned (.agg #[.string ⟨#[38]⟩,.string ⟨#[38,97,109,112,59]⟩,.string ⟨#[60]⟩,.string ⟨#[38,108,116,59]⟩,.string ⟨#[62]⟩,.string ⟨#[38,103,116,59]⟩,.string ⟨#[34]⟩,.string ⟨#[38,113,117,111,116,59]⟩])∧Below w.heap.size w w':=by
 go_enter Tryz.func170,Tryz.ntmps170
 go_wp2
 exact bodyPost_ret (v:=.agg #[.string ⟨#[38]⟩,.string ⟨#[38,97,109,112,59]⟩,.string ⟨#[60]⟩,.string ⟨#[38,108,116,59]⟩,.string ⟨#[62]⟩,.string ⟨#[38,103,116,59]⟩,.string ⟨#[34]⟩,.string ⟨#[38,113,117,111,116,59]⟩]) (by simp [results,Tryz.results170,go_sem]) rfl ⟨rfl,(Below.refl _ _).alloc (Nat.le_refl _) _⟩
set_option maxRecDepth 100000 in
set_option maxHeartbeats 8000000 in
theorem escRead_any (l:Bs) (w:World) (_:l.length≤maxLen) :
  Calls Tryz.prog 119 #[str l] w fun e w'=>e=.returned (.tuple #[str (readP l).1,.int .i64 (readP l).2])∧Below w.heap.size w w':=by
 go_enter Tryz.func119,Tryz.ntmps119
 by_cases hlong:120000 < l.length
 ·have hr:readP l=([],2):=if_pos hlong
  have hR:=Lib.hid hr
  have d1:decide ((120000:Int) < (l.length:Int))=true:=by simp;omega
  have d2:decide (120000 < l.length)=true:=by simpa using hlong
  clear hlong hr
  go_wp2
  go_step3
  go_wp2
  rw [Exit.noGoto_ret]
  go_ret2
  exact ⟨by rw [hR.out];rfl,brf _⟩
 ·have hR:=Lib.hid (show readP l=(readE l,0) from if_neg hlong)
  have d1:decide ((120000:Int) < (l.length:Int))=false:=by simp;omega
  have d2:decide (120000 < l.length)=false:=by simpa using hlong
  have hl12:l.length≤120000:=by omega
  clear hlong
  go_wp2
  go_step3
  go_wp2
  go_step3
  go_wp2
  clear d1 d2
  go_loopw [0] (fun sv wr=>∃ s out,sv=str s∧out.length+s.length≤l.length∧Hid (readE l=out ++ readE s)∧IsBld w.heap.size w.heap.size out wr∧Below w.heap.size w wr) (fun sv _=>szOf sv)
  case atStart=>exact ⟨l,[],rfl,by simp,Lib.hid rfl,IsBld.new w,bal (brf w) _⟩
  case round =>
   obtain ⟨s,out,rfl,hlen,hf,hbl,hb⟩:=hrel
   cases s with
   | nil =>
    have hfin:readE l=out:=by rw [hf.out];simp [readE,readS]
    clear hf
    go_wp2_with fail
    refine (bld_String _ _ out wr hbl hb.size).mono ?_
    rintro e w1 ⟨rfl,hb1⟩
    have hfin:=Lib.hid hfin
    go_wp2
    rw [Exit.noGoto_ret]
    go_ret2
    exact ⟨by rw [hR.out,hfin.out];rfl,hb.trans hb1⟩
   | cons c r =>
    have H:=Lib.hid hbl
    clear hbl
    have i0:=pairs_at0
    have i1:=pairs_at1
    have i2:=pairs_at2
    have i3:=pairs_at3
    go_wp2_with fail
    refine (pairs_any wr).mono ?_
    rintro e w1 ⟨rfl,hb1⟩
    go_wp2
    refine wp_loop_rounds 5 ?_
    rw [rounds_succ]
    go_wp2_with fail
    refine (Tryz.strings_CutPrefix ⟨(c :: r).toArray⟩ ⟨#[38,97,109,112,59]⟩ _).mono ?_
    rintro e w2 ⟨rfl,hw2⟩
    rw [show Lib.trimPrefix (⟨(c :: r).toArray⟩:ByteArray).data.toList (⟨#[38,97,109,112,59]⟩:ByteArray).data.toList=if eAmp.isPrefixOf (c :: r)=true then (c :: r).drop 5 else c :: r from rfl,show Lib.hasPrefix (⟨(c :: r).toArray⟩:ByteArray).data.toList (⟨#[38,97,109,112,59]⟩:ByteArray).data.toList=eAmp.isPrefixOf (c :: r) from rfl]
    have hbw0:Below wr.heap.size wr w2:=by rw [hw2];exact (bal hb1 _)
    subst hw2
    cases h1:eAmp.isPrefixOf (c :: r) with
    | true =>
     rw [if_pos rfl]
     have hnx:Hid (readE l=(out ++ [38]) ++ readE ((c :: r).drop 5)):=Lib.hid (by rw [hf.out,first_1 h1];simp)
     clear hf h1
     go_wp2_with fail
     refine (bld_WriteString _ _ out ⟨#[38]⟩ _ (IsBld.below H.out hbw0) (by show out.length+1≤140737488355328;simp at hlen;omega) (Nat.le_trans hb.size hbw0.size)).mono ?_
     rintro e w3 ⟨rfl,hbl3,hb3⟩
     go_wp2
     go_roundw
     case rel=>exact ⟨(c :: r).drop 5,out ++ [38],rfl,by simp at hlen ⊢;omega,hnx,hbl3,(btr hb hbw0).trans hb3⟩
     case measure=>rw [szOf_str,szOf_str];simp;omega
    | false =>
     rw [if_neg (by simp)]
     go_wp2
     rw [rounds_succ]
     go_wp2_with fail
     refine (Tryz.strings_CutPrefix ⟨(c :: r).toArray⟩ ⟨#[38,108,116,59]⟩ _).mono ?_
     rintro e w2 ⟨rfl,hw2⟩
     rw [show Lib.trimPrefix (⟨(c :: r).toArray⟩:ByteArray).data.toList (⟨#[38,108,116,59]⟩:ByteArray).data.toList=if eLt.isPrefixOf (c :: r)=true then (c :: r).drop 4 else c :: r from rfl,show Lib.hasPrefix (⟨(c :: r).toArray⟩:ByteArray).data.toList (⟨#[38,108,116,59]⟩:ByteArray).data.toList=eLt.isPrefixOf (c :: r) from rfl]
     have hbw1:Below wr.heap.size wr w2:=by rw [hw2];exact (bal (bal hb1 _) _)
     subst hw2
     cases h2:eLt.isPrefixOf (c :: r) with
     | true =>
      rw [if_pos rfl]
      have hnx:Hid (readE l=(out ++ [60]) ++ readE ((c :: r).drop 4)):=Lib.hid (by rw [hf.out,first_2 h1 h2];simp)
      clear hf h1 h2
      go_wp2_with fail
      refine (bld_WriteString _ _ out ⟨#[60]⟩ _ (IsBld.below H.out hbw1) (by show out.length+1≤140737488355328;simp at hlen;omega) (Nat.le_trans hb.size hbw1.size)).mono ?_
      rintro e w3 ⟨rfl,hbl3,hb3⟩
      go_wp2
      go_roundw
      case rel=>exact ⟨(c :: r).drop 4,out ++ [60],rfl,by simp at hlen ⊢;omega,hnx,hbl3,(btr hb hbw1).trans hb3⟩
      case measure=>rw [szOf_str,szOf_str];simp;omega
     | false =>
      rw [if_neg (by simp)]
      go_wp2
      rw [rounds_succ]
      go_wp2_with fail
      refine (Tryz.strings_CutPrefix ⟨(c :: r).toArray⟩ ⟨#[38,103,116,59]⟩ _).mono ?_
      rintro e w2 ⟨rfl,hw2⟩
      rw [show Lib.trimPrefix (⟨(c :: r).toArray⟩:ByteArray).data.toList (⟨#[38,103,116,59]⟩:ByteArray).data.toList=if eGt.isPrefixOf (c :: r)=true then (c :: r).drop 4 else c :: r from rfl,show Lib.hasPrefix (⟨(c :: r).toArray⟩:ByteArray).data.toList (⟨#[38,103,116,59]⟩:ByteArray).data.toList=eGt.isPrefixOf (c :: r) from rfl]
      have hbw2:Below wr.heap.size wr w2:=by rw [hw2];exact (bal (bal (bal hb1 _) _) _)
      subst hw2
      cases h3:eGt.isPrefixOf (c :: r) with
      | true =>
       rw [if_pos rfl]
       have hnx:Hid (readE l=(out ++ [62]) ++ readE ((c :: r).drop 4)):=Lib.hid (by rw [hf.out,first_3 h1 h2 h3];simp)
       clear hf h1 h2 h3
       go_wp2_with fail
       refine (bld_WriteString _ _ out ⟨#[62]⟩ _ (IsBld.below H.out hbw2) (by show out.length+1≤140737488355328;simp at hlen;omega) (Nat.le_trans hb.size hbw2.size)).mono ?_
       rintro e w3 ⟨rfl,hbl3,hb3⟩
       go_wp2
       go_roundw
       case rel=>exact ⟨(c :: r).drop 4,out ++ [62],rfl,by simp at hlen ⊢;omega,hnx,hbl3,(btr hb hbw2).trans hb3⟩
       case measure=>rw [szOf_str,szOf_str];simp;omega
      | false =>
       rw [if_neg (by simp)]
       go_wp2
       rw [rounds_succ]
       go_wp2_with fail
       refine (Tryz.strings_CutPrefix ⟨(c :: r).toArray⟩ ⟨#[38,113,117,111,116,59]⟩ _).mono ?_
       rintro e w2 ⟨rfl,hw2⟩
       rw [show Lib.trimPrefix (⟨(c :: r).toArray⟩:ByteArray).data.toList (⟨#[38,113,117,111,116,59]⟩:ByteArray).data.toList=if eQuot.isPrefixOf (c :: r)=true then (c :: r).drop 6 else c :: r from rfl,show Lib.hasPrefix (⟨(c :: r).toArray⟩:ByteArray).data.toList (⟨#[38,113,117,111,116,59]⟩:ByteArray).data.toList=eQuot.isPrefixOf (c :: r) from rfl]
       have hbw3:Below wr.heap.size wr w2:=by rw [hw2];exact (bal (bal (bal (bal hb1 _) _) _) _)
       subst hw2
       cases h4:eQuot.isPrefixOf (c :: r) with
       | true =>
        rw [if_pos rfl]
        have hnx:Hid (readE l=(out ++ [34]) ++ readE ((c :: r).drop 6)):=Lib.hid (by rw [hf.out,first_4 h1 h2 h3 h4];simp)
        clear hf h1 h2 h3 h4
        go_wp2_with fail
        refine (bld_WriteString _ _ out ⟨#[34]⟩ _ (IsBld.below H.out hbw3) (by show out.length+1≤140737488355328;simp at hlen;omega) (Nat.le_trans hb.size hbw3.size)).mono ?_
        rintro e w3 ⟨rfl,hbl3,hb3⟩
        go_wp2
        go_roundw
        case rel=>exact ⟨(c :: r).drop 6,out ++ [34],rfl,by simp at hlen ⊢;omega,hnx,hbl3,(btr hb hbw3).trans hb3⟩
        case measure=>rw [szOf_str,szOf_str];simp;omega
       | false =>
        rw [if_neg (by simp)]
        go_wp2
        rw [rounds_succ]
        have hg:∀ hk,(⟨(c :: r).toArray⟩:ByteArray)[0]'hk=c:=str_get rfl
        have h1le:(1:Int)≤(r.length:Int)+1:=by omega
        have hnx:Hid (readE l=(out ++ [c]) ++ readE r):=Lib.hid (by rw [hf.out,first_5 h1 h2 h3 h4];simp)
        clear hf h1 h2 h3 h4
        go_wp2_with fail
        refine (bld_WriteByte _ _ out c _ (IsBld.below H.out hbw3) (by simp at hlen;omega) (Nat.le_trans hb.size hbw3.size)).mono ?_
        rintro e w3 ⟨rfl,hbl3,hb3⟩
        go_wp2
        go_roundw
        case rel=>exact ⟨r,out ++ [c],str_tail c r,by simp at hlen ⊢;omega,hnx,hbl3,(btr hb hbw3).trans hb3⟩
        case measure=>rw [str_tail,szOf_str,szOf_str];simp
end Go.Proofs.YteikncnldbdfmaaGreatDoor
namespace Go.Proofs.YteikncnldbdfmaaGreatDoor
open Go.RowKit Go.Mh
theorem info_ascii:(Tryz.prog.info? 238).map (fun i=>(i.zero,i.size))=some (some (.agg (Array.replicate 256 (.bool false))),256):=by kernel_rfl
end Go.Proofs.YteikncnldbdfmaaGreatDoor
namespace Go.Mh
def cleanP (l:Bs):Bs × Int:=if 20000 < l.length then ([],2) else (cleanT l,0)
def rdw (p:UInt8→Bool) (l:Bs):Bs:=(l.reverse.dropWhile p).reverse
theorem rdw_cons (p:UInt8→Bool) (x:UInt8) (l:Bs):rdw p (x :: l)=if (rdw p l).isEmpty=true then (if p x=true then [] else [x]) else x :: rdw p l:=by
 unfold rdw
 rw [List.reverse_cons,List.dropWhile_append]
 by_cases h:(l.reverse.dropWhile p).isEmpty=true
 ·have h2:((l.reverse.dropWhile p).reverse).isEmpty=true:=by simpa using h
  rw [if_pos h,if_pos h2]
  by_cases hp:p x=true
  ·simp [hp]
  ·simp [hp]
 ·have h2:¬ ((l.reverse.dropWhile p).reverse).isEmpty=true:=by simpa using h
  rw [if_neg h,if_neg h2]
  simp
theorem trim_comm (p:UInt8→Bool):∀ l:Bs,rdw p (l.dropWhile p)=(rdw p l).dropWhile p
 | []=>rfl
 | x :: l=>by
  have ih:=trim_comm p l
  by_cases hp:p x=true
  ·rw [List.dropWhile_cons,if_pos hp,ih,rdw_cons]
   by_cases he:(rdw p l).isEmpty=true
   ·rw [if_pos he,if_pos hp]
    have:rdw p l=[]:=by simpa using he
    rw [this]
   ·rw [if_neg he,List.dropWhile_cons,if_pos hp]
  ·rw [List.dropWhile_cons,if_neg hp,rdw_cons]
   by_cases he:(rdw p l).isEmpty=true
   ·rw [if_pos he,if_neg hp,List.dropWhile_cons,if_neg hp]
   ·rw [if_neg he,List.dropWhile_cons,if_neg hp]
theorem trimS_eq (l:Bs):Lib.trimS l [32,9,13,10,12]=trimT l:=by
 have e:(fun b=>([32,9,13,10,12]:Bs).contains b)=tset:=by
  funext b
  unfold tset
  simp only [List.contains_cons,List.contains_nil,Bool.or_false,Bool.or_assoc]
 show ((rdw (fun b=>([32,9,13,10,12]:Bs).contains b) l).dropWhile (fun b=>([32,9,13,10,12]:Bs).contains b))=_
 rw [e,← trim_comm]
 rfl
end Go.Mh
namespace Go.Proofs.YteikncnldbdfmaaGreatDoor
open Go.RowKit Go.Mh
theorem trim_any (l:Bs) (w:World) (hl:l.length≤140737488355328) :
  Calls Tryz.prog 181 #[str l,.string ⟨#[32,9,13,10,12]⟩] w fun e w'=>e=.returned (str (trimT l))∧Below w.heap.size w w':=by
 rw [← trimS_eq]
 exact Any.strings_Trim_laid Tryz.lays160 info_ascii ⟨l.toArray⟩ ⟨#[32,9,13,10,12]⟩ w (by show l.length≤_;omega) (by decide) (ascii_of_all (by decide))
set_option maxHeartbeats 1000000 in
theorem clean_any (l:Bs) (w:World) :
  Calls Tryz.prog 125 #[str l] w fun e w'=>e=.returned (.tuple #[str (cleanP l).1,.int .i64 (cleanP l).2])∧Below w.heap.size w w':=by
 by_cases hlong:20000 < l.length
 ·have hR:=Lib.hid (show cleanP l=([],2) from if_pos hlong)
  go_enter Tryz.func125,Tryz.ntmps125
  go_wp2
  go_ret2
  exact ⟨by rw [hR.out];rfl,brf _⟩
 ·have hR:=Lib.hid (show cleanP l=(cleanT l,0) from if_neg hlong)
  have C:=Lib.hid (fun w'=>trim_any l w' (by omega))
  have hc:=Lib.hid (show cleanT l=if may (trimT l)=true then trimT l else [] from rfl)
  generalize trimT l=t at C hc
  go_enter Tryz.func125,Tryz.ntmps125
  go_wp2_with fail
  refine (C.out _).mono ?_
  rintro e w1 ⟨rfl,hb1⟩
  go_wp2_with fail
  refine (may_any _ _).mono ?_
  rintro e w2 ⟨rfl,hb2⟩
  cases hm:may t with
  | true =>
   go_wp2
   go_ret2
   exact ⟨by rw [hR.out,hc.out,if_pos hm];rfl,btr hb1 hb2⟩
  | false =>
   go_wp2
   go_ret2
   exact ⟨by rw [hR.out,hc.out,if_neg (by rw [hm];decide)];rfl,btr hb1 hb2⟩
theorem clean_p (l:Bs) (p:Bs × Int) (hp:cleanP l=p) (w:World) :
  Calls Tryz.prog 125 #[str l] w fun e w'=>e=.returned (.tuple #[str p.1,.int .i64 p.2])∧Below w.heap.size w w':=by
 subst hp;exact clean_any l w
end Go.Proofs.YteikncnldbdfmaaGreatDoor
