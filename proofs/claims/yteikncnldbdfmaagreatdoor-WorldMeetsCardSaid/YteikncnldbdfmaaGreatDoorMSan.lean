import Derived.Test.YteikncnldbdfmaaGreatDoorMTok
import Derived.Test.YteikncnldbdfmaaGreatDoorMMem
import Derived.Test.YteikncnldbdfmaaGreatDoorMDoc
import Derived.Test.YteikncnldbdfmaaGreatDoorMPl
import Derived.BigQuiet
import Derived.RegionTactic
import Derived.Deep.RegionLaw
import Derived.Deep.Cut
namespace Go.Mh
open Go.RowKit
def dcells (dv:Value) (k:Dk):Array Value:=#[dv,.int .i64 (k.from':Int),.int .i64 k.kind,.bool k.inn,.int .i64 k.bold,.int .i64 k.slant,str k.link,str k.gone]
def DAt (T e:TypeId) (B g:Nat) (w:World) (dv:Value) (k:Dk):Prop:=w.heap[g]?=some (.cells (dcells dv k) T (0,0))∧OwnS B e 3 RIt w dv k.d∧B≤g
theorem D8.of {w:World} {g:Nat} {x0 x1 x2 x3 x4 x5 x6 x7:Value} {e:TypeId} {fr:Nat × Nat} (h:w.heap[g]?=some (.cells #[x0,x1,x2,x3,x4,x5,x6,x7] e fr)) :
  w.cell? ⟨g,0,none⟩=some x0∧w.cell? ⟨g,1,none⟩=some x1∧w.cell? ⟨g,2,none⟩=some x2∧w.cell? ⟨g,3,none⟩=some x3∧w.cell? ⟨g,4,none⟩=some x4∧w.cell? ⟨g,5,none⟩=some x5∧w.cell? ⟨g,6,none⟩=some x6∧w.cell? ⟨g,7,none⟩=some x7:=by
 unfold World.cell?
 rw [h]
 exact ⟨rfl,rfl,rfl,rfl,rfl,rfl,rfl,rfl⟩
theorem DAt.below {T e:TypeId} {B g:Nat} {w w':World} {dv:Value} {k:Dk} (h:DAt T e B g w dv k) (hb:Below w.heap.size w w'):DAt T e B g w' dv k:=
 ⟨(hb.block g (Array.getElem?_eq_some_iff.1 h.1).1).trans h.1,h.2.1.below hb (fun _ _ _ r=>r),h.2.2⟩
theorem DAt.from {T e:TypeId} {B g:Nat} {w:World} {dv:Value} {k:Dk} (h:DAt T e B g w dv k) (hT:T≠e) (v:Nat):DAt T e B g (w.setCell ⟨g,1,none⟩ (.int .i64 (v:Int))) dv { k with from':=v }:=
 ⟨by rw [heap_setCell_same _ g 1 _ T _ h.1];rfl,h.2.1.to (fun b hb _=>heap_setCell_other _ _ _ _ (fun e'=>h.2.1.ne h.1 hT (by rw [hb,e']))) (fun _ _ _ r=>r),h.2.2⟩
theorem DAt.kind {T e:TypeId} {B g:Nat} {w:World} {dv:Value} {k:Dk} (h:DAt T e B g w dv k) (hT:T≠e) (v:Int):DAt T e B g (w.setCell ⟨g,2,none⟩ (.int .i64 v)) dv { k with kind:=v }:=
 ⟨by rw [heap_setCell_same _ g 2 _ T _ h.1];rfl,h.2.1.to (fun b hb _=>heap_setCell_other _ _ _ _ (fun e'=>h.2.1.ne h.1 hT (by rw [hb,e']))) (fun _ _ _ r=>r),h.2.2⟩
theorem DAt.inn {T e:TypeId} {B g:Nat} {w:World} {dv:Value} {k:Dk} (h:DAt T e B g w dv k) (hT:T≠e) (v:Bool):DAt T e B g (w.setCell ⟨g,3,none⟩ (.bool v)) dv { k with inn:=v }:=
 ⟨by rw [heap_setCell_same _ g 3 _ T _ h.1];rfl,h.2.1.to (fun b hb _=>heap_setCell_other _ _ _ _ (fun e'=>h.2.1.ne h.1 hT (by rw [hb,e']))) (fun _ _ _ r=>r),h.2.2⟩
theorem DAt.bold {T e:TypeId} {B g:Nat} {w:World} {dv:Value} {k:Dk} (h:DAt T e B g w dv k) (hT:T≠e) (v:Int):DAt T e B g (w.setCell ⟨g,4,none⟩ (.int .i64 v)) dv { k with bold:=v }:=
 ⟨by rw [heap_setCell_same _ g 4 _ T _ h.1];rfl,h.2.1.to (fun b hb _=>heap_setCell_other _ _ _ _ (fun e'=>h.2.1.ne h.1 hT (by rw [hb,e']))) (fun _ _ _ r=>r),h.2.2⟩
theorem DAt.slant {T e:TypeId} {B g:Nat} {w:World} {dv:Value} {k:Dk} (h:DAt T e B g w dv k) (hT:T≠e) (v:Int):DAt T e B g (w.setCell ⟨g,5,none⟩ (.int .i64 v)) dv { k with slant:=v }:=
 ⟨by rw [heap_setCell_same _ g 5 _ T _ h.1];rfl,h.2.1.to (fun b hb _=>heap_setCell_other _ _ _ _ (fun e'=>h.2.1.ne h.1 hT (by rw [hb,e']))) (fun _ _ _ r=>r),h.2.2⟩
theorem DAt.link {T e:TypeId} {B g:Nat} {w:World} {dv:Value} {k:Dk} (h:DAt T e B g w dv k) (hT:T≠e) (v:Bs):DAt T e B g (w.setCell ⟨g,6,none⟩ (str v)) dv { k with link:=v }:=
 ⟨by rw [heap_setCell_same _ g 6 _ T _ h.1];rfl,h.2.1.to (fun b hb _=>heap_setCell_other _ _ _ _ (fun e'=>h.2.1.ne h.1 hT (by rw [hb,e']))) (fun _ _ _ r=>r),h.2.2⟩
theorem DAt.gone {T e:TypeId} {B g:Nat} {w:World} {dv:Value} {k:Dk} (h:DAt T e B g w dv k) (hT:T≠e) (v:Bs):DAt T e B g (w.setCell ⟨g,7,none⟩ (str v)) dv { k with gone:=v }:=
 ⟨by rw [heap_setCell_same _ g 7 _ T _ h.1];rfl,h.2.1.to (fun b hb _=>heap_setCell_other _ _ _ _ (fun e'=>h.2.1.ne h.1 hT (by rw [hb,e']))) (fun _ _ _ r=>r),h.2.2⟩
theorem DAt.doc {T e:TypeId} {B g:Nat} {w:World} {dv dv':Value} {k:Dk} {D:List It} (h:w.heap[g]?=some (.cells (dcells dv k) T (0,0))) (ho:OwnS B e 3 RIt w dv' D) (hB:B≤g) (hT:T≠e):DAt T e B g (w.setCell ⟨g,0,none⟩ dv') dv' { k with d:=D }:=
 ⟨by rw [heap_setCell_same _ g 0 _ T _ h];rfl,ho.to (fun b hb _=>heap_setCell_other _ _ _ _ (fun e'=>ho.ne h hT (by rw [hb,e']))) (fun _ _ _ r=>r),hB⟩
end Go.Mh
namespace Go.Proofs.YteikncnldbdfmaaGreatDoor
open Go.RowKit Go.Mh
abbrev Dsk (B g:Nat) (w:World) (dv:Value) (k:Dk):Prop:=DAt 113 58 B g w dv k
theorem elDocS:El Tryz.prog 23 58 3 32 (.agg #[.int .u8 0,.int .i64 0,.string ⟨#[]⟩]):=⟨Tryz.underlying23,by kernel_rfl,rfl,by decide⟩
theorem tne:113≠58:=by decide
theorem step_desk {ops:Array Oper} {o:Oper} {a:Act} {w:World} {K:Act→World→Prop} {Q:Exit→Act→World→Prop} {E:Prop}
  (hg:o.guard=none) (s x:Operand) (hop:o.op=Op.call { callee:=Callee.builtin Builtin.append,args:=#[s,x],argTypes:=#[23,23] })
  (B g:Nat) (dv:Value) (k:Dk) (h:Dsk B g w dv k) (hB:B≤w.heap.size) (hl:k.d.length≤200000) (y:It) (cs:Array Value) (hcs:cs=#[.int .u8 y.c.toNat,.int .i64 y.m,str y.l]) (hs:a.eval s=dv) (hx:a.eval x=.slice (some ⟨w.heap.size,0,none⟩) 1 1)
  (hK:∀ a' c' w',w'.heap[g]?=some (.cells (dcells dv k) 113 (0,0))→OwnS B 58 3 RIt w' (.slice a' (k.d.length+1) c') (k.d ++ [y])→Below B w w'→(∀ j,j < w.heap.size→some j≠dv.ownBlock→w'.heap[j]?=w.heap[j]?)→K (a.put o.dst (.slice a' (k.d.length+1) c')) w') :
  if Region.wanted o (yielded ops a.tmps)=true then Oper.wp Tryz.prog o a (w.alloc (.cells cs 58)) K Q else E:=by
 subst hcs
 obtain ⟨hd,ho,hBg⟩:=h
 have hgl:=lt_of_heap hd
 have hb0:=bal (brf w) (.cells #[.int .u8 y.c.toNat,.int .i64 y.m,str y.l] 58)
 refine step_app hg s x 23 hop B 58 3 32 _ elDocS RIt dv k.d [y] hs (ho.below hb0 fun _ _ _ r=>r) (fun _=>True) _ hx
  (RItems.lit (n:=1) (cap:=1) (heap_new w _) rfl (by decide) (by decide) trivial (fun i z hi=>?_)) RIt_one (by simp [maxLen];omega) (by simp;omega) (by simp;omega) (fun _ _ _ _ _ r=>r) ?_
 ·match i,hi with
  | 0,hi=>simp at hi;subst hi;exact ⟨rfl,rfl,rfl⟩
 ·intro v' w' ho' hgrow hb'
  obtain ⟨a',c',rfl,_⟩:=RdS.len ho'.rd
  have hd2:w'.heap[g]?=some (.cells (dcells dv k) 113 (0,0)):=by
   rw [hgrow.block g (by simp;omega) (ho.ne hd tne),hb0.block g hgl];exact hd
  have e1:(k.d ++ [y]).length=k.d.length+1:=by simp
  rw [e1] at ho' ⊢
  exact hK a' c' w' hd2 ho' ((hb0.mono hB).trans hb') (fun j hj hne=>by rw [hgrow.block j (by simp;omega) hne,hb0.block j hj])
set_option maxRecDepth 100000 in
set_option maxHeartbeats 4000000 in
theorem end_any (B g:Nat) (dv:Value) (k:Dk) (w:World) (h:Dsk B g w dv k) (hB:B≤w.heap.size) (hl:k.d.length≤200000) :
  Calls Tryz.prog 73 #[.pointer (some ⟨g,0,none⟩)] w fun e w'=>e=.returned (.tuple #[])∧(∃ dv',Dsk B g w' dv' (endD k))∧Below B w w':=by
 obtain ⟨hd,ho,hBg⟩:=h
 obtain ⟨da,dc,rfl,_⟩:=RdS.len ho.rd
 obtain ⟨d,f,kind,inn,bold,slant,link,gone⟩:=k
 simp only at hl ho
 have hO:=Lib.hid ho
 have hD:=Lib.hid hd
 clear ho
 replace hd:w.heap[g]?=some (.cells #[.slice da d.length dc,.int .i64 (f:Int),.int .i64 kind,.bool inn,.int .i64 bold,.int .i64 slant,str link,str gone] 113 (0,0)):=hd
 obtain ⟨x0,x1,x2,x3,x4,x5,x6,x7⟩:=D8.of hd
 have hfz:∀ i,w.frozen? ⟨g,i,none⟩=false:=fun i=>Lib.frozen_of_heap hd _
 have hgl:g < w.heap.size:=lt_of_heap hd
 have hgn:¬ g=w.heap.size:=by omega
 clear hd
 by_cases hc:inn=true∨f < d.length
 ·have hE:=Lib.hid (show endD ⟨d,f,kind,inn,bold,slant,link,gone⟩=⟨d ++ [⟨10,kind,[]⟩],d.length+1,0,false,bold,slant,link,gone⟩ from if_pos hc)
  go_enter Tryz.func73,Tryz.ntmps73
  have hft:inn=false→decide ((f:Int) < (d.length:Int))=true∧decide (f < d.length)=true:=fun e=>by
   rcases hc with h | h
   ·rw [e] at h;cases h
   ·exact ⟨by simp;omega,by simp;omega⟩
  clear hc
  cases inn
  case' false=>obtain ⟨hf,hf'⟩:=hft rfl
  all_goals
   clear hft
   go_upto_region 0 with fail
   go_quiet (fail)
   go_upto_region 1 with fail
   have q0:∀ n o,((w.drewN n).alloc o).cell? ⟨g,0,none⟩=some (.slice da d.length dc):=fun n o=>(World.cell?_alloc_lt (w:=w.drewN n) (a:=⟨g,0,none⟩) (o:=o) hgl).trans x0
   go_region_law (refine step_desk (by rfl) (.tmp 22) (.tmp 28) (by rfl) B g (.slice da d.length dc) ⟨d,f,kind,_,bold,slant,link,gone⟩ (by exact ⟨hD.out,hO.out,hBg⟩) (by exact hB) hl ⟨10,kind,[]⟩ _ (by rfl) (by simp [Act.eval]) (by simp [Act.eval]) ?_;intro a2 c2 w2 hd2 ho2 hb2 _;obtain ⟨y0,y1,y2,y3,y4,y5,y6,y7⟩:=D8.of hd2;have fz2:∀ i,w2.frozen? ⟨g,i,none⟩=false:=fun i=>Lib.frozen_of_heap hd2 _)
  all_goals
   go_wp2
   go_end0
   rw [hE.out]
   have D0:=DAt.doc (k:=⟨d,f,kind,_,bold,slant,link,gone⟩) hd2 ho2 hBg tne
   have D1:=((D0.from tne (d.length+1)).inn tne false).kind tne 0
   have hb3:Below B w w2:=(bdrewN (Below.refl B w) (nq+1)).trans hb2
   refine ⟨rfl,⟨_,by simpa using D1⟩, ?_⟩
   exact (((hb3.setCell (p:=⟨g,0,none⟩) hBg _).setCell (p:=⟨g,1,none⟩) hBg _).setCell (p:=⟨g,3,none⟩) hBg _).setCell (p:=⟨g,2,none⟩) hBg _
 ·have hE:=Lib.hid (show endD ⟨d,f,kind,inn,bold,slant,link,gone⟩=⟨d,f,0,false,bold,slant,link,gone⟩ from if_neg hc)
  have hin:inn=false:=by cases inn;rfl;exact absurd (Or.inl rfl) hc
  have hf:decide ((f:Int) < (d.length:Int))=false:=by simp;omega
  have hf':decide (f < d.length)=false:=by simp;omega
  subst hin
  clear hc
  go_enter Tryz.func73,Tryz.ntmps73
  go_upto_region 0 with fail
  go_quiet (fail)
  go_wp2
  go_end0
  rw [hE.out]
  have h0:Dsk B g (w.drewN nq) (.slice da d.length dc) ⟨d,f,kind,false,bold,slant,link,gone⟩:=⟨hD.out,hO.out,hBg⟩
  exact ⟨rfl,⟨_,(h0.inn tne false).kind tne 0⟩,((bdrewN (Below.refl _ _) _).setCell (p:=⟨g,3,none⟩) hBg _).setCell (p:=⟨g,2,none⟩) hBg _⟩
end Go.Proofs.YteikncnldbdfmaaGreatDoor
namespace Go.Mh
def blockP (n:Bs):Int × Bool:=match blockOf n with
 | some b=>(b,true)
 | none=>(0,false)
def namesZ:List ByteArray:=[⟨nP.toArray⟩,⟨nH1.toArray⟩,⟨nLi.toArray⟩,⟨nH2.toArray⟩]
def hiddenZ:List ByteArray:=hiddenL.map fun l=>⟨l.toArray⟩
theorem ba_inj (a b:Bs):((⟨a.toArray⟩:ByteArray)=⟨b.toArray⟩)↔a=b:=⟨fun h=>by injection h with h;injection h,fun h=>by rw [h]⟩
end Go.Mh
namespace Go.Proofs.YteikncnldbdfmaaGreatDoor
open Go.RowKit Go.Mh
set_option maxRecDepth 100000 in
set_option maxHeartbeats 2000000 in
theorem sanBlock_of (n:Bs) (j:Int) (r:Int × Bool) (w:World) (hj:Lib.idxOfS (namesZ.take 4) ⟨n.toArray⟩=j) (hr:blockP n=r) (hd:(n == [100,105,118])=false) (h1:-1≤j) (h4:j≤3) (hr1:r=(if 0≤j then (j,true) else (0,false))) :
  Calls Tryz.prog 124 #[str n] w fun e w'=>e=.returned (.tuple #[.int .i64 (blockP n).1,.bool (blockP n).2])∧Below w.heap.size w w':=by
 have hcells:∀ j,j < namesZ.length→(w.alloc (.cells #[str nP,str nH1,str nLi,str nH2] 182)).cell? ⟨w.heap.size,0+j,none⟩=some (.string (namesZ.getD j ByteArray.empty)):=by
  intro j hj
  unfold World.cell?
  rw [heap_new]
  match j,hj with
  | 0,_=>rfl
  | 1,_=>rfl
  | 2,_=>rfl
  | 3,_=>rfl
 have C:=Lib.hid (Tryz.slices_Index_string w.heap.size 0 4 4 namesZ ⟨n.toArray⟩ _ (by decide) (by decide) hcells)
 have hR:=Lib.hid hr
 have hR1:=Lib.hid hr1
 clear hcells hr hr1
 go_enter Tryz.func124,Tryz.ntmps124
 go_wp2_with fail
 refine C.out.mono ?_
 rintro e w1 ⟨rfl,rfl⟩
 rw [hj]
 by_cases h0:0≤j
 ·have e1:decide (0≤j)=true:=by simpa using h0
  have e2:max j 0=j:=by omega
  have e3:(if j < 0 then (0:Int) else j)=j:=if_neg (by omega)
  have hfin:=Lib.hid (show blockP n=(j,true) by rw [hR.out,hR1.out,if_pos h0])
  clear h0
  go_wp2
  all_goals first
   | (go_ret2;exact ⟨by rw [hfin.out];first | (simp [*];done) | (simp [*];decide),bal (brf _) _⟩)
   | skip
 ·have e1:decide (0≤j)=false:=by simpa using h0
  have hj1:j=-1:=by omega
  subst hj1
  have hfin:=Lib.hid (show blockP n=(0,false) by rw [hR.out,hR1.out,if_neg h0])
  clear h0
  go_wp2
  all_goals first
   | (go_ret2;exact ⟨by rw [hfin.out];first | (simp [*];done) | (simp [*];decide),bal (brf _) _⟩)
   | skip
set_option maxRecDepth 100000 in
set_option maxHeartbeats 2000000 in
theorem sanBlock_div (w:World) :
  Calls Tryz.prog 124 #[str nDiv] w fun e w'=>e=.returned (.tuple #[.int .i64 (blockP nDiv).1,.bool (blockP nDiv).2])∧Below w.heap.size w w':=by
 have hcells:∀ j,j < namesZ.length→(w.alloc (.cells #[str nP,str nH1,str nLi,str nH2] 182)).cell? ⟨w.heap.size,0+j,none⟩=some (.string (namesZ.getD j ByteArray.empty)):=by
  intro j hj
  unfold World.cell?
  rw [heap_new]
  match j,hj with
  | 0,_=>rfl
  | 1,_=>rfl
  | 2,_=>rfl
  | 3,_=>rfl
 have C:=Lib.hid (Tryz.slices_Index_string w.heap.size 0 4 4 namesZ ⟨nDiv.toArray⟩ _ (by decide) (by decide) hcells)
 have hj:Lib.idxOfS (namesZ.take 4) ⟨nDiv.toArray⟩=-1:=by decide +kernel
 clear hcells
 go_enter Tryz.func124,Tryz.ntmps124
 go_wp2_with fail
 refine C.out.mono ?_
 rintro e w1 ⟨rfl,rfl⟩
 rw [hj]
 go_wp2
 go_ret2
 exact ⟨rfl,bal (brf _) _⟩
theorem sanBlock_any (n:Bs) (w:World) :
  Calls Tryz.prog 124 #[str n] w fun e w'=>e=.returned (.tuple #[.int .i64 (blockP n).1,.bool (blockP n).2])∧Below w.heap.size w w':=by
 by_cases h1:n=nP
 ·subst h1;exact sanBlock_of nP 0 (0,true) w (by decide +kernel) (by decide) (by decide) (by decide) (by decide) (by decide)
 by_cases h2:n=nH1
 ·subst h2;exact sanBlock_of nH1 1 (1,true) w (by decide +kernel) (by decide) (by decide) (by decide) (by decide) (by decide)
 by_cases h3:n=nLi
 ·subst h3;exact sanBlock_of nLi 2 (2,true) w (by decide +kernel) (by decide) (by decide) (by decide) (by decide) (by decide)
 by_cases h4:n=nH2
 ·subst h4;exact sanBlock_of nH2 3 (3,true) w (by decide +kernel) (by decide) (by decide) (by decide) (by decide) (by decide)
 by_cases h5:n=nDiv
 ·subst h5;exact sanBlock_div w
 ·refine sanBlock_of n (-1) (0,false) w (Lib.idxOfS_miss namesZ 4 _ fun j hj=>?_) (by unfold blockP blockOf;rw [if_neg h1,if_neg h2,if_neg h3,if_neg h4,if_neg h5]) (by simpa [nDiv] using h5) (by decide) (by decide) (by decide)
  match j,hj with
  | 0,_=>exact fun e=>h1 ((ba_inj _ _).1 e).symm
  | 1,_=>exact fun e=>h2 ((ba_inj _ _).1 e).symm
  | 2,_=>exact fun e=>h3 ((ba_inj _ _).1 e).symm
  | 3,_=>exact fun e=>h4 ((ba_inj _ _).1 e).symm
theorem hidden_iff (n:Bs):Lib.containsS (hiddenZ.take 9) ⟨n.toArray⟩=decide (n ∈ hiddenL):=by
 rw [Bool.eq_iff_iff,Lib.containsS_iff,decide_eq_true_eq]
 show _ ∈ hiddenZ↔_
 unfold hiddenZ
 rw [List.mem_map]
 exact ⟨fun ⟨a,ha,e⟩=>by rw [(ba_inj a n).1 e] at ha;exact ha,fun h=>⟨n,h,rfl⟩⟩
set_option maxRecDepth 100000 in
set_option maxHeartbeats 2000000 in
theorem sanHidden_any (n:Bs) (w:World) :
  Calls Tryz.prog 126 #[str n] w fun e w'=>e=.returned (.bool (decide (n ∈ hiddenL)))∧Below w.heap.size w w':=by
 have hcells:∀ j,j < hiddenZ.length→(w.alloc (.cells (hiddenL.map str).toArray 9)).cell? ⟨w.heap.size,0+j,none⟩=some (.string (hiddenZ.getD j ByteArray.empty)):=by
  intro j hj
  unfold World.cell?
  rw [heap_new]
  match j,hj with
  | 0,_=>rfl
  | 1,_=>rfl
  | 2,_=>rfl
  | 3,_=>rfl
  | 4,_=>rfl
  | 5,_=>rfl
  | 6,_=>rfl
  | 7,_=>rfl
  | 8,_=>rfl
 have C:=Lib.hid (Tryz.slices_Contains_string w.heap.size 0 9 9 hiddenZ ⟨n.toArray⟩ _ (by decide) (by decide) hcells)
 rw [hidden_iff n] at C
 clear hcells
 generalize decide (n ∈ hiddenL)=b at *
 go_enter Tryz.func126,Tryz.ntmps126
 go_wp2_with fail
 refine C.out.mono ?_
 rintro e w1 ⟨rfl,rfl⟩
 go_wp2
 go_ret
 exact ⟨rfl,bal (brf _) _⟩
end Go.Proofs.YteikncnldbdfmaaGreatDoor
namespace Go.Proofs.YteikncnldbdfmaaGreatDoor
open Go.RowKit Go.Mh
theorem chr1_int (c:UInt8):((chr1 c).toNat:Int)=if (((c.toNat:Int) == 9)=true∨((c.toNat:Int) == 10)=true∨((c.toNat:Int) == 13)=true∨((c.toNat:Int) == 12)=true) then 32 else if (c.toNat:Int) < 32∨126 < (c.toNat:Int) then 63 else (c.toNat:Int):=by
 have e:∀ d:UInt8,(c=d)↔(((c.toNat:Int) == (d.toNat:Int))=true):=fun d=>by rw [← UInt8.toNat_inj,beq_iff_eq];omega
 have l1:(c < 32)↔((c.toNat:Int) < 32):=by rw [UInt8.lt_iff_toNat_lt];show c.toNat < 32↔_;omega
 have l2:(126 < c)↔(126 < (c.toNat:Int)):=by rw [UInt8.lt_iff_toNat_lt];show 126 < c.toNat↔_;omega
 have k:(c=9∨c=10∨c=13∨c=12)↔(((c.toNat:Int) == 9)=true∨((c.toNat:Int) == 10)=true∨((c.toNat:Int) == 13)=true∨((c.toNat:Int) == 12)=true):=by rw [e 9,e 10,e 13,e 12];rfl
 unfold chr1
 by_cases h:c=9∨c=10∨c=13∨c=12
 ·rw [if_pos h,if_pos (k.1 h)];rfl
 ·rw [if_neg h,if_neg (fun x=>h (k.2 x))]
  by_cases h2:c < 32∨126 < c
  ·rw [if_pos h2,if_pos (h2.imp l1.1 l2.1)];rfl
  ·rw [if_neg h2,if_neg (fun x=>h2 (x.imp l1.2 l2.2))]
theorem wpList_bytes_obj {P:Program} (w:World) {ops:Array Oper} {rest:List Oper} {o:Oper} {a:Act} {Q:Exit→Act→World→Prop}
  (hg:o.guard=none) (src dst:TypeId) (x:Operand) (hop:o.op=Op.convert src dst x) (e:TypeId)
  (hs:P.underlying src=some .string) (hd:P.underlying dst=some (.slice e)) (he:P.underlying e=some (.int .u8)) (l:Bs) (hx:a.eval x=str l)
  (hK:∀ w' cap xs fr,w'.heap[w.heap.size]?=some (.cells xs e fr)→(∀ (j:Nat) c,l[j]?=some c→xs[j]?=some (.int .u8 (c.toNat:Int)))→Below w.heap.size w w'→wpList P ops Q rest (a.put o.dst (.slice (some ⟨w.heap.size,0,none⟩) l.length cap)) w') :
  wpList P ops Q (o :: rest) a w:=by
 refine wpList_plain hg fun K hK'=>?_
 have hrun:=run_bytes_of_string (P:=P) w src dst e ⟨l.toArray⟩ hs hd he
 unfold Oper.wp
 simp only [execOp,hop,hx]
 simp [hrun,Result.andThen]
 refine hK' _ _ (hK _ _ _ _ (heap_new w.drew _) (fun j c hj=>?_) ((Below.refl _ _).drew.alloc (Nat.le_refl _) _))
 have hj':=(List.getElem?_eq_some_iff.1 hj).1
 have:=bytesRow_at ⟨l.toArray⟩ (grownCap w l.length 0 e) j (by simpa using hj')
 simp at this
 rw [(List.getElem?_eq_some_iff.1 hj).2] at this
 rw [← this]
 rfl
set_option maxRecDepth 100000 in
set_option maxHeartbeats 8000000 in
theorem text_any (B g:Nat) (dv:Value) (k:Dk) (s:Bs) (w:World) (h:Dsk B g w dv k) (hB:B≤w.heap.size) (hl:k.d.length+s.length≤200000) :
  Calls Tryz.prog 70 #[.pointer (some ⟨g,0,none⟩),str s] w fun e w'=>e=.returned (.tuple #[])∧(∃ dv',Dsk B g w' dv' (textD k s))∧Below B w w':=by
 have hD:=Lib.hid h
 obtain ⟨hd,ho,hBg⟩:=h
 obtain ⟨da,dc,rfl,_⟩:=RdS.len ho.rd
 obtain ⟨d,f,kind,inn,bold,slant,link,gone⟩:=k
 simp only at hl ho
 obtain ⟨M,hMk⟩:∃ M,marksD ⟨d,f,kind,inn,bold,slant,link,gone⟩=M:=⟨_,rfl⟩
 have hT:=Lib.hid (show textD ⟨d,f,kind,inn,bold,slant,link,gone⟩ s=⟨d ++ s.map fun c=>⟨chr1 c,M,link⟩,f,kind,inn,bold,slant,link,gone⟩ by rw [← hMk];rfl)
 obtain ⟨bB,hbB⟩:∃ b,decide (0 < bold)=b:=⟨_,rfl⟩
 obtain ⟨bS,hbS⟩:∃ b,decide (0 < slant)=b:=⟨_,rfl⟩
 have hMM:=Lib.hid (show M=(if bB=true then 1 else 0)+(if bS=true then 2 else 0) by rw [← hMk,← hbB,← hbS];unfold marksD;simp)
 clear hMk
 replace hd:w.heap[g]?=some (.cells #[.slice da d.length dc,.int .i64 (f:Int),.int .i64 kind,.bool inn,.int .i64 bold,.int .i64 slant,str link,str gone] 113 (0,0)):=hd
 obtain ⟨x0,x1,x2,x3,x4,x5,x6,x7⟩:=D8.of hd
 clear hd ho
 go_enter Tryz.func70,Tryz.ntmps70
 go_upto_if 11 with fail
 go_cut [4] (fun v wx=>v=.int .i64 (if bB=true then 1 else 0)∧wx=w)
 case first =>
  cases bB
  ·go_wp2
   go_meet
   exact ⟨rfl,rfl⟩
  ·go_wp2
   go_meet
   exact ⟨rfl,rfl⟩
 case rest =>
  obtain ⟨rfl,hw⟩:=hcut
  rw [hw]
  clear hw
  go_upto_if 18 with fail
  go_cut [4] (fun v wx=>v=.int .i64 M∧wx=w)
  case first =>
   cases bB <;> cases bS
   all_goals
    go_wp2
    go_meet
    exact ⟨by rw [hMM.out];rfl,rfl⟩
  case rest =>
   obtain ⟨rfl,hw⟩:=hcut
   rw [hw]
   clear hw x0 x1 x2 x3 x4 x5 x6 x7 hMM hbB hbS
   go_wp2_with (refine wpList_bytes_obj _ rfl 9 41 (.tmp 21) rfl 5 Tryz.underlying9 Tryz.underlying41 Tryz.underlying5 s rfl ?_;intro w1 cap xs fr hx1 hxs hb1)
   go_loopw [24] (fun i wr=>∃ n:Nat,n≤s.length∧i=.int .i64 n∧wr.heap[w.heap.size]?=some (.cells xs 5 fr)∧(∃ dv',Dsk B g wr dv' ⟨d ++ (s.take n).map (fun c=>⟨chr1 c,M,link⟩),f,kind,inn,bold,slant,link,gone⟩)∧Below B w wr) (fun i _=>s.length - (intOf i).toNat)
   case atStart=>exact ⟨0,Nat.zero_le _,rfl,hx1,⟨_,by simpa using hD.out.below hb1⟩,hb1.mono hB⟩
   case round =>
    obtain ⟨n,hn,rfl,hxr,⟨dv,hdk⟩,hb⟩:=hrel
    by_cases hlt:n < s.length
    ·obtain ⟨c,hc⟩:∃ c,s[n]?=some c:=⟨_,List.getElem?_eq_getElem hlt⟩
     have hcell:wr.cell? ⟨w.heap.size,n,none⟩=some (.int .u8 (c.toNat:Int)):=by unfold World.cell?;rw [hxr];exact hxs n c hc
     obtain ⟨hd,ho,_⟩:=hdk
     obtain ⟨D,hDD⟩:∃ D,d ++ (s.take n).map (fun c=>(⟨chr1 c,M,link⟩:It))=D:=⟨_,rfl⟩
     have hDl:D.length≤200000 - 1:=by rw [← hDD];simp;omega
     have hnx:=Lib.hid (show d ++ (s.take (n+1)).map (fun c=>(⟨chr1 c,M,link⟩:It))=D ++ [⟨chr1 c,M,link⟩] by rw [← hDD,List.take_add_one,hc];simp)
     simp only [hDD] at hd ho
     obtain ⟨da2,dc2,rfl,_⟩:=RdS.len ho.rd
     clear hc hDD
     have hch:=Lib.hid (chr1_int c)
     go_upto_block 2 with fail
     go_cut [6] (fun v wx=>v=.int .u8 ((chr1 c).toNat:Int)∧wx=wr)
     case first =>
      cases h1:((c.toNat:Int) == 9) with
      | true =>
       go_wp2
       go_meet
       exact ⟨by rw [hch.out,if_pos (Or.inl h1)],rfl⟩
      | false =>
      cases h2:((c.toNat:Int) == 10) with
      | true =>
       go_wp2
       go_meet
       exact ⟨by rw [hch.out,if_pos (Or.inr (Or.inl h2))],rfl⟩
      | false =>
      cases h3:((c.toNat:Int) == 13) with
      | true =>
       go_wp2
       go_meet
       exact ⟨by rw [hch.out,if_pos (Or.inr (Or.inr (Or.inl h3)))],rfl⟩
      | false =>
      cases h4:((c.toNat:Int) == 12) with
      | true =>
       go_wp2
       go_meet
       exact ⟨by rw [hch.out,if_pos (Or.inr (Or.inr (Or.inr h4)))],rfl⟩
      | false =>
      have hno:¬ (((c.toNat:Int) == 9)=true∨((c.toNat:Int) == 10)=true∨((c.toNat:Int) == 13)=true∨((c.toNat:Int) == 12)=true):=by rw [h1,h2,h3,h4];simp
      have hno':=Lib.hid hno
      clear hno
      cases h5:decide ((c.toNat:Int) < 32) with
      | true =>
       have h5':decide (c.toNat < 32)=true:=by simp at h5 ⊢;omega
       have k5:=Lib.hid (of_decide_eq_true h5)
       go_wp2
       go_meet
       exact ⟨by rw [hch.out,if_neg hno'.out,if_pos (Or.inl (by have:=k5.out;omega))],rfl⟩
      | false =>
      have h5':decide (c.toNat < 32)=false:=by simp at h5 ⊢;omega
      have k5:=Lib.hid (of_decide_eq_false h5)
      cases h6:decide ((126:Int) < (c.toNat:Int)) with
      | true =>
       have h6':decide (126 < c.toNat)=true:=by simp at h6 ⊢;omega
       have k6:=Lib.hid (of_decide_eq_true h6)
       go_wp2
       go_meet
       exact ⟨by rw [hch.out,if_neg hno'.out,if_pos (Or.inr (by have:=k6.out;omega))],rfl⟩
      | false =>
       have h6':decide (126 < c.toNat)=false:=by simp at h6 ⊢;omega
       have k6:=Lib.hid (of_decide_eq_false h6)
       go_wp2
       go_meet
       exact ⟨by rw [hch.out,if_neg hno'.out,if_neg (fun e=>by have:=k5.out;have:=k6.out;omega)],rfl⟩
     case rest =>
      obtain ⟨rfl,hw⟩:=hcut
      rw [hw]
      clear hw hch
      obtain ⟨wq,nq,rfl⟩:∃ wq n,wr=World.drewN wq n:=⟨wr,0,rfl⟩
      replace hxr:wq.heap[w.heap.size]?=some (.cells xs 5 fr):=hxr
      replace ho:OwnS B 58 3 RIt wq (.slice da2 D.length dc2) D:=ho
      have hD2:Hid (wq.heap[g]?=_):=Lib.hid hd
      have hO2:=Lib.hid ho
      have hX2:=Lib.hid hxr
      have hbq:Hid (Below B w wq):=Lib.hid ⟨hb.os,hb.tape,hb.output,hb.size,hb.block⟩
      clear hb
      replace hd:wq.heap[g]?=some (.cells #[.slice da2 D.length dc2,.int .i64 (f:Int),.int .i64 kind,.bool inn,.int .i64 bold,.int .i64 slant,str link,str gone] 113 (0,0)):=hd
      obtain ⟨x0,x1,x2,x3,x4,x5,x6,x7⟩:=D8.of hd
      have hfz:∀ i,wq.frozen? ⟨g,i,none⟩=false:=fun i=>Lib.frozen_of_heap hd _
      have hgl:g < wq.heap.size:=lt_of_heap hd
      have hne:some w.heap.size≠(Value.slice da2 D.length dc2).ownBlock:=ho.ne hxr (by decide)
      have hwl:w.heap.size < wq.heap.size:=lt_of_heap hxr
      have hgw:w.heap.size≠g:=fun e=>by rw [e,hd] at hxr;cases hxr
      have q0:∀ n o,((wq.drewN n).alloc o).cell? ⟨g,0,none⟩=some (.slice da2 D.length dc2):=fun n o=>(World.cell?_alloc_lt (w:=wq.drewN n) (a:=⟨g,0,none⟩) (o:=o) hgl).trans x0
      clear hd ho hxr hcell
      go_upto_region 12 with fail
      go_region_law (refine step_desk (by rfl) (.tmp 54) (.tmp 62) (by rfl) B g (.slice da2 D.length dc2) ⟨D,f,kind,inn,bold,slant,link,gone⟩ (by exact ⟨hD2.out,hO2.out,hBg⟩) (by exact Nat.le_trans hB (Nat.le_of_lt hwl)) (by simp;omega) ⟨chr1 c,M,link⟩ _ (by rfl) (by simp [Act.eval]) (by simp [Act.eval]) ?_;intro a2 c2 w2 hd2 ho2 hb2 hk2;obtain ⟨y0,y1,y2,y3,y4,y5,y6,y7⟩:=D8.of hd2;have fz2:∀ i,w2.frozen? ⟨g,i,none⟩=false:=fun i=>Lib.frozen_of_heap hd2 _)
      all_goals
       have D0:Dsk B g (w2.setCell ⟨g,0,none⟩ (.slice a2 (D.length+1) c2)) (.slice a2 (D.length+1) c2) ⟨D ++ [⟨chr1 c,M,link⟩],f,kind,inn,bold,slant,link,gone⟩:=DAt.doc (k:=⟨D,f,kind,inn,bold,slant,link,gone⟩) hd2 ho2 hBg tne
       have hb3:Below B w (w2.setCell ⟨g,0,none⟩ (.slice a2 (D.length+1) c2)):=((bdrewN hbq.out (nq+1)).trans hb2).setCell (p:=⟨g,0,none⟩) hBg _
       have hx3:(w2.setCell ⟨g,0,none⟩ (.slice a2 (D.length+1) c2)).heap[w.heap.size]?=some (.cells xs 5 fr):=by
        rw [heap_setCell_other _ _ _ _ hgw]
        exact (hk2 w.heap.size (by simpa using hwl) hne).trans hX2.out
       generalize w2.setCell ⟨g,0,none⟩ (.slice a2 (D.length+1) c2)=w3 at *
       go_wp2
       go_roundw
       case rel=>exact ⟨n+1,by omega,by go_num,hx3,⟨_,by rw [hnx.out];exact D0⟩,hb3⟩
       case measure=>simp [intOf];omega
    ·obtain rfl:n=s.length:=by omega
     rw [List.take_length] at hdk
     go_wp2
     go_end0
     exact ⟨rfl,⟨_,by rw [hT.out];exact hdk⟩,hb⟩
end Go.Proofs.YteikncnldbdfmaaGreatDoor
