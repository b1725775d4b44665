import Derived.Test.YteikncnldbdfmaaGreatDoorMSan
namespace Go.Mh
theorem openD_some {k:Dk} {t:Tok} {b:Int} (h:blockOf t.name=some b):openD k t={ endD k with kind:=b,inn:=true }:=by unfold openD;rw [h]
theorem shutD_some {k:Dk} {n:Bs} {b:Int} (h:blockOf n=some b):shutD k n=endD k:=by unfold shutD;rw [h]
theorem openD_none {k:Dk} {t:Tok} (h:blockOf t.name=none):openD k t=if t.name=nB∨t.name=nStrong then { k with bold:=k.bold+1 }
  else if t.name=nI∨t.name=nEm then { k with slant:=k.slant+1 }
  else if t.name=nA then { k with link:=cleanT t.href }
  else if t.name=nBr then { endD { k with inn:=true } with kind:=k.kind }
  else if t.name ∈ hiddenL then { k with gone:=t.name } else k:=by unfold openD;rw [h]
theorem shutD_none {k:Dk} {n:Bs} (h:blockOf n=none):shutD k n=if n=nB∨n=nStrong then { k with bold:=max 0 (k.bold - 1) }
  else if n=nI∨n=nEm then { k with slant:=max 0 (k.slant - 1) }
  else if n=nA then { k with link:=[] } else k:=by unfold shutD;rw [h]
end Go.Mh
namespace Go.Proofs.YteikncnldbdfmaaGreatDoor
open Go.RowKit Go.Mh
theorem sanBlock_p (n:Bs) (p:Int × Bool) (hp:blockP n=p) (w:World) :
  Calls Tryz.prog 124 #[str n] w fun e w'=>e=.returned (.tuple #[.int .i64 p.1,.bool p.2])∧Below w.heap.size w w':=by
 subst hp;exact sanBlock_any n w
set_option maxRecDepth 100000 in
set_option maxHeartbeats 4000000 in
theorem shut_any (B g:Nat) (dv:Value) (k:Dk) (n:Bs) (w:World) (h:Dsk B g w dv k) (hB:B≤w.heap.size) (hl:k.d.length≤200000) (hbd:0≤k.bold∧k.bold≤1000000∧0≤k.slant∧k.slant≤1000000) :
  Calls Tryz.prog 72 #[.pointer (some ⟨g,0,none⟩),str n] w fun e w'=>e=.returned (.tuple #[])∧(∃ dv',Dsk B g w' dv' (shutD k n))∧Below B w w':=by
 have H:=Lib.hid h
 have hBg:B≤g:=h.2.2
 clear h
 cases hbo:blockOf n with
 | some b =>
  have C:=Lib.hid (fun w'=>sanBlock_p n (b,true) (by unfold blockP;rw [hbo]) w')
  have hE:=Lib.hid (shutD_some (k:=k) hbo)
  clear hbo
  go_enter Tryz.func72,Tryz.ntmps72
  go_wp2_with fail
  refine (C.out _).mono ?_
  rintro e w1 ⟨rfl,hb1⟩
  have D1:=Lib.hid (H.out.below hb1)
  have hB1:=hb1.size
  go_wp2_with fail
  refine (end_any B g dv k w1 D1.out (Nat.le_trans hB hB1) hl).mono ?_
  rintro e w2 ⟨rfl,hd2,hb2⟩
  go_wp2
  refine bodyPost_ret (results_none rfl _ _ _) rfl ?_
  exact ⟨rfl,by rw [hE.out];exact hd2,(hb1.mono hB).trans hb2⟩
 | none =>
  have C:=Lib.hid (fun w'=>sanBlock_p n (0,false) (by unfold blockP;rw [hbo]) w')
  have hE:=shutD_none (k:=k) hbo
  clear hbo
  obtain ⟨d,f,kind,inn,bold,slant,link,gone⟩:=k
  simp only at hbd hl
  obtain ⟨z1,z2,z3,z4⟩:=hbd
  have w1':wrap64 (bold - 1)=bold - 1:=by unfold wrap64;omega
  have w2':wrap64 (slant - 1)=slant - 1:=by unfold wrap64;omega
  by_cases h_nB:n=nB
  ·subst h_nB
   have hF:=Lib.hid (show shutD ⟨d,f,kind,inn,bold,slant,link,gone⟩ nB=({ d:=d,from':=f,kind:=kind,inn:=inn,bold:=max 0 (bold - 1),slant:=slant,link:=link,gone:=gone }:Dk) by rw [hE];rw [if_pos (Or.inl rfl)])
   clear hE
   go_enter Tryz.func72,Tryz.ntmps72
   go_wp2_with fail
   refine (C.out _).mono ?_
   rintro e w1 ⟨rfl,hb1⟩
   have D1:=Lib.hid (H.out.below hb1)
   have hBw:=Lib.hid (hb1.mono hB)
   obtain ⟨hd,ho,_⟩:=D1.out
   have hd':w1.heap[g]?=some (.cells #[dv,.int .i64 (f:Int),.int .i64 kind,.bool inn,.int .i64 bold,.int .i64 slant,str link,str gone] 113 (0,0)):=hd
   obtain ⟨x0,x1,x2,x3,x4,x5,x6,x7⟩:=D8.of hd'
   have hfz:∀ i,w1.frozen? ⟨g,i,none⟩=false:=fun i=>Lib.frozen_of_heap hd _
   clear hd ho hd' hb1
   go_wp2
   go_end0
   exact ⟨rfl,⟨dv,by rw [hF.out];exact D1.out.bold tne _⟩,hBw.out.setCell (p:=⟨g,4,none⟩) hBg _⟩
  by_cases h_nStrong:n=nStrong
  ·subst h_nStrong
   have hF:=Lib.hid (show shutD ⟨d,f,kind,inn,bold,slant,link,gone⟩ nStrong=({ d:=d,from':=f,kind:=kind,inn:=inn,bold:=max 0 (bold - 1),slant:=slant,link:=link,gone:=gone }:Dk) by rw [hE];rw [if_pos (Or.inr rfl)])
   clear hE
   go_enter Tryz.func72,Tryz.ntmps72
   go_wp2_with fail
   refine (C.out _).mono ?_
   rintro e w1 ⟨rfl,hb1⟩
   have D1:=Lib.hid (H.out.below hb1)
   have hBw:=Lib.hid (hb1.mono hB)
   obtain ⟨hd,ho,_⟩:=D1.out
   have hd':w1.heap[g]?=some (.cells #[dv,.int .i64 (f:Int),.int .i64 kind,.bool inn,.int .i64 bold,.int .i64 slant,str link,str gone] 113 (0,0)):=hd
   obtain ⟨x0,x1,x2,x3,x4,x5,x6,x7⟩:=D8.of hd'
   have hfz:∀ i,w1.frozen? ⟨g,i,none⟩=false:=fun i=>Lib.frozen_of_heap hd _
   clear hd ho hd' hb1
   go_wp2
   go_end0
   exact ⟨rfl,⟨dv,by rw [hF.out];exact D1.out.bold tne _⟩,hBw.out.setCell (p:=⟨g,4,none⟩) hBg _⟩
  by_cases h_nI:n=nI
  ·subst h_nI
   have hF:=Lib.hid (show shutD ⟨d,f,kind,inn,bold,slant,link,gone⟩ nI=({ d:=d,from':=f,kind:=kind,inn:=inn,bold:=bold,slant:=max 0 (slant - 1),link:=link,gone:=gone }:Dk) by rw [hE];rw [if_neg (by decide),if_pos (Or.inl rfl)])
   clear hE
   go_enter Tryz.func72,Tryz.ntmps72
   go_wp2_with fail
   refine (C.out _).mono ?_
   rintro e w1 ⟨rfl,hb1⟩
   have D1:=Lib.hid (H.out.below hb1)
   have hBw:=Lib.hid (hb1.mono hB)
   obtain ⟨hd,ho,_⟩:=D1.out
   have hd':w1.heap[g]?=some (.cells #[dv,.int .i64 (f:Int),.int .i64 kind,.bool inn,.int .i64 bold,.int .i64 slant,str link,str gone] 113 (0,0)):=hd
   obtain ⟨x0,x1,x2,x3,x4,x5,x6,x7⟩:=D8.of hd'
   have hfz:∀ i,w1.frozen? ⟨g,i,none⟩=false:=fun i=>Lib.frozen_of_heap hd _
   clear hd ho hd' hb1
   go_wp2
   go_end0
   exact ⟨rfl,⟨dv,by rw [hF.out];exact D1.out.slant tne _⟩,hBw.out.setCell (p:=⟨g,5,none⟩) hBg _⟩
  by_cases h_nEm:n=nEm
  ·subst h_nEm
   have hF:=Lib.hid (show shutD ⟨d,f,kind,inn,bold,slant,link,gone⟩ nEm=({ d:=d,from':=f,kind:=kind,inn:=inn,bold:=bold,slant:=max 0 (slant - 1),link:=link,gone:=gone }:Dk) by rw [hE];rw [if_neg (by decide),if_pos (Or.inr rfl)])
   clear hE
   go_enter Tryz.func72,Tryz.ntmps72
   go_wp2_with fail
   refine (C.out _).mono ?_
   rintro e w1 ⟨rfl,hb1⟩
   have D1:=Lib.hid (H.out.below hb1)
   have hBw:=Lib.hid (hb1.mono hB)
   obtain ⟨hd,ho,_⟩:=D1.out
   have hd':w1.heap[g]?=some (.cells #[dv,.int .i64 (f:Int),.int .i64 kind,.bool inn,.int .i64 bold,.int .i64 slant,str link,str gone] 113 (0,0)):=hd
   obtain ⟨x0,x1,x2,x3,x4,x5,x6,x7⟩:=D8.of hd'
   have hfz:∀ i,w1.frozen? ⟨g,i,none⟩=false:=fun i=>Lib.frozen_of_heap hd _
   clear hd ho hd' hb1
   go_wp2
   go_end0
   exact ⟨rfl,⟨dv,by rw [hF.out];exact D1.out.slant tne _⟩,hBw.out.setCell (p:=⟨g,5,none⟩) hBg _⟩
  by_cases h_nA:n=nA
  ·subst h_nA
   have hF:=Lib.hid (show shutD ⟨d,f,kind,inn,bold,slant,link,gone⟩ nA=({ d:=d,from':=f,kind:=kind,inn:=inn,bold:=bold,slant:=slant,link:=[],gone:=gone }:Dk) by rw [hE];rw [if_neg (by decide),if_neg (by decide),if_pos rfl])
   clear hE
   go_enter Tryz.func72,Tryz.ntmps72
   go_wp2_with fail
   refine (C.out _).mono ?_
   rintro e w1 ⟨rfl,hb1⟩
   have D1:=Lib.hid (H.out.below hb1)
   have hBw:=Lib.hid (hb1.mono hB)
   obtain ⟨hd,ho,_⟩:=D1.out
   have hd':w1.heap[g]?=some (.cells #[dv,.int .i64 (f:Int),.int .i64 kind,.bool inn,.int .i64 bold,.int .i64 slant,str link,str gone] 113 (0,0)):=hd
   obtain ⟨x0,x1,x2,x3,x4,x5,x6,x7⟩:=D8.of hd'
   have hfz:∀ i,w1.frozen? ⟨g,i,none⟩=false:=fun i=>Lib.frozen_of_heap hd _
   clear hd ho hd' hb1
   go_wp2
   go_end0
   exact ⟨rfl,⟨dv,by rw [hF.out];exact D1.out.link tne _⟩,hBw.out.setCell (p:=⟨g,6,none⟩) hBg _⟩
  have hF:=Lib.hid (show shutD ⟨d,f,kind,inn,bold,slant,link,gone⟩ n=(⟨d,f,kind,inn,bold,slant,link,gone⟩:Dk) by rw [hE,if_neg (fun e=>e.elim h_nB h_nStrong),if_neg (fun e=>e.elim h_nI h_nEm),if_neg h_nA])
  have b_nB:(n == [98])=false:=by simpa [nB] using h_nB
  have b_nStrong:(n == [115,116,114,111,110,103])=false:=by simpa [nStrong] using h_nStrong
  have b_nI:(n == [105])=false:=by simpa [nI] using h_nI
  have b_nEm:(n == [101,109])=false:=by simpa [nEm] using h_nEm
  have b_nA:(n == [97])=false:=by simpa [nA] using h_nA
  clear hE h_nB h_nStrong h_nI h_nEm h_nA
  go_enter Tryz.func72,Tryz.ntmps72
  go_wp2_with fail
  refine (C.out _).mono ?_
  rintro e w1 ⟨rfl,hb1⟩
  have D1:=Lib.hid (H.out.below hb1)
  have hBw:=Lib.hid (hb1.mono hB)
  obtain ⟨hd,ho,_⟩:=D1.out
  have hd':w1.heap[g]?=some (.cells #[dv,.int .i64 (f:Int),.int .i64 kind,.bool inn,.int .i64 bold,.int .i64 slant,str link,str gone] 113 (0,0)):=hd
  obtain ⟨x0,x1,x2,x3,x4,x5,x6,x7⟩:=D8.of hd'
  have hfz:∀ i,w1.frozen? ⟨g,i,none⟩=false:=fun i=>Lib.frozen_of_heap hd _
  clear hd ho hd' hb1
  go_wp2
  go_end0
  exact ⟨rfl,⟨dv,by rw [hF.out];exact D1.out⟩,hBw.out⟩
set_option maxRecDepth 100000 in
set_option maxHeartbeats 4000000 in
theorem open_any (B g:Nat) (dv:Value) (k:Dk) (t:Tok) (w:World) (h:Dsk B g w dv k) (hB:B≤w.heap.size) (hl:k.d.length≤200000) (hbd:0≤k.bold∧k.bold≤1000000∧0≤k.slant∧k.slant≤1000000) (hh:t.href.length≤20000) :
  Calls Tryz.prog 71 #[.pointer (some ⟨g,0,none⟩),.agg #[.int .i64 t.k,str t.name,str t.text,str t.href]] w fun e w'=>e=.returned (.tuple #[])∧(∃ dv',Dsk B g w' dv' (openD k t))∧Below B w w':=by
 obtain ⟨tk,n,tx,hr⟩:=t
 simp only at hh
 have hb0:=bal (brf w) (.cells #[.int .i64 tk,str n,str tx,str hr] 115)
 have hx0:=heap_new w (.cells #[.int .i64 tk,str n,str tx,str hr] 115)
 have H:=Lib.hid (h.below hb0)
 have hBg:B≤g:=h.2.2
 have hb0':=Lib.hid hb0
 have hx0':=Lib.hid hx0
 clear h hb0 hx0
 cases hbo:blockOf n with
 | some b =>
  have C:=Lib.hid (fun w'=>sanBlock_p n (b,true) (by unfold blockP;rw [hbo]) w')
  have hE:=Lib.hid (openD_some (k:=k) (t:=⟨tk,n,tx,hr⟩) hbo)
  clear hbo
  go_enter Tryz.func71,Tryz.ntmps71
  go_wp2_with fail
  refine (C.out _).mono ?_
  rintro e w1 ⟨rfl,hb1⟩
  have hB1:=Lib.hid (btr hb0'.out hb1)
  have D1:=Lib.hid (H.out.below hb1)
  clear hb1
  go_wp2_with fail
  refine (end_any B g dv k w1 D1.out (Nat.le_trans hB hB1.out.size) hl).mono ?_
  rintro e w2 ⟨rfl,⟨dv2,hd2⟩,hb2⟩
  have D2:=Lib.hid hd2
  have hB2:=Lib.hid ((hB1.out.mono hB).trans hb2)
  obtain ⟨hd,_,_⟩:=hd2
  generalize endD k=k2 at *
  obtain ⟨d,f,kind,inn,bold,slant,link,gone⟩:=k2
  have hd':w2.heap[g]?=some (.cells #[dv2,.int .i64 (f:Int),.int .i64 kind,.bool inn,.int .i64 bold,.int .i64 slant,str link,str gone] 113 (0,0)):=hd
  obtain ⟨x0,x1,x2,x3,x4,x5,x6,x7⟩:=D8.of hd'
  have hfz:∀ i,w2.frozen? ⟨g,i,none⟩=false:=fun i=>Lib.frozen_of_heap hd _
  clear hd hd' hb2
  go_wp2
  refine bodyPost_ret (results_none rfl _ _ _) rfl ?_
  exact ⟨rfl,⟨dv2,by rw [hE.out];exact (D2.out.kind tne b).inn tne true⟩,(hB2.out.setCell (p:=⟨g,2,none⟩) hBg _).setCell (p:=⟨g,3,none⟩) hBg _⟩
 | none =>
  have C:=Lib.hid (fun w'=>sanBlock_p n (0,false) (by unfold blockP;rw [hbo]) w')
  have hE:=openD_none (k:=k) (t:=⟨tk,n,tx,hr⟩) hbo
  clear hbo
  obtain ⟨d,f,kind,inn,bold,slant,link,gone⟩:=k
  simp only at hbd hl hE
  obtain ⟨z1,z2,z3,z4⟩:=hbd
  have w1':wrap64 (bold+1)=bold+1:=by unfold wrap64;omega
  have w2':wrap64 (slant+1)=slant+1:=by unfold wrap64;omega
  by_cases h_nB:n=nB
  ·subst h_nB
   have hF:=Lib.hid (show openD ⟨d,f,kind,inn,bold,slant,link,gone⟩ ⟨tk,nB,tx,hr⟩=({ d:=d,from':=f,kind:=kind,inn:=inn,bold:=bold+1,slant:=slant,link:=link,gone:=gone }:Dk) by rw [hE];rw [if_pos (Or.inl rfl)])
   clear hE
   go_enter Tryz.func71,Tryz.ntmps71
   go_wp2_with fail
   refine (C.out _).mono ?_
   rintro e w1 ⟨rfl,hb1⟩
   have D1:=Lib.hid (H.out.below hb1)
   have hB1:=Lib.hid (btr hb0'.out hb1)
   have hBw:=Lib.hid (hB1.out.mono hB)
   have hx1:=(hb1.block w.heap.size (by simp)).trans hx0'.out
   have t1:w1.cell? ⟨w.heap.size,1,none⟩=some (str nB):=by unfold World.cell?;rw [hx1];rfl
   have t3:w1.cell? ⟨w.heap.size,3,none⟩=some (str hr):=by unfold World.cell?;rw [hx1];rfl
   have hx1':=Lib.hid hx1
   obtain ⟨hd,ho,_⟩:=D1.out
   have hd':w1.heap[g]?=some (.cells #[dv,.int .i64 (f:Int),.int .i64 kind,.bool inn,.int .i64 bold,.int .i64 slant,str link,str gone] 113 (0,0)):=hd
   obtain ⟨x0,x1,x2,x3,x4,x5,x6,x7⟩:=D8.of hd'
   have hfz:∀ i,w1.frozen? ⟨g,i,none⟩=false:=fun i=>Lib.frozen_of_heap hd _
   clear hd ho hd' hb1 hx1
   go_wp2
   go_end0
   exact ⟨rfl,⟨dv,by rw [hF.out];exact D1.out.bold tne _⟩,hBw.out.setCell (p:=⟨g,4,none⟩) hBg _⟩
  by_cases h_nStrong:n=nStrong
  ·subst h_nStrong
   have hF:=Lib.hid (show openD ⟨d,f,kind,inn,bold,slant,link,gone⟩ ⟨tk,nStrong,tx,hr⟩=({ d:=d,from':=f,kind:=kind,inn:=inn,bold:=bold+1,slant:=slant,link:=link,gone:=gone }:Dk) by rw [hE];rw [if_pos (Or.inr rfl)])
   clear hE
   go_enter Tryz.func71,Tryz.ntmps71
   go_wp2_with fail
   refine (C.out _).mono ?_
   rintro e w1 ⟨rfl,hb1⟩
   have D1:=Lib.hid (H.out.below hb1)
   have hB1:=Lib.hid (btr hb0'.out hb1)
   have hBw:=Lib.hid (hB1.out.mono hB)
   have hx1:=(hb1.block w.heap.size (by simp)).trans hx0'.out
   have t1:w1.cell? ⟨w.heap.size,1,none⟩=some (str nStrong):=by unfold World.cell?;rw [hx1];rfl
   have t3:w1.cell? ⟨w.heap.size,3,none⟩=some (str hr):=by unfold World.cell?;rw [hx1];rfl
   have hx1':=Lib.hid hx1
   obtain ⟨hd,ho,_⟩:=D1.out
   have hd':w1.heap[g]?=some (.cells #[dv,.int .i64 (f:Int),.int .i64 kind,.bool inn,.int .i64 bold,.int .i64 slant,str link,str gone] 113 (0,0)):=hd
   obtain ⟨x0,x1,x2,x3,x4,x5,x6,x7⟩:=D8.of hd'
   have hfz:∀ i,w1.frozen? ⟨g,i,none⟩=false:=fun i=>Lib.frozen_of_heap hd _
   clear hd ho hd' hb1 hx1
   go_wp2
   go_end0
   exact ⟨rfl,⟨dv,by rw [hF.out];exact D1.out.bold tne _⟩,hBw.out.setCell (p:=⟨g,4,none⟩) hBg _⟩
  by_cases h_nI:n=nI
  ·subst h_nI
   have hF:=Lib.hid (show openD ⟨d,f,kind,inn,bold,slant,link,gone⟩ ⟨tk,nI,tx,hr⟩=({ d:=d,from':=f,kind:=kind,inn:=inn,bold:=bold,slant:=slant+1,link:=link,gone:=gone }:Dk) by rw [hE];rw [if_neg (by decide),if_pos (Or.inl rfl)])
   clear hE
   go_enter Tryz.func71,Tryz.ntmps71
   go_wp2_with fail
   refine (C.out _).mono ?_
   rintro e w1 ⟨rfl,hb1⟩
   have D1:=Lib.hid (H.out.below hb1)
   have hB1:=Lib.hid (btr hb0'.out hb1)
   have hBw:=Lib.hid (hB1.out.mono hB)
   have hx1:=(hb1.block w.heap.size (by simp)).trans hx0'.out
   have t1:w1.cell? ⟨w.heap.size,1,none⟩=some (str nI):=by unfold World.cell?;rw [hx1];rfl
   have t3:w1.cell? ⟨w.heap.size,3,none⟩=some (str hr):=by unfold World.cell?;rw [hx1];rfl
   have hx1':=Lib.hid hx1
   obtain ⟨hd,ho,_⟩:=D1.out
   have hd':w1.heap[g]?=some (.cells #[dv,.int .i64 (f:Int),.int .i64 kind,.bool inn,.int .i64 bold,.int .i64 slant,str link,str gone] 113 (0,0)):=hd
   obtain ⟨x0,x1,x2,x3,x4,x5,x6,x7⟩:=D8.of hd'
   have hfz:∀ i,w1.frozen? ⟨g,i,none⟩=false:=fun i=>Lib.frozen_of_heap hd _
   clear hd ho hd' hb1 hx1
   go_wp2
   go_end0
   exact ⟨rfl,⟨dv,by rw [hF.out];exact D1.out.slant tne _⟩,hBw.out.setCell (p:=⟨g,5,none⟩) hBg _⟩
  by_cases h_nEm:n=nEm
  ·subst h_nEm
   have hF:=Lib.hid (show openD ⟨d,f,kind,inn,bold,slant,link,gone⟩ ⟨tk,nEm,tx,hr⟩=({ d:=d,from':=f,kind:=kind,inn:=inn,bold:=bold,slant:=slant+1,link:=link,gone:=gone }:Dk) by rw [hE];rw [if_neg (by decide),if_pos (Or.inr rfl)])
   clear hE
   go_enter Tryz.func71,Tryz.ntmps71
   go_wp2_with fail
   refine (C.out _).mono ?_
   rintro e w1 ⟨rfl,hb1⟩
   have D1:=Lib.hid (H.out.below hb1)
   have hB1:=Lib.hid (btr hb0'.out hb1)
   have hBw:=Lib.hid (hB1.out.mono hB)
   have hx1:=(hb1.block w.heap.size (by simp)).trans hx0'.out
   have t1:w1.cell? ⟨w.heap.size,1,none⟩=some (str nEm):=by unfold World.cell?;rw [hx1];rfl
   have t3:w1.cell? ⟨w.heap.size,3,none⟩=some (str hr):=by unfold World.cell?;rw [hx1];rfl
   have hx1':=Lib.hid hx1
   obtain ⟨hd,ho,_⟩:=D1.out
   have hd':w1.heap[g]?=some (.cells #[dv,.int .i64 (f:Int),.int .i64 kind,.bool inn,.int .i64 bold,.int .i64 slant,str link,str gone] 113 (0,0)):=hd
   obtain ⟨x0,x1,x2,x3,x4,x5,x6,x7⟩:=D8.of hd'
   have hfz:∀ i,w1.frozen? ⟨g,i,none⟩=false:=fun i=>Lib.frozen_of_heap hd _
   clear hd ho hd' hb1 hx1
   go_wp2
   go_end0
   exact ⟨rfl,⟨dv,by rw [hF.out];exact D1.out.slant tne _⟩,hBw.out.setCell (p:=⟨g,5,none⟩) hBg _⟩
  by_cases h_nA:n=nA
  ·subst h_nA
   have hF:=Lib.hid (show openD ⟨d,f,kind,inn,bold,slant,link,gone⟩ ⟨tk,nA,tx,hr⟩=({ d:=d,from':=f,kind:=kind,inn:=inn,bold:=bold,slant:=slant,link:=cleanT hr,gone:=gone }:Dk) by rw [hE];rw [if_neg (by decide),if_neg (by decide),if_pos rfl])
   have CL:=Lib.hid (fun w'=>clean_p hr (cleanT hr,0) (if_neg (by omega)) w')
   generalize cleanT hr=lk at *
   clear hE
   go_enter Tryz.func71,Tryz.ntmps71
   go_wp2_with fail
   refine (C.out _).mono ?_
   rintro e w1 ⟨rfl,hb1⟩
   have D1:=Lib.hid (H.out.below hb1)
   have hB1:=Lib.hid (btr hb0'.out hb1)
   have hBw:=Lib.hid (hB1.out.mono hB)
   have hx1:=(hb1.block w.heap.size (by simp)).trans hx0'.out
   have t1:w1.cell? ⟨w.heap.size,1,none⟩=some (str nA):=by unfold World.cell?;rw [hx1];rfl
   have t3:w1.cell? ⟨w.heap.size,3,none⟩=some (str hr):=by unfold World.cell?;rw [hx1];rfl
   have hx1':=Lib.hid hx1
   obtain ⟨hd,ho,_⟩:=D1.out
   have hd':w1.heap[g]?=some (.cells #[dv,.int .i64 (f:Int),.int .i64 kind,.bool inn,.int .i64 bold,.int .i64 slant,str link,str gone] 113 (0,0)):=hd
   obtain ⟨x0,x1,x2,x3,x4,x5,x6,x7⟩:=D8.of hd'
   have hfz:∀ i,w1.frozen? ⟨g,i,none⟩=false:=fun i=>Lib.frozen_of_heap hd _
   clear hd ho hd' hb1 hx1
   go_wp2_with fail
   refine (CL.out _).mono ?_
   rintro e w2 ⟨rfl,hb2⟩
   have D2:=Lib.hid (D1.out.below hb2)
   have hBw2:=Lib.hid (hBw.out.trans (hb2.mono (Nat.le_trans hB hB1.out.size)))
   obtain ⟨hd,ho,_⟩:=D2.out
   have hd':w2.heap[g]?=some (.cells #[dv,.int .i64 (f:Int),.int .i64 kind,.bool inn,.int .i64 bold,.int .i64 slant,str link,str gone] 113 (0,0)):=hd
   clear x0 x1 x2 x3 x4 x5 x6 x7 hfz
   obtain ⟨x0,x1,x2,x3,x4,x5,x6,x7⟩:=D8.of hd'
   have hfz:∀ i,w2.frozen? ⟨g,i,none⟩=false:=fun i=>Lib.frozen_of_heap hd _
   clear hd ho hd' hb2
   go_wp2
   go_end0
   exact ⟨rfl,⟨dv,by rw [hF.out];exact D2.out.link tne _⟩,hBw2.out.setCell (p:=⟨g,6,none⟩) hBg _⟩
  by_cases h_nBr:n=nBr
  ·subst h_nBr
   have hF:=Lib.hid (show openD ⟨d,f,kind,inn,bold,slant,link,gone⟩ ⟨tk,nBr,tx,hr⟩=({ endD (⟨d,f,kind,true,bold,slant,link,gone⟩:Dk) with kind:=kind }:Dk) by rw [hE];rw [if_neg (by decide),if_neg (by decide),if_neg (by decide),if_pos rfl])
   clear hE
   go_enter Tryz.func71,Tryz.ntmps71
   go_wp2_with fail
   refine (C.out _).mono ?_
   rintro e w1 ⟨rfl,hb1⟩
   have D1:=Lib.hid (H.out.below hb1)
   have hB1:=Lib.hid (btr hb0'.out hb1)
   have hBw:=Lib.hid (hB1.out.mono hB)
   have hx1:=(hb1.block w.heap.size (by simp)).trans hx0'.out
   have t1:w1.cell? ⟨w.heap.size,1,none⟩=some (str nBr):=by unfold World.cell?;rw [hx1];rfl
   have t3:w1.cell? ⟨w.heap.size,3,none⟩=some (str hr):=by unfold World.cell?;rw [hx1];rfl
   have hx1':=Lib.hid hx1
   obtain ⟨hd,ho,_⟩:=D1.out
   have hd':w1.heap[g]?=some (.cells #[dv,.int .i64 (f:Int),.int .i64 kind,.bool inn,.int .i64 bold,.int .i64 slant,str link,str gone] 113 (0,0)):=hd
   obtain ⟨x0,x1,x2,x3,x4,x5,x6,x7⟩:=D8.of hd'
   have hfz:∀ i,w1.frozen? ⟨g,i,none⟩=false:=fun i=>Lib.frozen_of_heap hd _
   clear hd ho hd' hb1 hx1
   go_wp2_with fail
   have D2:=D1.out.inn tne true
   refine (end_any B g dv _ _ D2 (by simp;exact Nat.le_trans hB hB1.out.size) hl).mono ?_
   rintro e w2 ⟨rfl,⟨dv2,hd2⟩,hb2⟩
   have hBw2:=Lib.hid ((hBw.out.setCell (p:=⟨g,3,none⟩) hBg _).trans hb2)
   have D3:=Lib.hid hd2
   obtain ⟨hd,ho,_⟩:=hd2
   clear x0 x1 x2 x3 x4 x5 x6 x7 hfz D2 hb2
   generalize endD (⟨d,f,kind,true,bold,slant,link,gone⟩:Dk)=k2 at *
   obtain ⟨d2,f2,kind2,inn2,bold2,slant2,link2,gone2⟩:=k2
   have hd':w2.heap[g]?=some (.cells #[dv2,.int .i64 (f2:Int),.int .i64 kind2,.bool inn2,.int .i64 bold2,.int .i64 slant2,str link2,str gone2] 113 (0,0)):=hd
   obtain ⟨x0,x1,x2,x3,x4,x5,x6,x7⟩:=D8.of hd'
   have hfz:∀ i,w2.frozen? ⟨g,i,none⟩=false:=fun i=>Lib.frozen_of_heap hd _
   clear hd ho hd'
   go_wp2
   go_end0
   exact ⟨rfl,⟨dv2,by rw [hF.out];exact D3.out.kind tne _⟩,hBw2.out.setCell (p:=⟨g,2,none⟩) hBg _⟩
  have hE2:openD ⟨d,f,kind,inn,bold,slant,link,gone⟩ ⟨tk,n,tx,hr⟩=if n ∈ hiddenL then (⟨d,f,kind,inn,bold,slant,link,n⟩:Dk) else ⟨d,f,kind,inn,bold,slant,link,gone⟩:=by
   rw [hE,if_neg (fun e=>e.elim h_nB h_nStrong),if_neg (fun e=>e.elim h_nI h_nEm),if_neg h_nA,if_neg h_nBr]
  have b_nB:(n == [98])=false:=by simpa [nB] using h_nB
  have b_nStrong:(n == [115,116,114,111,110,103])=false:=by simpa [nStrong] using h_nStrong
  have b_nI:(n == [105])=false:=by simpa [nI] using h_nI
  have b_nEm:(n == [101,109])=false:=by simpa [nEm] using h_nEm
  have b_nA:(n == [97])=false:=by simpa [nA] using h_nA
  have b_nBr:(n == [98,114])=false:=by simpa [nBr] using h_nBr
  clear hE h_nB h_nStrong h_nI h_nEm h_nA h_nBr
  have HD:=Lib.hid (fun w'=>sanHidden_any n w')
  by_cases hmem:n ∈ hiddenL
  ·rw [if_pos hmem] at hE2
   have hF:=Lib.hid hE2
   rw [decide_eq_true hmem] at HD
   clear hE2 hmem
   go_enter Tryz.func71,Tryz.ntmps71
   go_wp2_with fail
   refine (C.out _).mono ?_
   rintro e w1 ⟨rfl,hb1⟩
   have D1:=Lib.hid (H.out.below hb1)
   have hB1:=Lib.hid (btr hb0'.out hb1)
   have hBw:=Lib.hid (hB1.out.mono hB)
   have hx1:=(hb1.block w.heap.size (by simp)).trans hx0'.out
   have t1:w1.cell? ⟨w.heap.size,1,none⟩=some (str n):=by unfold World.cell?;rw [hx1];rfl
   have t3:w1.cell? ⟨w.heap.size,3,none⟩=some (str hr):=by unfold World.cell?;rw [hx1];rfl
   have hx1':=Lib.hid hx1
   obtain ⟨hd,ho,_⟩:=D1.out
   have hd':w1.heap[g]?=some (.cells #[dv,.int .i64 (f:Int),.int .i64 kind,.bool inn,.int .i64 bold,.int .i64 slant,str link,str gone] 113 (0,0)):=hd
   obtain ⟨x0,x1,x2,x3,x4,x5,x6,x7⟩:=D8.of hd'
   have hfz:∀ i,w1.frozen? ⟨g,i,none⟩=false:=fun i=>Lib.frozen_of_heap hd _
   clear hd ho hd' hb1 hx1
   go_wp2_with fail
   refine (HD.out _).mono ?_
   rintro e w2 ⟨rfl,hb2⟩
   have D2:=Lib.hid (D1.out.below hb2)
   have hBw2:=Lib.hid (hBw.out.trans (hb2.mono (Nat.le_trans hB hB1.out.size)))
   have t1':w2.cell? ⟨w.heap.size,1,none⟩=some (str n):=(hb2.cell (p:=⟨w.heap.size,1,none⟩) (lt_of_cell t1)).trans t1
   obtain ⟨hd,ho,_⟩:=D2.out
   have hd':w2.heap[g]?=some (.cells #[dv,.int .i64 (f:Int),.int .i64 kind,.bool inn,.int .i64 bold,.int .i64 slant,str link,str gone] 113 (0,0)):=hd
   clear x0 x1 x2 x3 x4 x5 x6 x7 hfz t1 t3
   obtain ⟨x0,x1,x2,x3,x4,x5,x6,x7⟩:=D8.of hd'
   have hfz:∀ i,w2.frozen? ⟨g,i,none⟩=false:=fun i=>Lib.frozen_of_heap hd _
   clear hd ho hd' hb2
   go_wp2
   go_end0
   exact ⟨rfl,⟨dv,by rw [hF.out];exact D2.out.gone tne _⟩,hBw2.out.setCell (p:=⟨g,7,none⟩) hBg _⟩
  ·rw [if_neg hmem] at hE2
   have hF:=Lib.hid hE2
   rw [decide_eq_false hmem] at HD
   clear hE2 hmem
   go_enter Tryz.func71,Tryz.ntmps71
   go_wp2_with fail
   refine (C.out _).mono ?_
   rintro e w1 ⟨rfl,hb1⟩
   have D1:=Lib.hid (H.out.below hb1)
   have hB1:=Lib.hid (btr hb0'.out hb1)
   have hBw:=Lib.hid (hB1.out.mono hB)
   have hx1:=(hb1.block w.heap.size (by simp)).trans hx0'.out
   have t1:w1.cell? ⟨w.heap.size,1,none⟩=some (str n):=by unfold World.cell?;rw [hx1];rfl
   have t3:w1.cell? ⟨w.heap.size,3,none⟩=some (str hr):=by unfold World.cell?;rw [hx1];rfl
   have hx1':=Lib.hid hx1
   obtain ⟨hd,ho,_⟩:=D1.out
   have hd':w1.heap[g]?=some (.cells #[dv,.int .i64 (f:Int),.int .i64 kind,.bool inn,.int .i64 bold,.int .i64 slant,str link,str gone] 113 (0,0)):=hd
   obtain ⟨x0,x1,x2,x3,x4,x5,x6,x7⟩:=D8.of hd'
   have hfz:∀ i,w1.frozen? ⟨g,i,none⟩=false:=fun i=>Lib.frozen_of_heap hd _
   clear hd ho hd' hb1 hx1
   go_wp2_with fail
   refine (HD.out _).mono ?_
   rintro e w2 ⟨rfl,hb2⟩
   have D2:=Lib.hid (D1.out.below hb2)
   have hBw2:=Lib.hid (hBw.out.trans (hb2.mono (Nat.le_trans hB hB1.out.size)))
   have t1':w2.cell? ⟨w.heap.size,1,none⟩=some (str n):=(hb2.cell (p:=⟨w.heap.size,1,none⟩) (lt_of_cell t1)).trans t1
   obtain ⟨hd,ho,_⟩:=D2.out
   have hd':w2.heap[g]?=some (.cells #[dv,.int .i64 (f:Int),.int .i64 kind,.bool inn,.int .i64 bold,.int .i64 slant,str link,str gone] 113 (0,0)):=hd
   clear x0 x1 x2 x3 x4 x5 x6 x7 hfz t1 t3
   obtain ⟨x0,x1,x2,x3,x4,x5,x6,x7⟩:=D8.of hd'
   have hfz:∀ i,w2.frozen? ⟨g,i,none⟩=false:=fun i=>Lib.frozen_of_heap hd _
   clear hd ho hd' hb2
   go_wp2
   go_end0
   exact ⟨rfl,⟨dv,by rw [hF.out];exact D2.out⟩,hBw2.out⟩
end Go.Proofs.YteikncnldbdfmaaGreatDoor
