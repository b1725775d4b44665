import Derived.Test.YteikncnldbdfmaaGreatDoorZMet
import Derived.Test.YteikncnldbdfmaaGreatDoorZPlayH
import Derived.Test.YteikncnldbdfmaaGreatDoorZHolds1
namespace Go.Proofs.YteikncnldbdfmaaGreatDoor
open Go Go.RowKit Go.Mh
set_option maxRecDepth 100000 in
set_option maxHeartbeats 4000000 in
theorem worldHolds_walk (F G:Nat→Prop) (v u:Value) (d:List It) (n:Int) (l:List Hap) (w:World) (hm:∃ m,w.cell? ⟨2,0,none⟩=some (.int .i64 m)) (hd:RItems F w v d) (hl:RHaps G w u l) :
  Calls Tryz.prog 7 #[v,.int .i64 n,u] w fun e w'=>e=.returned (.bool true)∧Below w.heap.size w w':=by
 obtain ⟨aa,ac,rfl,_⟩:=RdS.len hd
 obtain ⟨la,lc,rfl,_⟩:=RdS.len hl
 have C1:=Lib.hid (met_any w hm)
 replace hm:=Lib.hid hm
 replace hd:=Lib.hid (RItems.to hd (Kp.lt w))
 replace hl:=Lib.hid (RHaps.to hl (Kp.lt w))
 go_enter Tryz.func7,Tryz.ntmps7
 go_wp2_with fail
 refine C1.out.mono ?_
 rintro e w1 ⟨rfl,hb1⟩
 have C2:=Lib.hid (check_any _ _ d w1 (RItems.to hd.out (Kp.below hb1)))
 go_wp2_with fail
 refine C2.out.mono ?_
 rintro e w2 ⟨rfl,hb2⟩
 have hb02:=Lib.hid (btr hb1 hb2)
 have hm2:=Lib.hid (max_keep hm.out hb02.out)
 clear C1 C2 hb1 hb2
 by_cases hc:chkDoc d=0
 ·have hc':(chkDoc d != 0)=false:=by simpa using hc
  have CA:=Lib.hid (at_any n 4 (by decide) (by decide) w2)
  replace hc:=Lib.hid hc
  go_wp2_with fail
  refine CA.out.mono ?_
  rintro e w3 ⟨m,rfl,m0,m4,hb3⟩
  have hb03:=btr hb02.out hb3
  have hwm:wrap64 (1+m)=1+m:=wrap_w (by omega) (by omega)
  have CP:=Lib.hid (playedH_any _ _ _ _ d (1+m) l w3 (RItems.to hd.out (Kp.below hb03)) (RHaps.to hl.out (Kp.below hb03)) (max_keep hm.out hb03) hc.out (by omega) (by omega) (fun V q w' hq hI=>holds1_any V q w' hq hI))
  replace hb03:=Lib.hid hb03
  clear CA hb3 m0 m4
  go_wp2_with fail
  refine CP.out.mono ?_
  rintro e w4 ⟨r,V,rfl,hr,hI,hb4⟩
  obtain ⟨a1,a2,l1,l2,n1,n2,c1,c2,u1,u2,d1,d2,rfl⟩:=RWd.shape hr
  have hb04:=Lib.hid (btr hb03.out hb4)
  clear hr hI hb4 CP
  go_wp2
  go_ret
  exact ⟨rfl,bal hb04.out _⟩
 ·have hc':(chkDoc d != 0)=true:=by simpa using hc
  have C3:=Lib.hid (met_any w2 hm2.out)
  clear hc
  go_wp2_with fail
  refine C3.out.mono ?_
  rintro e w3 ⟨rfl,hb3⟩
  go_wp2
  go_ret
  exact ⟨rfl,btr hb02.out hb3⟩
end Go.Proofs.YteikncnldbdfmaaGreatDoor
