import Derived.Test.YteikncnldbdfmaaGreatDoorMOpen
import Derived.Test.YteikncnldbdfmaaGreatDoorMCl
import Derived.Test.YteikncnldbdfmaaGreatDoorMSvB
import Derived.Test.YteikncnldbdfmaaGreatDoorMWdR
namespace Go.Proofs.YteikncnldbdfmaaGreatDoor
open Go.RowKit Go.Mh Go.Deep
section
variable {H:Type} {enc:TypeId × Value→H} {w:World} {held:Bool}
theorem cells_Op:Tryz.prog.cellsOf 40=1:=by kernel_rfl
theorem op_of {fuel:Nat} {v:Value} {x:DataW H × List MemPlace} (h:DataW.trod enc Tryz.prog w 0 (fun _=>true) held fuel 40 [v]=some x):∃ L:List Pt,ROp (fun _=>True) w v L:=by
 have hs:∃ sa sn sc,v=.slice sa sn sc:=by
  rcases open_slice Tryz.underlying40 h with ⟨hcs,_⟩ | ⟨ad,len',cap',m,n,D,Pl,hcs,_⟩
  ·simp at hcs;exact ⟨_,_,_,hcs⟩
  ·simp at hcs;exact ⟨_,_,_,hcs⟩
 obtain ⟨sa,sn,sc,rfl⟩:=hs
 exact open_op Tryz.underlying40 h
end
end Go.Proofs.YteikncnldbdfmaaGreatDoor
namespace Go.Proofs.YteikncnldbdfmaaGreatDoor
open Go.RowKit Go.Mh Go.Deep
section
variable {H:Type} {enc:TypeId × Value→H} {w:World} {held:Bool}
instance:Inhabited En:=⟨⟨0,0,[]⟩⟩
end
end Go.Proofs.YteikncnldbdfmaaGreatDoor
namespace Go.Proofs.YteikncnldbdfmaaGreatDoor
open Go.RowKit Go.Mh Go.Deep
section
variable {H:Type} {enc:TypeId × Value→H} {w:World} {held:Bool}
theorem under_Hap:Tryz.prog.underlying 43=some (.struct (Tryz.prog.fieldsOf 43)):=by kernel_rfl
theorem fields_Hap : (Tryz.prog.fieldsOf 43).toList.map (fun f => (f.name, f.type, f.offset)) = [("Kind", 3, 0), ("Client", 3, 1), ("N", 3, 2), ("O", 40, 3), ("B", 41, 4)] := by kernel_rfl
theorem cells_Hap:Tryz.prog.cellsOf 43=5:=by kernel_rfl
theorem cells_Bytes:Tryz.prog.cellsOf 41=1:=by kernel_rfl
instance:Inhabited Cl:=⟨cl0⟩
instance:Inhabited Msg:=⟨⟨0,⟨0,0,[]⟩⟩⟩
instance:Inhabited Hap:=⟨⟨0,0,0,[],[]⟩⟩
theorem slice_of {t e:TypeId} (ht:Tryz.prog.underlying t=some (.slice e)) {fuel:Nat} {v:Value} {x:DataW H × List MemPlace} (h:DataW.trod enc Tryz.prog w 0 (fun _=>true) held fuel t [v]=some x):∃ sa sn sc,v=.slice sa sn sc:=by
 rcases open_slice ht h with ⟨hcs,_⟩ | ⟨ad,len',cap',m,n,D,Pl,hcs,_⟩
 ·simp at hcs;exact ⟨_,_,_,hcs⟩
 ·simp at hcs;exact ⟨_,_,_,hcs⟩
theorem hap_of {fuel:Nat} {cs:List Value} {x:DataW H × List MemPlace} (h:DataW.trod enc Tryz.prog w 0 (fun _=>true) held fuel 43 cs=some x):∃ y:Hap,RHc (fun _=>True) w cs y:=by
 have hl:=trod_len under_Hap h
 rw [cells_Hap] at hl
 match cs,hl with
 | [c0,c1,c2,c3,c4],_ =>
  obtain ⟨n0,z0,h0⟩:=trod_field under_Hap fields_Hap h 0 _ rfl
  obtain ⟨n1,z1,h1⟩:=trod_field under_Hap fields_Hap h 1 _ rfl
  obtain ⟨n2,z2,h2⟩:=trod_field under_Hap fields_Hap h 2 _ rfl
  obtain ⟨n3,z3,h3⟩:=trod_field under_Hap fields_Hap h 3 _ rfl
  obtain ⟨n4,z4,h4⟩:=trod_field under_Hap fields_Hap h 4 _ rfl
  simp only [cells_int,cells_Op,cells_Bytes] at h0 h1 h2 h3 h4
  obtain ⟨a0,e0,_,_⟩:=DataW.trod_int Tryz.underlying3 h0
  obtain ⟨a1,e1,_,_⟩:=DataW.trod_int Tryz.underlying3 h1
  obtain ⟨a2,e2,_,_⟩:=DataW.trod_int Tryz.underlying3 h2
  simp at e0 e1 e2 h3 h4
  subst e0 e1 e2
  obtain ⟨L,r3⟩:=op_of h3
  obtain ⟨sa,sn,sc,rfl⟩:=slice_of Tryz.underlying41 h4
  obtain ⟨b,r4⟩:=open_bytes Tryz.underlying41 h4
  obtain ⟨oa,oc,rfl,_⟩:=RdS.len r3
  obtain ⟨ba,bc,e,_⟩:=RdS.len r4
  rw [e] at r4
  refine ⟨⟨a0,a1,a2,L,b⟩,oa,oc,ba,bc, ?_,r3,r4⟩
  rw [e]
theorem haps_of {fuel:Nat} {v:Value} {x:DataW H × List MemPlace} (h:DataW.trod enc Tryz.prog w 0 (fun _=>true) held fuel 31 [v]=some x):∃ l:List Hap,RHaps (fun _=>True) w v l:=by
 obtain ⟨sa,sn,sc,rfl⟩:=slice_of Tryz.underlying31 h
 exact RdS.ofTrod Tryz.underlying31 cells_Hap (by decide) (fun n cs y hy=>hap_of hy) h
end
end Go.Proofs.YteikncnldbdfmaaGreatDoor
