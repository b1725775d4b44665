import Derived.Test.YteikncnldbdfmaaGreatDoorQOpen
import Derived.Test.YteikncnldbdfmaaGreatDoorQCl
import Derived.Test.YteikncnldbdfmaaGreatDoorQSvB
import Derived.Test.YteikncnldbdfmaaGreatDoorQWdR
namespace Go.Proofs.YteikncnldbdfmaaGreatDoor
open Go.RowKit Go.Mh Go.Deep
section
variable {H : Type} {enc : TypeId × Value → H} {w : World} {held : Bool}
theorem under_Client : Tryz.prog.underlying 52 = some (.struct (Tryz.prog.fieldsOf 52)):=by kernel_rfl
theorem fields_Client : (Tryz.prog.fieldsOf 52).toList.map (fun f => (f.name, f.type, f.offset)) = [("Rev", 3, 0), ("Base", 23, 1), ("Now", 23, 2), ("Seq", 3, 3), ("Sent", 40, 4), ("Held", 40, 5), ("Joined", 4, 6)] := by kernel_rfl
theorem cells_Client : Tryz.prog.cellsOf 52 = 7:=by kernel_rfl
theorem cells_Doc : Tryz.prog.cellsOf 23 = 1:=by kernel_rfl
theorem cells_Op : Tryz.prog.cellsOf 40 = 1:=by kernel_rfl
theorem under_Entry : Tryz.prog.underlying 77 = some (.struct (Tryz.prog.fieldsOf 77)):=by kernel_rfl
theorem fields_Entry : (Tryz.prog.fieldsOf 77).toList.map (fun f => (f.name, f.type, f.offset)) = [("Client", 3, 0), ("Seq", 3, 1), ("O", 40, 2)] := by kernel_rfl
theorem cells_Entry : Tryz.prog.cellsOf 77 = 3:=by kernel_rfl
theorem under_Message : Tryz.prog.underlying 79 = some (.struct (Tryz.prog.fieldsOf 79)):=by kernel_rfl
theorem fields_Message : (Tryz.prog.fieldsOf 79).toList.map (fun f => (f.name, f.type, f.offset)) = [("Rev", 3, 0), ("E", 77, 1)] := by kernel_rfl
theorem cells_Message : Tryz.prog.cellsOf 79 = 4:=by kernel_rfl
theorem doc_of {fuel : Nat} {v : Value} {x : DataW H × List MemPlace} (h : DataW.trod enc Tryz.prog w 0 (fun _ => true) held fuel 23 [v] = some x) : ∃ L : List It,RItems (fun _ => True) w v L:=by
 have hs : ∃ sa sn sc,v = .slice sa sn sc:=by
  rcases open_slice Tryz.underlying23 h with ⟨hcs,_⟩ | ⟨ad,len',cap',m,n,D,Pl,hcs,_⟩
  ·simp at hcs;exact ⟨_,_,_,hcs⟩
  ·simp at hcs;exact ⟨_,_,_,hcs⟩
 obtain ⟨sa,sn,sc,rfl⟩:=hs
 exact open_doc Tryz.underlying23 h
theorem op_of {fuel : Nat} {v : Value} {x : DataW H × List MemPlace} (h : DataW.trod enc Tryz.prog w 0 (fun _ => true) held fuel 40 [v] = some x) : ∃ L : List Pt,ROp (fun _ => True) w v L:=by
 have hs : ∃ sa sn sc,v = .slice sa sn sc:=by
  rcases open_slice Tryz.underlying40 h with ⟨hcs,_⟩ | ⟨ad,len',cap',m,n,D,Pl,hcs,_⟩
  ·simp at hcs;exact ⟨_,_,_,hcs⟩
  ·simp at hcs;exact ⟨_,_,_,hcs⟩
 obtain ⟨sa,sn,sc,rfl⟩:=hs
 exact open_op Tryz.underlying40 h
theorem client_of {fuel : Nat} {cs : List Value} {x : DataW H × List MemPlace} (h : DataW.trod enc Tryz.prog w 0 (fun _ => true) held fuel 52 cs = some x) : ∃ c : Cl,RCl (fun _ => True) w (.agg cs.toArray) c:=by
 have hl:=trod_len under_Client h
 rw [cells_Client] at hl
 match cs,hl with
 | [c0,c1,c2,c3,c4,c5,c6],_ =>
  obtain ⟨n0,z0,h0⟩:=trod_field under_Client fields_Client h 0 _ rfl
  obtain ⟨n1,z1,h1⟩:=trod_field under_Client fields_Client h 1 _ rfl
  obtain ⟨n2,z2,h2⟩:=trod_field under_Client fields_Client h 2 _ rfl
  obtain ⟨n3,z3,h3⟩:=trod_field under_Client fields_Client h 3 _ rfl
  obtain ⟨n4,z4,h4⟩:=trod_field under_Client fields_Client h 4 _ rfl
  obtain ⟨n5,z5,h5⟩:=trod_field under_Client fields_Client h 5 _ rfl
  obtain ⟨n6,z6,h6⟩:=trod_field under_Client fields_Client h 6 _ rfl
  simp only [cells_int,cells_bool,cells_Doc,cells_Op] at h0 h1 h2 h3 h4 h5 h6
  obtain ⟨a0,e0,_,_⟩:=DataW.trod_int Tryz.underlying3 h0
  obtain ⟨a3,e3,_,_⟩:=DataW.trod_int Tryz.underlying3 h3
  obtain ⟨a6,e6,_⟩:=DataW.trod_bool Tryz.underlying4 h6
  simp at e0 e3 e6 h1 h2 h4 h5
  subst e0 e3 e6
  obtain ⟨L1,r1⟩:=doc_of h1
  obtain ⟨L2,r2⟩:=doc_of h2
  obtain ⟨L4,r4⟩:=op_of h4
  obtain ⟨L5,r5⟩:=op_of h5
  exact ⟨⟨a0,L1,L2,a3,L4,L5,a6⟩,_,_,_,_,rfl,r1,r2,r4,r5⟩
theorem message_of {fuel : Nat} {cs : List Value} {x : DataW H × List MemPlace} (h : DataW.trod enc Tryz.prog w 0 (fun _ => true) held fuel 79 cs = some x) : ∃ (m : Msg) (ov : Value),cs = [.int .i64 m.rev,.int .i64 m.e.client,.int .i64 m.e.seq,ov] ∧ ROp (fun _ => True) w ov m.e.o:=by
 have hl:=trod_len under_Message h
 rw [cells_Message] at hl
 match cs,hl with
 | [c0,c1,c2,c3],_ =>
  obtain ⟨n0,z0,h0⟩:=trod_field under_Message fields_Message h 0 _ rfl
  obtain ⟨n1,z1,h1⟩:=trod_field under_Message fields_Message h 1 _ rfl
  simp only [cells_int,cells_Entry] at h0 h1
  obtain ⟨a0,e0,_,_⟩:=DataW.trod_int Tryz.underlying3 h0
  simp at e0 h1
  subst e0
  obtain ⟨m0,y0,g0⟩:=trod_field under_Entry fields_Entry h1 0 _ rfl
  obtain ⟨m1,y1,g1⟩:=trod_field under_Entry fields_Entry h1 1 _ rfl
  obtain ⟨m2,y2,g2⟩:=trod_field under_Entry fields_Entry h1 2 _ rfl
  simp only [cells_int,cells_Op] at g0 g1 g2
  obtain ⟨a1,e1,_,_⟩:=DataW.trod_int Tryz.underlying3 g0
  obtain ⟨a2,e2,_,_⟩:=DataW.trod_int Tryz.underlying3 g1
  simp at e1 e2 g2
  subst e1 e2
  obtain ⟨L,r⟩:=op_of g2
  exact ⟨⟨a0,⟨a1,a2,L⟩⟩,_,rfl,r⟩
end
end Go.Proofs.YteikncnldbdfmaaGreatDoor
namespace Go.Proofs.YteikncnldbdfmaaGreatDoor
open Go.RowKit Go.Mh Go.Deep
section
variable {H : Type} {enc : TypeId × Value → H} {w : World} {held : Bool}
theorem under_Server : Tryz.prog.underlying 26 = some (.struct (Tryz.prog.fieldsOf 26)):=by kernel_rfl
theorem fields_Server : (Tryz.prog.fieldsOf 26).toList.map (fun f => (f.name, f.type, f.offset)) = [("First", 23, 0), ("Log", 24, 1), ("Now", 23, 2)] := by kernel_rfl
theorem cells_Server : Tryz.prog.cellsOf 26 = 3:=by kernel_rfl
theorem cells_Log : Tryz.prog.cellsOf 24 = 1:=by kernel_rfl
instance : Inhabited En:=⟨⟨0,0,[]⟩⟩
theorem entry_of {fuel : Nat} {cs : List Value} {x : DataW H × List MemPlace} (h : DataW.trod enc Tryz.prog w 0 (fun _ => true) held fuel 77 cs = some x) : ∃ e : En,REn (fun _ => True) w cs e:=by
 have hl:=trod_len under_Entry h
 rw [cells_Entry] at hl
 match cs,hl with
 | [c0,c1,c2],_ =>
  obtain ⟨m0,y0,g0⟩:=trod_field under_Entry fields_Entry h 0 _ rfl
  obtain ⟨m1,y1,g1⟩:=trod_field under_Entry fields_Entry h 1 _ rfl
  obtain ⟨m2,y2,g2⟩:=trod_field under_Entry fields_Entry h 2 _ rfl
  simp only [cells_int,cells_Op] at g0 g1 g2
  obtain ⟨a1,e1,_,_⟩:=DataW.trod_int Tryz.underlying3 g0
  obtain ⟨a2,e2,_,_⟩:=DataW.trod_int Tryz.underlying3 g1
  simp at e1 e2 g2
  subst e1 e2
  obtain ⟨L,r⟩:=op_of g2
  exact ⟨⟨a1,a2,L⟩,_,rfl,r⟩
theorem log_of {fuel : Nat} {v : Value} {x : DataW H × List MemPlace} (h : DataW.trod enc Tryz.prog w 0 (fun _ => true) held fuel 24 [v] = some x) : ∃ L : List En,RLog (fun _ => True) w v L:=by
 have hs : ∃ sa sn sc,v = .slice sa sn sc:=by
  rcases open_slice Tryz.underlying24 h with ⟨hcs,_⟩ | ⟨ad,len',cap',m,n,D,Pl,hcs,_⟩
  ·simp at hcs;exact ⟨_,_,_,hcs⟩
  ·simp at hcs;exact ⟨_,_,_,hcs⟩
 obtain ⟨sa,sn,sc,rfl⟩:=hs
 exact RdS.ofTrod Tryz.underlying24 cells_Entry (by decide) (fun n cs y hy => entry_of hy) h
theorem server_of {fuel : Nat} {cs : List Value} {x : DataW H × List MemPlace} (h : DataW.trod enc Tryz.prog w 0 (fun _ => true) held fuel 26 cs = some x) : ∃ s : Srv,RSrv (fun _ => True) w (.agg cs.toArray) s:=by
 have hl:=trod_len under_Server h
 rw [cells_Server] at hl
 match cs,hl with
 | [c0,c1,c2],_ =>
  obtain ⟨m0,y0,g0⟩:=trod_field under_Server fields_Server h 0 _ rfl
  obtain ⟨m1,y1,g1⟩:=trod_field under_Server fields_Server h 1 _ rfl
  obtain ⟨m2,y2,g2⟩:=trod_field under_Server fields_Server h 2 _ rfl
  simp only [cells_Doc,cells_Log] at g0 g1 g2
  simp at g0 g1 g2
  obtain ⟨L0,r0⟩:=doc_of g0
  obtain ⟨L1,r1⟩:=log_of g1
  obtain ⟨L2,r2⟩:=doc_of g2
  exact ⟨⟨L0,L1,L2⟩,_,_,_,rfl,r0,r1,r2⟩
end
end Go.Proofs.YteikncnldbdfmaaGreatDoor
namespace Go.Proofs.YteikncnldbdfmaaGreatDoor
open Go.RowKit Go.Mh Go.Deep
section
variable {H : Type} {enc : TypeId × Value → H} {w : World} {held : Bool}
theorem under_World : Tryz.prog.underlying 30 = some (.struct (Tryz.prog.fieldsOf 30)):=by kernel_rfl
theorem fields_World : (Tryz.prog.fieldsOf 30).toList.map (fun f => (f.name, f.type, f.offset)) = [("S", 26, 0), ("Clients", 27, 3), ("Up", 28, 4), ("Down", 28, 5)] := by kernel_rfl
theorem cells_World : Tryz.prog.cellsOf 30 = 6:=by kernel_rfl
theorem cells_Clients : Tryz.prog.cellsOf 27 = 1:=by kernel_rfl
theorem cells_Queue : Tryz.prog.cellsOf 65 = 1:=by kernel_rfl
theorem cells_Queues : Tryz.prog.cellsOf 28 = 1:=by kernel_rfl
theorem under_Hap : Tryz.prog.underlying 43 = some (.struct (Tryz.prog.fieldsOf 43)):=by kernel_rfl
theorem fields_Hap : (Tryz.prog.fieldsOf 43).toList.map (fun f => (f.name, f.type, f.offset)) = [("Kind", 3, 0), ("Client", 3, 1), ("N", 3, 2), ("O", 40, 3), ("B", 41, 4)] := by kernel_rfl
theorem cells_Hap : Tryz.prog.cellsOf 43 = 5:=by kernel_rfl
theorem cells_Bytes : Tryz.prog.cellsOf 41 = 1:=by kernel_rfl
instance : Inhabited Cl:=⟨cl0⟩
instance : Inhabited Msg:=⟨⟨0,⟨0,0,[]⟩⟩⟩
instance : Inhabited Hap:=⟨⟨0,0,0,[],[]⟩⟩
theorem slice_of {t e : TypeId} (ht : Tryz.prog.underlying t = some (.slice e)) {fuel : Nat} {v : Value} {x : DataW H × List MemPlace} (h : DataW.trod enc Tryz.prog w 0 (fun _ => true) held fuel t [v] = some x) : ∃ sa sn sc,v = .slice sa sn sc:=by
 rcases open_slice ht h with ⟨hcs,_⟩ | ⟨ad,len',cap',m,n,D,Pl,hcs,_⟩
 ·simp at hcs;exact ⟨_,_,_,hcs⟩
 ·simp at hcs;exact ⟨_,_,_,hcs⟩
theorem clients_of {fuel : Nat} {v : Value} {x : DataW H × List MemPlace} (h : DataW.trod enc Tryz.prog w 0 (fun _ => true) held fuel 27 [v] = some x) : ∃ L : List Cl,RdS 7 (RClc fun _ => True) (fun _ => True) w v L:=by
 obtain ⟨sa,sn,sc,rfl⟩:=slice_of Tryz.underlying27 h
 exact RdS.ofTrod Tryz.underlying27 cells_Client (by decide) (fun n cs y hy => by
  obtain ⟨c,b,n,s,h,e,r⟩:=client_of hy
  exact ⟨c,b,n,s,h,by simpa using e,r⟩) h
theorem queue_of {fuel : Nat} {v : Value} {x : DataW H × List MemPlace} (h : DataW.trod enc Tryz.prog w 0 (fun _ => true) held fuel 65 [v] = some x) : ∃ L : List Msg,RdS 4 (RMsg fun _ => True) (fun _ => True) w v L:=by
 obtain ⟨sa,sn,sc,rfl⟩:=slice_of Tryz.underlying65 h
 exact RdS.ofTrod Tryz.underlying65 cells_Message (by decide) (fun n cs y hy => by
  obtain ⟨m,ov,e,r⟩:=message_of hy
  exact ⟨m,ov,e,r⟩) h
theorem queues_of {fuel : Nat} {v : Value} {x : DataW H × List MemPlace} (h : DataW.trod enc Tryz.prog w 0 (fun _ => true) held fuel 28 [v] = some x) : ∃ L : List (List Msg),RdS 1 (RSl 4 (RMsg fun _ => True) fun _ => True) (fun _ => True) w v L:=by
 obtain ⟨sa,sn,sc,rfl⟩:=slice_of Tryz.underlying28 h
 exact RdS.ofTrod Tryz.underlying28 cells_Queue (by decide) (fun n cs y hy => by
  obtain ⟨c0,rfl⟩ : ∃ c0,cs = [c0]:=by
   rcases open_slice Tryz.underlying65 hy with ⟨hcs,_⟩ | ⟨ad,len',cap',m,n,D,Pl,hcs,_⟩
   ·exact ⟨_,hcs⟩
   ·exact ⟨_,hcs⟩
  obtain ⟨L,r⟩:=queue_of hy
  exact ⟨L,c0,rfl,r⟩) h
theorem world_of {fuel : Nat} {cs : List Value} {x : DataW H × List MemPlace} (h : DataW.trod enc Tryz.prog w 0 (fun _ => true) held fuel 30 cs = some x) : ∃ W : Wd,RWd (fun _ => True) w (.agg cs.toArray) W:=by
 have hl:=trod_len under_World h
 rw [cells_World] at hl
 match cs,hl with
 | [c0,c1,c2,c3,c4,c5],_ =>
  obtain ⟨n0,z0,h0⟩:=trod_field under_World fields_World h 0 _ rfl
  obtain ⟨n1,z1,h1⟩:=trod_field under_World fields_World h 1 _ rfl
  obtain ⟨n2,z2,h2⟩:=trod_field under_World fields_World h 2 _ rfl
  obtain ⟨n3,z3,h3⟩:=trod_field under_World fields_World h 3 _ rfl
  simp only [cells_Server,cells_Clients,cells_Queues] at h0 h1 h2 h3
  simp at h0 h1 h2 h3
  obtain ⟨s,r0⟩:=server_of h0
  obtain ⟨cl,r1⟩:=clients_of h1
  obtain ⟨up,r2⟩:=queues_of h2
  obtain ⟨dn,r3⟩:=queues_of h3
  exact ⟨⟨s,cl,up,dn⟩,_,_,_,_,_,_,rfl,by simpa using r0,r1,r2,r3⟩
theorem hap_of {fuel : Nat} {cs : List Value} {x : DataW H × List MemPlace} (h : DataW.trod enc Tryz.prog w 0 (fun _ => true) held fuel 43 cs = some x) : ∃ y : Hap,RHc (fun _ => True) w cs y:=by
 have hl:=trod_len under_Hap h
 rw [cells_Hap] at hl
 match cs,hl with
 | [c0,c1,c2,c3,c4],_ =>
  obtain ⟨n0,z0,h0⟩:=trod_field under_Hap fields_Hap h 0 _ rfl
  obtain ⟨n1,z1,h1⟩:=trod_field under_Hap fields_Hap h 1 _ rfl
  obtain ⟨n2,z2,h2⟩:=trod_field under_Hap fields_Hap h 2 _ rfl
  obtain ⟨n3,z3,h3⟩:=trod_field under_Hap fields_Hap h 3 _ rfl
  obtain ⟨n4,z4,h4⟩:=trod_field under_Hap fields_Hap h 4 _ rfl
  simp only [cells_int,cells_Op,cells_Bytes] at h0 h1 h2 h3 h4
  obtain ⟨a0,e0,_,_⟩:=DataW.trod_int Tryz.underlying3 h0
  obtain ⟨a1,e1,_,_⟩:=DataW.trod_int Tryz.underlying3 h1
  obtain ⟨a2,e2,_,_⟩:=DataW.trod_int Tryz.underlying3 h2
  simp at e0 e1 e2 h3 h4
  subst e0 e1 e2
  obtain ⟨L,r3⟩:=op_of h3
  obtain ⟨sa,sn,sc,rfl⟩:=slice_of Tryz.underlying41 h4
  obtain ⟨b,r4⟩:=open_bytes Tryz.underlying41 h4
  obtain ⟨oa,oc,rfl,_⟩:=RdS.len r3
  obtain ⟨ba,bc,e,_⟩:=RdS.len r4
  rw [e] at r4
  refine ⟨⟨a0,a1,a2,L,b⟩,oa,oc,ba,bc, ?_,r3,r4⟩
  rw [e]
set_option maxRecDepth 100000 in
open Go.WideShapes in
theorem open_world {r : Reach} {b0 : Nat} {v : Value} {d : DataW H} {p : List MemPlace} (hv : Value.okWide Tryz.prog w r b0 30 v)
  (h : DataW.Trod enc Tryz.prog w 0 (fun _ => true) held 30 v d p) : ∃ W : Wd,RWd (fun _ => True) w v W:=by
 obtain ⟨cs,hcs,hsz⟩ : ∃ cs,v = .agg cs ∧ cs.size = Tryz.prog.cellsOf 30:=okWide_struct under_World hv
 subst hcs
 obtain ⟨fuel,hf⟩:=h
 obtain ⟨c,hc⟩:=world_of (cs:=cs.toList) hf
 exact ⟨c,by simpa using hc⟩
set_option maxRecDepth 100000 in
open Go.WideShapes in
theorem open_hap {r : Reach} {b0 : Nat} {v : Value} {d : DataW H} {p : List MemPlace} (hv : Value.okWide Tryz.prog w r b0 43 v)
  (h : DataW.Trod enc Tryz.prog w 0 (fun _ => true) held 43 v d p) : ∃ x : Hap,RHap (fun _ => True) w v x:=by
 obtain ⟨cs,hcs,hsz⟩ : ∃ cs,v = .agg cs ∧ cs.size = Tryz.prog.cellsOf 43:=okWide_struct under_Hap hv
 subst hcs
 obtain ⟨fuel,hf⟩:=h
 obtain ⟨x,oa,oc,ba,bc,e,r1,r2⟩:=hap_of (cs:=cs.toList) hf
 refine ⟨x,oa,oc,ba,bc, ?_,r1,r2⟩
 obtain ⟨l⟩:=cs
 simp at e
 subst e
 rfl
end
end Go.Proofs.YteikncnldbdfmaaGreatDoor
