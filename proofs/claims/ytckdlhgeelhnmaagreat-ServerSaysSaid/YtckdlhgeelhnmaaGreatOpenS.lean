/- Operations that come in, opened. -/
import Derived.Test.YtckdlhgeelhnmaaGreatOpen
import Derived.ChangeArms
import Derived.Test.YtckdlhgeelhnmaaGreatSvB
namespace Go.Proofs.YtckdlhgeelhnmaaGreat
open Go.RowKit Go.Mh Go.Deep

section
variable {H : Type} {enc : TypeId × Value → H} {w : World} {held : Bool}

theorem under_Part : Tryz.prog.underlying 112 = some (.struct (Tryz.prog.fieldsOf 112)) := by kernel_rfl
theorem fields_Part : (Tryz.prog.fieldsOf 112).toList.map (fun f => (f.name, f.type, f.offset)) = [("Kind", 3, 0), ("N", 3, 1), ("Items", 33, 2), ("Set", 3, 3), ("Clear", 3, 4), ("To", 4, 5), ("Link", 9, 6)] := by kernel_rfl
theorem cells_Part : Tryz.prog.cellsOf 112 = 7 := by kernel_rfl
theorem cells_Items : Tryz.prog.cellsOf 33 = 1 := by kernel_rfl

theorem part_of {fuel : Nat} {cs : List Value} {x : DataW H × List MemPlace} (h : DataW.trod enc Tryz.prog w 0 (fun _ => true) held fuel 112 cs = some x) : ∃ y : Pt, RPt (fun _ => True) w cs y := by
  have hl := trod_len under_Part h
  rw [cells_Part] at hl
  match cs, hl with
  | [c0, c1, c2, c3, c4, c5, c6], _ =>
    obtain ⟨n0, z0, h0⟩ := trod_field under_Part fields_Part h 0 _ rfl
    obtain ⟨n1, z1, h1⟩ := trod_field under_Part fields_Part h 1 _ rfl
    obtain ⟨n2, z2, h2⟩ := trod_field under_Part fields_Part h 2 _ rfl
    obtain ⟨n3, z3, h3⟩ := trod_field under_Part fields_Part h 3 _ rfl
    obtain ⟨n4, z4, h4⟩ := trod_field under_Part fields_Part h 4 _ rfl
    obtain ⟨n5, z5, h5⟩ := trod_field under_Part fields_Part h 5 _ rfl
    obtain ⟨n6, z6, h6⟩ := trod_field under_Part fields_Part h 6 _ rfl
    simp only [cells_int, cells_string, cells_bool, cells_Items] at h0 h1 h2 h3 h4 h5 h6
    obtain ⟨a0, e0, _, _⟩ := DataW.trod_int Tryz.underlying3 h0
    obtain ⟨a1, e1, _, _⟩ := DataW.trod_int Tryz.underlying3 h1
    obtain ⟨a3, e3, _, _⟩ := DataW.trod_int Tryz.underlying3 h3
    obtain ⟨a4, e4, _, _⟩ := DataW.trod_int Tryz.underlying3 h4
    obtain ⟨a5, e5, _⟩ := DataW.trod_bool Tryz.underlying4 h5
    obtain ⟨s, e6, _, _⟩ := DataW.trod_string Tryz.underlying9 h6
    simp at e0 e1 e3 e4 e5 e6 h2
    subst e0 e1 e3 e4 e5 e6
    obtain ⟨l, rfl⟩ := str_of s
    have hs : ∃ sa sn sc, c2 = .slice sa sn sc := by
      rcases open_slice Tryz.underlying33 h2 with ⟨hcs, _⟩ | ⟨ad, len', cap', m, n, D, Pl, hcs, _⟩
      · simp at hcs; exact ⟨_, _, _, hcs⟩
      · simp at hcs; exact ⟨_, _, _, hcs⟩
    obtain ⟨sa, sn, sc, rfl⟩ := hs
    obtain ⟨L, hL⟩ := open_doc Tryz.underlying33 h2
    exact ⟨⟨a0, a1, L, a3, a4, a5, l⟩, _, rfl, hL⟩

instance : Inhabited Pt := ⟨⟨0, 0, [], 0, 0, false, []⟩⟩

theorem open_op {t : TypeId} {fuel len cap : Nat} {a : Option Addr} {x : DataW H × List MemPlace} (ht : Tryz.prog.underlying t = some (.slice 112))
    (h : DataW.trod enc Tryz.prog w 0 (fun _ => true) held fuel t (Value.slice a len cap).cells.toList = some x) : ∃ L : List Pt, ROp (fun _ => True) w (.slice a len cap) L :=
  RdS.ofTrod ht cells_Part (by decide) (fun n cs y hy => part_of hy) h
end
end Go.Proofs.YtckdlhgeelhnmaaGreat
/- Clients and messages that come in, opened. -/
namespace Go.Proofs.YtckdlhgeelhnmaaGreat
open Go.RowKit Go.Mh Go.Deep

section
variable {H : Type} {enc : TypeId × Value → H} {w : World} {held : Bool}

theorem cells_Doc : Tryz.prog.cellsOf 34 = 1 := by kernel_rfl
theorem cells_Op : Tryz.prog.cellsOf 39 = 1 := by kernel_rfl
theorem under_Entry : Tryz.prog.underlying 41 = some (.struct (Tryz.prog.fieldsOf 41)) := by kernel_rfl
theorem fields_Entry : (Tryz.prog.fieldsOf 41).toList.map (fun f => (f.name, f.type, f.offset)) = [("Client", 3, 0), ("Seq", 3, 1), ("O", 39, 2)] := by kernel_rfl
theorem cells_Entry : Tryz.prog.cellsOf 41 = 3 := by kernel_rfl
theorem doc_of {fuel : Nat} {v : Value} {x : DataW H × List MemPlace} (h : DataW.trod enc Tryz.prog w 0 (fun _ => true) held fuel 34 [v] = some x) : ∃ L : List It, RItems (fun _ => True) w v L := by
  have hs : ∃ sa sn sc, v = .slice sa sn sc := by
    rcases open_slice Tryz.underlying34 h with ⟨hcs, _⟩ | ⟨ad, len', cap', m, n, D, Pl, hcs, _⟩
    · simp at hcs; exact ⟨_, _, _, hcs⟩
    · simp at hcs; exact ⟨_, _, _, hcs⟩
  obtain ⟨sa, sn, sc, rfl⟩ := hs
  exact open_doc Tryz.underlying34 h
theorem op_of {fuel : Nat} {v : Value} {x : DataW H × List MemPlace} (h : DataW.trod enc Tryz.prog w 0 (fun _ => true) held fuel 39 [v] = some x) : ∃ L : List Pt, ROp (fun _ => True) w v L := by
  have hs : ∃ sa sn sc, v = .slice sa sn sc := by
    rcases open_slice Tryz.underlying39 h with ⟨hcs, _⟩ | ⟨ad, len', cap', m, n, D, Pl, hcs, _⟩
    · simp at hcs; exact ⟨_, _, _, hcs⟩
    · simp at hcs; exact ⟨_, _, _, hcs⟩
  obtain ⟨sa, sn, sc, rfl⟩ := hs
  exact open_op Tryz.underlying39 h

end
end Go.Proofs.YtckdlhgeelhnmaaGreat
/- Servers and entries that come in, opened. -/
namespace Go.Proofs.YtckdlhgeelhnmaaGreat
open Go.RowKit Go.Mh Go.Deep

section
variable {H : Type} {enc : TypeId × Value → H} {w : World} {held : Bool}

theorem under_Server : Tryz.prog.underlying 37 = some (.struct (Tryz.prog.fieldsOf 37)) := by kernel_rfl
theorem fields_Server : (Tryz.prog.fieldsOf 37).toList.map (fun f => (f.name, f.type, f.offset)) = [("First", 34, 0), ("Log", 35, 1), ("Now", 34, 2)] := by kernel_rfl
theorem cells_Server : Tryz.prog.cellsOf 37 = 3 := by kernel_rfl
theorem cells_Log : Tryz.prog.cellsOf 35 = 1 := by kernel_rfl
instance : Inhabited En := ⟨⟨0, 0, []⟩⟩

theorem entry_of {fuel : Nat} {cs : List Value} {x : DataW H × List MemPlace} (h : DataW.trod enc Tryz.prog w 0 (fun _ => true) held fuel 41 cs = some x) : ∃ e : En, REn (fun _ => True) w cs e := by
  have hl := trod_len under_Entry h
  rw [cells_Entry] at hl
  match cs, hl with
  | [c0, c1, c2], _ =>
    obtain ⟨m0, y0, g0⟩ := trod_field under_Entry fields_Entry h 0 _ rfl
    obtain ⟨m1, y1, g1⟩ := trod_field under_Entry fields_Entry h 1 _ rfl
    obtain ⟨m2, y2, g2⟩ := trod_field under_Entry fields_Entry h 2 _ rfl
    simp only [cells_int, cells_Op] at g0 g1 g2
    obtain ⟨a1, e1, _, _⟩ := DataW.trod_int Tryz.underlying3 g0
    obtain ⟨a2, e2, _, _⟩ := DataW.trod_int Tryz.underlying3 g1
    simp at e1 e2 g2
    subst e1 e2
    obtain ⟨L, r⟩ := op_of g2
    exact ⟨⟨a1, a2, L⟩, _, rfl, r⟩
theorem log_of {fuel : Nat} {v : Value} {x : DataW H × List MemPlace} (h : DataW.trod enc Tryz.prog w 0 (fun _ => true) held fuel 35 [v] = some x) : ∃ L : List En, RLog (fun _ => True) w v L := by
  have hs : ∃ sa sn sc, v = .slice sa sn sc := by
    rcases open_slice Tryz.underlying35 h with ⟨hcs, _⟩ | ⟨ad, len', cap', m, n, D, Pl, hcs, _⟩
    · simp at hcs; exact ⟨_, _, _, hcs⟩
    · simp at hcs; exact ⟨_, _, _, hcs⟩
  obtain ⟨sa, sn, sc, rfl⟩ := hs
  exact RdS.ofTrod Tryz.underlying35 cells_Entry (by decide) (fun n cs y hy => entry_of hy) h
theorem server_of {fuel : Nat} {cs : List Value} {x : DataW H × List MemPlace} (h : DataW.trod enc Tryz.prog w 0 (fun _ => true) held fuel 37 cs = some x) : ∃ s : Srv, RSrv (fun _ => True) w (.agg cs.toArray) s := by
  have hl := trod_len under_Server h
  rw [cells_Server] at hl
  match cs, hl with
  | [c0, c1, c2], _ =>
    obtain ⟨m0, y0, g0⟩ := trod_field under_Server fields_Server h 0 _ rfl
    obtain ⟨m1, y1, g1⟩ := trod_field under_Server fields_Server h 1 _ rfl
    obtain ⟨m2, y2, g2⟩ := trod_field under_Server fields_Server h 2 _ rfl
    simp only [cells_Doc, cells_Log] at g0 g1 g2
    simp at g0 g1 g2
    obtain ⟨L0, r0⟩ := doc_of g0
    obtain ⟨L1, r1⟩ := log_of g1
    obtain ⟨L2, r2⟩ := doc_of g2
    exact ⟨⟨L0, L1, L2⟩, _, _, _, rfl, r0, r1, r2⟩

set_option maxRecDepth 100000 in
open Go.WideShapes in
theorem open_server {r : Reach} {b0 : Nat} {v : Value} {d : DataW H} {p : List MemPlace} (hv : Value.okWide Tryz.prog w r b0 37 v)
    (h : DataW.Trod enc Tryz.prog w 0 (fun _ => true) held 37 v d p) : ∃ s : Srv, RSrv (fun _ => True) w v s := by
  obtain ⟨cs, hcs, hsz⟩ : ∃ cs, v = .agg cs ∧ cs.size = Tryz.prog.cellsOf 37 := okWide_struct under_Server hv
  subst hcs
  obtain ⟨fuel, hf⟩ := h
  obtain ⟨c, hc⟩ := server_of (cs := cs.toList) hf
  exact ⟨c, by simpa using hc⟩
set_option maxRecDepth 100000 in
open Go.WideShapes in
theorem open_entry {r : Reach} {b0 : Nat} {v : Value} {d : DataW H} {p : List MemPlace} (hv : Value.okWide Tryz.prog w r b0 41 v)
    (h : DataW.Trod enc Tryz.prog w 0 (fun _ => true) held 41 v d p) : ∃ (x : En) (ov : Value), v = .agg #[.int .i64 x.client, .int .i64 x.seq, ov] ∧ ROp (fun _ => True) w ov x.o := by
  obtain ⟨cs, hcs, hsz⟩ : ∃ cs, v = .agg cs ∧ cs.size = Tryz.prog.cellsOf 41 := okWide_struct under_Entry hv
  subst hcs
  obtain ⟨fuel, hf⟩ := h
  obtain ⟨x, ov, e, ro⟩ := entry_of (cs := cs.toList) hf
  refine ⟨x, ov, ?_, ro⟩
  obtain ⟨l⟩ := cs
  simp at e
  subst e
  rfl
end
end Go.Proofs.YtckdlhgeelhnmaaGreat
