/- Clients and messages that come in, opened. -/
import Derived.Test.YtgodceplajkcdaaOpenO
import Derived.Test.YtgodceplajkcdaaCl
namespace Go.Proofs.Ytgodceplajkcdaa
open Go.RowKit Go.Mh Go.Deep

section
variable {H : Type} {enc : TypeId × Value → H} {w : World} {held : Bool}

theorem under_Client : Try.prog.underlying 87 = some (.struct (Try.prog.fieldsOf 87)) := by kernel_rfl
theorem fields_Client : (Try.prog.fieldsOf 87).toList.map (fun f => (f.name, f.type, f.offset)) = [("Rev", 3, 0), ("Base", 38, 1), ("Now", 38, 2), ("Seq", 3, 3), ("Sent", 53, 4), ("Held", 53, 5), ("Joined", 4, 6)] := by kernel_rfl
theorem cells_Client : Try.prog.cellsOf 87 = 7 := by kernel_rfl
theorem cells_Doc : Try.prog.cellsOf 38 = 1 := by kernel_rfl
theorem cells_Op : Try.prog.cellsOf 53 = 1 := by kernel_rfl
theorem under_Entry : Try.prog.underlying 76 = some (.struct (Try.prog.fieldsOf 76)) := by kernel_rfl
theorem fields_Entry : (Try.prog.fieldsOf 76).toList.map (fun f => (f.name, f.type, f.offset)) = [("Client", 3, 0), ("Seq", 3, 1), ("O", 53, 2)] := by kernel_rfl
theorem cells_Entry : Try.prog.cellsOf 76 = 3 := by kernel_rfl
theorem under_Message : Try.prog.underlying 89 = some (.struct (Try.prog.fieldsOf 89)) := by kernel_rfl
theorem fields_Message : (Try.prog.fieldsOf 89).toList.map (fun f => (f.name, f.type, f.offset)) = [("Rev", 3, 0), ("E", 76, 1)] := by kernel_rfl
theorem cells_Message : Try.prog.cellsOf 89 = 4 := by kernel_rfl

theorem doc_of {fuel : Nat} {v : Value} {x : DataW H × List MemPlace} (h : DataW.trod enc Try.prog w 0 (fun _ => true) held fuel 38 [v] = some x) : ∃ L : List It, RItems (fun _ => True) w v L := by
  have hs : ∃ sa sn sc, v = .slice sa sn sc := by
    rcases open_slice Try.underlying38 h with ⟨hcs, _⟩ | ⟨ad, len', cap', m, n, D, Pl, hcs, _⟩
    · simp at hcs; exact ⟨_, _, _, hcs⟩
    · simp at hcs; exact ⟨_, _, _, hcs⟩
  obtain ⟨sa, sn, sc, rfl⟩ := hs
  exact open_doc Try.underlying38 h
theorem op_of {fuel : Nat} {v : Value} {x : DataW H × List MemPlace} (h : DataW.trod enc Try.prog w 0 (fun _ => true) held fuel 53 [v] = some x) : ∃ L : List Pt, ROp (fun _ => True) w v L := by
  have hs : ∃ sa sn sc, v = .slice sa sn sc := by
    rcases open_slice Try.underlying53 h with ⟨hcs, _⟩ | ⟨ad, len', cap', m, n, D, Pl, hcs, _⟩
    · simp at hcs; exact ⟨_, _, _, hcs⟩
    · simp at hcs; exact ⟨_, _, _, hcs⟩
  obtain ⟨sa, sn, sc, rfl⟩ := hs
  exact open_op Try.underlying53 h

theorem client_of {fuel : Nat} {cs : List Value} {x : DataW H × List MemPlace} (h : DataW.trod enc Try.prog w 0 (fun _ => true) held fuel 87 cs = some x) : ∃ c : Cl, RCl (fun _ => True) w (.agg cs.toArray) c := by
  have hl := trod_len under_Client h
  rw [cells_Client] at hl
  match cs, hl with
  | [c0, c1, c2, c3, c4, c5, c6], _ =>
    obtain ⟨n0, z0, h0⟩ := trod_field under_Client fields_Client h 0 _ rfl
    obtain ⟨n1, z1, h1⟩ := trod_field under_Client fields_Client h 1 _ rfl
    obtain ⟨n2, z2, h2⟩ := trod_field under_Client fields_Client h 2 _ rfl
    obtain ⟨n3, z3, h3⟩ := trod_field under_Client fields_Client h 3 _ rfl
    obtain ⟨n4, z4, h4⟩ := trod_field under_Client fields_Client h 4 _ rfl
    obtain ⟨n5, z5, h5⟩ := trod_field under_Client fields_Client h 5 _ rfl
    obtain ⟨n6, z6, h6⟩ := trod_field under_Client fields_Client h 6 _ rfl
    simp only [cells_int, cells_bool, cells_Doc, cells_Op] at h0 h1 h2 h3 h4 h5 h6
    obtain ⟨a0, e0, _, _⟩ := DataW.trod_int Try.underlying3 h0
    obtain ⟨a3, e3, _, _⟩ := DataW.trod_int Try.underlying3 h3
    obtain ⟨a6, e6, _⟩ := DataW.trod_bool Try.underlying4 h6
    simp at e0 e3 e6 h1 h2 h4 h5
    subst e0 e3 e6
    obtain ⟨L1, r1⟩ := doc_of h1
    obtain ⟨L2, r2⟩ := doc_of h2
    obtain ⟨L4, r4⟩ := op_of h4
    obtain ⟨L5, r5⟩ := op_of h5
    exact ⟨⟨a0, L1, L2, a3, L4, L5, a6⟩, _, _, _, _, rfl, r1, r2, r4, r5⟩
theorem message_of {fuel : Nat} {cs : List Value} {x : DataW H × List MemPlace} (h : DataW.trod enc Try.prog w 0 (fun _ => true) held fuel 89 cs = some x) : ∃ (m : Msg) (ov : Value), cs = [.int .i64 m.rev, .int .i64 m.e.client, .int .i64 m.e.seq, ov] ∧ ROp (fun _ => True) w ov m.e.o := by
  have hl := trod_len under_Message h
  rw [cells_Message] at hl
  match cs, hl with
  | [c0, c1, c2, c3], _ =>
    obtain ⟨n0, z0, h0⟩ := trod_field under_Message fields_Message h 0 _ rfl
    obtain ⟨n1, z1, h1⟩ := trod_field under_Message fields_Message h 1 _ rfl
    simp only [cells_int, cells_Entry] at h0 h1
    obtain ⟨a0, e0, _, _⟩ := DataW.trod_int Try.underlying3 h0
    simp at e0 h1
    subst e0
    obtain ⟨m0, y0, g0⟩ := trod_field under_Entry fields_Entry h1 0 _ rfl
    obtain ⟨m1, y1, g1⟩ := trod_field under_Entry fields_Entry h1 1 _ rfl
    obtain ⟨m2, y2, g2⟩ := trod_field under_Entry fields_Entry h1 2 _ rfl
    simp only [cells_int, cells_Op] at g0 g1 g2
    obtain ⟨a1, e1, _, _⟩ := DataW.trod_int Try.underlying3 g0
    obtain ⟨a2, e2, _, _⟩ := DataW.trod_int Try.underlying3 g1
    simp at e1 e2 g2
    subst e1 e2
    obtain ⟨L, r⟩ := op_of g2
    exact ⟨⟨a0, ⟨a1, a2, L⟩⟩, _, rfl, r⟩

set_option maxRecDepth 100000 in
open Go.WideShapes in
theorem open_client {r : Reach} {b0 : Nat} {v : Value} {d : DataW H} {p : List MemPlace} (hv : Value.okWide Try.prog w r b0 87 v)
    (h : DataW.Trod enc Try.prog w 0 (fun _ => true) held 87 v d p) : ∃ c : Cl, RCl (fun _ => True) w v c := by
  obtain ⟨cs, hcs, hsz⟩ : ∃ cs, v = .agg cs ∧ cs.size = Try.prog.cellsOf 87 := okWide_struct under_Client hv
  subst hcs
  obtain ⟨fuel, hf⟩ := h
  obtain ⟨c, hc⟩ := client_of (cs := cs.toList) hf
  exact ⟨c, by simpa using hc⟩
set_option maxRecDepth 100000 in
open Go.WideShapes in
theorem open_message {r : Reach} {b0 : Nat} {v : Value} {d : DataW H} {p : List MemPlace} (hv : Value.okWide Try.prog w r b0 89 v)
    (h : DataW.Trod enc Try.prog w 0 (fun _ => true) held 89 v d p) : ∃ (m : Msg) (ov : Value), v = .agg #[.int .i64 m.rev, .int .i64 m.e.client, .int .i64 m.e.seq, ov] ∧ ROp (fun _ => True) w ov m.e.o := by
  obtain ⟨cs, hcs, hsz⟩ : ∃ cs, v = .agg cs ∧ cs.size = Try.prog.cellsOf 89 := okWide_struct under_Message hv
  subst hcs
  obtain ⟨fuel, hf⟩ := h
  obtain ⟨m, ov, e, r⟩ := message_of (cs := cs.toList) hf
  refine ⟨m, ov, ?_, r⟩
  obtain ⟨l⟩ := cs
  simp at e
  subst e
  rfl
end
end Go.Proofs.Ytgodceplajkcdaa
