/- Servers and entries that come in, opened. -/
import Derived.Test.YtgodceplajkcdaaOpenC
import Derived.Test.YtgodceplajkcdaaSvB
namespace Go.Proofs.Ytgodceplajkcdaa
open Go.RowKit Go.Mh Go.Deep

section
variable {H : Type} {enc : TypeId × Value → H} {w : World} {held : Bool}

theorem under_Server : Try.prog.underlying 74 = some (.struct (Try.prog.fieldsOf 74)) := by kernel_rfl
theorem fields_Server : (Try.prog.fieldsOf 74).toList.map (fun f => (f.name, f.type, f.offset)) = [("First", 38, 0), ("Log", 72, 1), ("Now", 38, 2)] := by kernel_rfl
theorem cells_Server : Try.prog.cellsOf 74 = 3 := by kernel_rfl
theorem cells_Log : Try.prog.cellsOf 72 = 1 := by kernel_rfl
instance : Inhabited En := ⟨⟨0, 0, []⟩⟩

theorem entry_of {fuel : Nat} {cs : List Value} {x : DataW H × List MemPlace} (h : DataW.trod enc Try.prog w 0 (fun _ => true) held fuel 76 cs = some x) : ∃ e : En, REn (fun _ => True) w cs e := by
  have hl := trod_len under_Entry h
  rw [cells_Entry] at hl
  match cs, hl with
  | [c0, c1, c2], _ =>
    obtain ⟨m0, y0, g0⟩ := trod_field under_Entry fields_Entry h 0 _ rfl
    obtain ⟨m1, y1, g1⟩ := trod_field under_Entry fields_Entry h 1 _ rfl
    obtain ⟨m2, y2, g2⟩ := trod_field under_Entry fields_Entry h 2 _ rfl
    simp only [cells_int, cells_Op] at g0 g1 g2
    obtain ⟨a1, e1, _, _⟩ := DataW.trod_int Try.underlying3 g0
    obtain ⟨a2, e2, _, _⟩ := DataW.trod_int Try.underlying3 g1
    simp at e1 e2 g2
    subst e1 e2
    obtain ⟨L, r⟩ := op_of g2
    exact ⟨⟨a1, a2, L⟩, _, rfl, r⟩
theorem log_of {fuel : Nat} {v : Value} {x : DataW H × List MemPlace} (h : DataW.trod enc Try.prog w 0 (fun _ => true) held fuel 72 [v] = some x) : ∃ L : List En, RLog (fun _ => True) w v L := by
  have hs : ∃ sa sn sc, v = .slice sa sn sc := by
    rcases open_slice Try.underlying72 h with ⟨hcs, _⟩ | ⟨ad, len', cap', m, n, D, Pl, hcs, _⟩
    · simp at hcs; exact ⟨_, _, _, hcs⟩
    · simp at hcs; exact ⟨_, _, _, hcs⟩
  obtain ⟨sa, sn, sc, rfl⟩ := hs
  exact RdS.ofTrod Try.underlying72 cells_Entry (by decide) (fun n cs y hy => entry_of hy) h
theorem server_of {fuel : Nat} {cs : List Value} {x : DataW H × List MemPlace} (h : DataW.trod enc Try.prog w 0 (fun _ => true) held fuel 74 cs = some x) : ∃ s : Srv, RSrv (fun _ => True) w (.agg cs.toArray) s := by
  have hl := trod_len under_Server h
  rw [cells_Server] at hl
  match cs, hl with
  | [c0, c1, c2], _ =>
    obtain ⟨m0, y0, g0⟩ := trod_field under_Server fields_Server h 0 _ rfl
    obtain ⟨m1, y1, g1⟩ := trod_field under_Server fields_Server h 1 _ rfl
    obtain ⟨m2, y2, g2⟩ := trod_field under_Server fields_Server h 2 _ rfl
    simp only [cells_Doc, cells_Log] at g0 g1 g2
    simp at g0 g1 g2
    obtain ⟨L0, r0⟩ := doc_of g0
    obtain ⟨L1, r1⟩ := log_of g1
    obtain ⟨L2, r2⟩ := doc_of g2
    exact ⟨⟨L0, L1, L2⟩, _, _, _, rfl, r0, r1, r2⟩

set_option maxRecDepth 100000 in
open Go.WideShapes in
theorem open_server {r : Reach} {b0 : Nat} {v : Value} {d : DataW H} {p : List MemPlace} (hv : Value.okWide Try.prog w r b0 74 v)
    (h : DataW.Trod enc Try.prog w 0 (fun _ => true) held 74 v d p) : ∃ s : Srv, RSrv (fun _ => True) w v s := by
  obtain ⟨cs, hcs, hsz⟩ : ∃ cs, v = .agg cs ∧ cs.size = Try.prog.cellsOf 74 := okWide_struct under_Server hv
  subst hcs
  obtain ⟨fuel, hf⟩ := h
  obtain ⟨c, hc⟩ := server_of (cs := cs.toList) hf
  exact ⟨c, by simpa using hc⟩
set_option maxRecDepth 100000 in
open Go.WideShapes in
theorem open_entry {r : Reach} {b0 : Nat} {v : Value} {d : DataW H} {p : List MemPlace} (hv : Value.okWide Try.prog w r b0 76 v)
    (h : DataW.Trod enc Try.prog w 0 (fun _ => true) held 76 v d p) : ∃ (x : En) (ov : Value), v = .agg #[.int .i64 x.client, .int .i64 x.seq, ov] ∧ ROp (fun _ => True) w ov x.o := by
  obtain ⟨cs, hcs, hsz⟩ : ∃ cs, v = .agg cs ∧ cs.size = Try.prog.cellsOf 76 := okWide_struct under_Entry hv
  subst hcs
  obtain ⟨fuel, hf⟩ := h
  obtain ⟨x, ov, e, ro⟩ := entry_of (cs := cs.toList) hf
  refine ⟨x, ov, ?_, ro⟩
  obtain ⟨l⟩ := cs
  simp at e
  subst e
  rfl
end
end Go.Proofs.Ytgodceplajkcdaa
