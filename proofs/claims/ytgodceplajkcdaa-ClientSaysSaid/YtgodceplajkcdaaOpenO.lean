/- Operations that come in, opened. -/
import Derived.Test.YtgodceplajkcdaaOpen
import Derived.ChangeArms
namespace Go.Proofs.Ytgodceplajkcdaa
open Go.RowKit Go.Mh Go.Deep

section
variable {H : Type} {enc : TypeId × Value → H} {w : World} {held : Bool}

theorem under_Part : Try.prog.underlying 57 = some (.struct (Try.prog.fieldsOf 57)) := by kernel_rfl
theorem fields_Part : (Try.prog.fieldsOf 57).toList.map (fun f => (f.name, f.type, f.offset)) = [("Kind", 3, 0), ("N", 3, 1), ("Items", 37, 2), ("Set", 3, 3), ("Clear", 3, 4), ("To", 4, 5), ("Link", 9, 6)] := by kernel_rfl
theorem cells_Part : Try.prog.cellsOf 57 = 7 := by kernel_rfl
theorem cells_Items : Try.prog.cellsOf 37 = 1 := by kernel_rfl

theorem part_of {fuel : Nat} {cs : List Value} {x : DataW H × List MemPlace} (h : DataW.trod enc Try.prog w 0 (fun _ => true) held fuel 57 cs = some x) : ∃ y : Pt, RPt (fun _ => True) w cs y := by
  have hl := trod_len under_Part h
  rw [cells_Part] at hl
  match cs, hl with
  | [c0, c1, c2, c3, c4, c5, c6], _ =>
    obtain ⟨n0, z0, h0⟩ := trod_field under_Part fields_Part h 0 _ rfl
    obtain ⟨n1, z1, h1⟩ := trod_field under_Part fields_Part h 1 _ rfl
    obtain ⟨n2, z2, h2⟩ := trod_field under_Part fields_Part h 2 _ rfl
    obtain ⟨n3, z3, h3⟩ := trod_field under_Part fields_Part h 3 _ rfl
    obtain ⟨n4, z4, h4⟩ := trod_field under_Part fields_Part h 4 _ rfl
    obtain ⟨n5, z5, h5⟩ := trod_field under_Part fields_Part h 5 _ rfl
    obtain ⟨n6, z6, h6⟩ := trod_field under_Part fields_Part h 6 _ rfl
    simp only [cells_int, cells_string, cells_bool, cells_Items] at h0 h1 h2 h3 h4 h5 h6
    obtain ⟨a0, e0, _, _⟩ := DataW.trod_int Try.underlying3 h0
    obtain ⟨a1, e1, _, _⟩ := DataW.trod_int Try.underlying3 h1
    obtain ⟨a3, e3, _, _⟩ := DataW.trod_int Try.underlying3 h3
    obtain ⟨a4, e4, _, _⟩ := DataW.trod_int Try.underlying3 h4
    obtain ⟨a5, e5, _⟩ := DataW.trod_bool Try.underlying4 h5
    obtain ⟨s, e6, _, _⟩ := DataW.trod_string Try.underlying9 h6
    simp at e0 e1 e3 e4 e5 e6 h2
    subst e0 e1 e3 e4 e5 e6
    obtain ⟨l, rfl⟩ := str_of s
    have hs : ∃ sa sn sc, c2 = .slice sa sn sc := by
      rcases open_slice Try.underlying37 h2 with ⟨hcs, _⟩ | ⟨ad, len', cap', m, n, D, Pl, hcs, _⟩
      · simp at hcs; exact ⟨_, _, _, hcs⟩
      · simp at hcs; exact ⟨_, _, _, hcs⟩
    obtain ⟨sa, sn, sc, rfl⟩ := hs
    obtain ⟨L, hL⟩ := open_doc Try.underlying37 h2
    exact ⟨⟨a0, a1, L, a3, a4, a5, l⟩, _, rfl, hL⟩

instance : Inhabited Pt := ⟨⟨0, 0, [], 0, 0, false, []⟩⟩

theorem open_op {t : TypeId} {fuel len cap : Nat} {a : Option Addr} {x : DataW H × List MemPlace} (ht : Try.prog.underlying t = some (.slice 57))
    (h : DataW.trod enc Try.prog w 0 (fun _ => true) held fuel t (Value.slice a len cap).cells.toList = some x) : ∃ L : List Pt, ROp (fun _ => True) w (.slice a len cap) L :=
  RdS.ofTrod ht cells_Part (by decide) (fun n cs y hy => part_of hy) h
end
end Go.Proofs.Ytgodceplajkcdaa
