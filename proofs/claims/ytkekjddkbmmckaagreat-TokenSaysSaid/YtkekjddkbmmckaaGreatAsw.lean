/- strings.appendSliceWriter: what is written stands behind what was written. -/
import Derived.Test.YtkekjddkbmmckaaGreatLook
import Derived.Test.YtkekjddkbmmckaaGreatBld
import Derived.Lib.AppendStr
namespace Go.Proofs.YtkekjddkbmmckaaGreat
open Go.RowKit Go.Mh

/-- The writer's variable, and its own bytes. -/
def BufAt (B gb : Nat) (w : World) (out : Bs) : Prop := ∃ bv, w.heap[gb]? = some (.cells #[bv] 152 (0, 0)) ∧ w.ownsRow B 5 1 bv out.length (Lib.byteCells out) ∧ bv.ownBlock ≠ some gb
theorem BufAt.lt {B gb : Nat} {w : World} {out : Bs} (h : BufAt B gb w out) : gb < w.heap.size := by obtain ⟨bv, h1, _⟩ := h; exact lt_of_heap h1
theorem owns_below {B n : Nat} {w w' : World} {v : Value} {xs : List Value} (h : w.ownsRow B 5 1 v n xs) (hb : Below w.heap.size w w') : w'.ownsRow B 5 1 v n xs := by
  obtain ⟨h0, h1⟩ := h
  refine ⟨h0, ?_⟩
  rcases h1 with h1 | ⟨g, cap, cur, e, hg, hh, r⟩
  · exact Or.inl h1
  · exact Or.inr ⟨g, cap, cur, e, hg, (hb.block g (lt_of_heap hh)).trans hh, r⟩
theorem BufAt.below {B gb : Nat} {w w' : World} {out : Bs} (h : BufAt B gb w out) (hb : Below w.heap.size w w') : BufAt B gb w' out := by
  obtain ⟨bv, h1, h2, h3⟩ := h
  exact ⟨bv, (hb.block gb (lt_of_heap h1)).trans h1, owns_below h2 hb, h3⟩
theorem aswInfo : (Tryz.prog.info? 5).map (fun i => (i.zero, i.size, i.bytes)) = some (some (.int .u8 0), 1, 1) := by kernel_rfl

set_option maxHeartbeats 1000000 in
set_option maxRecDepth 100000 in
theorem asw_any (B gb : Nat) (out : Bs) (s : ByteArray) (w : World) (h : BufAt B gb w out) (hlen : out.length + s.size ≤ 140737488355328) (hB : B ≤ w.heap.size) (hgb : B ≤ gb) :
    Calls Tryz.prog 119 #[ptr gb, .string s] w fun e w' => e = .returned (.tuple #[.int .i64 s.size, .nilIface]) ∧ BufAt B gb w' (out ++ s.data.toList) ∧ Below B w w' := by
  obtain ⟨i0, hi, hz0, hz1, hz2⟩ := info_parts aswInfo
  obtain ⟨bv, hbk, hown, hne⟩ := h
  have hll : Hid ((Lib.byteCells out).length = out.length) := by show (Lib.byteCells out).length = out.length; simp [Lib.byteCells]
  have hlt := lt_of_heap hbk
  have c0 := cellAt' (i := 0) (v := bv) hbk rfl
  go_enter Tryz.func119, Tryz.ntmps119
  go_wp2_with (at_builtin; refine Lib.wpList_append_own_string _ rfl _ _ 152 9 rfl B 5 i0 Tryz.underlying152 Tryz.underlying9 hi hz0 hz1 hz2 _ _ _ rfl hown s rfl ?c3 ?c4 ?c5 ?_)
  case c3 => unfold maxLen; omega
  case c4 => omega
  case c5 => exact hB
  intro v' w2 hown' hgrow _
  have hb2 : w2.heap[gb]? = some (.cells #[bv] 152 (0, 0)) := by
    rw [hgrow.block gb hlt (fun e => hne e.symm)]
    exact hbk
  have d0 := cellAt' (i := 0) (v := bv) hb2 rfl
  have f0 := fzAt' (i := 0) hb2
  obtain ⟨ao, n', cap, rfl⟩ : ∃ ao n' cap, v' = .slice ao n' cap := by
    rcases hown'.2 with ⟨hv, _⟩ | ⟨g, cap, cur, hv, _⟩
    · exact ⟨_, _, _, hv⟩
    · exact ⟨_, _, _, hv⟩
  go_wp2
  go_ret2
  have hT : (Value.slice ao n' cap).ownBlock ≠ some gb := by
    rcases hown'.2 with ⟨hv, _⟩ | ⟨g, cap', cur, hv, _, hh, _⟩
    · rw [hv]; simp [Value.ownBlock]
    · rw [hv]
      intro e
      simp [Value.ownBlock] at e
      subst e
      rw [hb2] at hh
      simp at hh
  refine ⟨rfl, ⟨_, by simpa using heap_set (i := 0) (.slice ao n' cap) hb2, ?_, hT⟩, ((Below.refl B w).grown hgrow hB (fun k hk => (hown.lt k hk).1)).setCell (p := ⟨gb, 0, none⟩) hgb _⟩
  have e1 : Lib.byteCells (out ++ s.data.toList) = Lib.byteCells out ++ Lib.strCells s := by simp [Lib.byteCells, Lib.strCells]
  have e2 : (out ++ s.data.toList).length = out.length + s.size := by simp
  rw [e1, e2]
  obtain ⟨h0, h1⟩ := hown'
  refine ⟨h0, ?_⟩
  rcases h1 with h1 | ⟨g, cp, cur, hv, hg, hh, r⟩
  · exact Or.inl h1
  · refine Or.inr ⟨g, cp, cur, hv, hg, (heap_setCell_other w2 _ g _ ?_).trans hh, r⟩
    intro e
    rw [hv] at hT
    simp [Value.ownBlock] at hT
    exact hT e

theorem ta_asw (v : Value) (w : World) : (Instr.typeAssert (.iface 153 v) 155 157 true).run Tryz.prog w = .ok (.tuple #[.iface 153 v, .bool true]) w := by kernel_rfl

set_option maxHeartbeats 1000000 in
set_option maxRecDepth 1000000 in
theorem getSw_any (gb : Nat) (w : World) :
    Calls Tryz.prog 108 #[.iface 153 (ptr gb)] w fun e w' => e = .returned (.iface 153 (ptr gb)) ∧ w' = w := by
  have hta := ta_asw
  go_enter Tryz.func108, Tryz.ntmps108
  go_wp2
  go_ret
  exact ⟨rfl, rfl⟩
end Go.Proofs.YtkekjddkbmmckaaGreat
