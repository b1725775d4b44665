/- slices.Clone at entries: what is read is read out of memory of its own. -/
import Derived.Test.YtckdlhgeelhnmaaGreatClone
namespace Go.Mh
theorem ROp_one {F : Nat → Prop} {w : World} {v : Value} {L : List Pt} (h : ROp F w v L) : v.oneCell' = true := by obtain ⟨a, cap, rfl, _⟩ := h; rfl
theorem REn_one (F : Nat → Prop) : ∀ (w : World) (cs : List Value) (x : En), REn F w cs x → ∀ u ∈ cs, u.oneCell' = true := by
  rintro _ _ _ ⟨ov, rfl, ho⟩ u hu
  have := ROp_one ho
  simp at hu
  rcases hu with rfl | rfl | rfl <;> first | rfl | assumption
end Go.Mh
namespace Go.Proofs.YtckdlhgeelhnmaaGreat
open Go.RowKit Go.Mh

theorem elLog : El Tryz.prog 35 41 3 40 (.agg #[.int .i64 0, .int .i64 0, .slice none 0 0]) := ⟨Tryz.underlying35, by kernel_rfl, rfl, by decide⟩

set_option maxRecDepth 100000 in
set_option maxHeartbeats 400000 in
theorem cloneLog_any (F : Nat → Prop) (v : Value) (L : List En) (w : World) (h : RLog F w v L) (hl : L.length ≤ 100000) :
    Calls Tryz.prog 80 #[v] w fun e w' => ∃ u, e = .returned u ∧ OwnS w.heap.size 41 3 (REn fun k => F k ∧ k < w.heap.size) w' u L ∧ Below w.heap.size w w' := by
  obtain ⟨a, cap, rfl, hn⟩ := RdS.len h
  have H := Lib.hid h; clear h
  have hnil := fun (w : World) => Lib.run_eql_slice_nil (P := Tryz.prog) w 35 41 a L.length cap 0 0 Tryz.underlying35
  cases a with
  | none =>
    simp only [Option.isNone_none] at hnil
    obtain ⟨rfl, rfl⟩ : L = [] ∧ cap = 0 := RdS.none_nil H.out
    clear hn hl
    simp only [List.length_nil] at hnil
    go_enter Tryz.func80, Tryz.ntmps80
    go_wp2
    go_ret
    exact ⟨_, rfl, OwnS.nil, brf _⟩
  | some ad =>
    simp only [Option.isNone_some] at hnil
    have hF : Kp F (fun k => F k ∧ k < w.heap.size) w (w.alloc (.cells #[] 41)) := fun k hF hk => ⟨⟨hF, hk⟩, (bal (brf w) _).block k hk⟩
    go_enter Tryz.func80, Tryz.ntmps80
    go_wp2_with (at_builtin; refine wpList_app rfl (.tmp 5) (.tmp 6) 35 rfl w.heap.size 41 3 40 _ elLog (REn fun k => F k ∧ k < w.heap.size) (.slice (some ⟨w.heap.size, 0, none⟩) 0 0) [] L rfl (OwnS.empty (Nat.le_refl _) (heap_new _ _)) _ (.slice (some ad) L.length cap) rfl (RLog.to H.out hF) (REn_one _) (by simp [maxLen]; omega) (by simp; omega) (by simp) (fun w' hg cs x _ r => REn.to r fun k hF hk => ⟨hF, hg.block k hk (by simp [Value.ownBlock]; omega)⟩) ?_; intro v2 w2 ho2 hb2 hB2)
    go_ret
    exact ⟨_, rfl, ho2, (bal (brf w) _).trans hB2⟩
end Go.Proofs.YtckdlhgeelhnmaaGreat
