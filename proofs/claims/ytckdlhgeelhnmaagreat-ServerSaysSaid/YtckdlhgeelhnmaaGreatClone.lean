/- slices.Clone at documents, items, operations: what is read is read out of memory of its own. -/
import Derived.Test.YtckdlhgeelhnmaaGreatMemA
import Derived.Test.YtckdlhgeelhnmaaGreatCmp
import Derived.WalkSpells
namespace Go.Proofs.YtckdlhgeelhnmaaGreat
open Go.RowKit Go.Mh

theorem elPart : El Tryz.prog 39 112 7 80 (.agg #[.int .i64 0, .int .i64 0, .slice none 0 0, .int .i64 0, .int .i64 0, .bool false, .string ⟨#[]⟩]) := ⟨Tryz.underlying39, by kernel_rfl, rfl, by decide⟩

set_option maxRecDepth 100000 in
set_option maxHeartbeats 400000 in
theorem cloneOp_any (F : Nat → Prop) (v : Value) (L : List Pt) (w : World) (h : ROp F w v L) (hl : L.length ≤ 100000) :
    Calls Tryz.prog 111 #[v] w fun e w' => ∃ u, e = .returned u ∧ OwnS w.heap.size 112 7 (RPt fun k => F k ∧ k < w.heap.size) w' u L ∧ Below w.heap.size w w' := by
  obtain ⟨a, cap, rfl, hn⟩ := RdS.len h
  have H := Lib.hid h; clear h
  have hnil := fun (w : World) => Lib.run_eql_slice_nil (P := Tryz.prog) w 39 112 a L.length cap 0 0 Tryz.underlying39
  cases a with
  | none =>
    simp only [Option.isNone_none] at hnil
    obtain ⟨rfl, rfl⟩ : L = [] ∧ cap = 0 := RdS.none_nil H.out
    clear hn hl
    simp only [List.length_nil] at hnil
    go_enter Tryz.func111, Tryz.ntmps111
    go_wp2
    go_ret
    exact ⟨_, rfl, OwnS.nil, brf _⟩
  | some ad =>
    simp only [Option.isNone_some] at hnil
    have hF : Kp F (fun k => F k ∧ k < w.heap.size) w (w.alloc (.cells #[] 112)) := fun k hF hk => ⟨⟨hF, hk⟩, (bal (brf w) _).block k hk⟩
    go_enter Tryz.func111, Tryz.ntmps111
    go_wp2_with (at_builtin; refine wpList_app rfl (.tmp 5) (.tmp 6) 39 rfl w.heap.size 112 7 80 _ elPart (RPt fun k => F k ∧ k < w.heap.size) (.slice (some ⟨w.heap.size, 0, none⟩) 0 0) [] L rfl (OwnS.empty (Nat.le_refl _) (heap_new _ _)) _ (.slice (some ad) L.length cap) rfl (ROp.to H.out hF) (RPt_one _) (by simp [maxLen]; omega) (by simp; omega) (by simp) (fun w' hg cs x _ r => RPt.to r fun k hF hk => ⟨hF, hg.block k hk (by simp [Value.ownBlock]; omega)⟩) ?_; intro v2 w2 ho2 hb2 hB2)
    go_ret
    exact ⟨_, rfl, ho2, (bal (brf w) _).trans hB2⟩

theorem elItems : El Tryz.prog 33 50 3 32 (.agg #[.int .u8 0, .int .i64 0, .string ⟨#[]⟩]) := ⟨Tryz.underlying33, by kernel_rfl, rfl, by decide⟩

set_option maxRecDepth 100000 in
set_option maxHeartbeats 400000 in
theorem cloneItems_any (F : Nat → Prop) (v : Value) (L : List It) (w : World) (h : RItems F w v L) (hl : L.length ≤ 100000) :
    Calls Tryz.prog 112 #[v] w fun e w' => ∃ u, e = .returned u ∧ OwnS w.heap.size 50 3 RIt w' u L ∧ Below w.heap.size w w' := by
  obtain ⟨a, cap, rfl, hn⟩ := RdS.len h
  have H := Lib.hid h; clear h
  have hnil := fun (w : World) => Lib.run_eql_slice_nil (P := Tryz.prog) w 33 50 a L.length cap 0 0 Tryz.underlying33
  cases a with
  | none =>
    simp only [Option.isNone_none] at hnil
    obtain ⟨rfl, rfl⟩ : L = [] ∧ cap = 0 := RdS.none_nil H.out
    clear hn hl
    simp only [List.length_nil] at hnil
    go_enter Tryz.func112, Tryz.ntmps112
    go_wp2
    go_ret
    exact ⟨_, rfl, OwnS.nil, brf _⟩
  | some ad =>
    simp only [Option.isNone_some] at hnil
    have hF : Kp F (fun k => F k ∧ k < w.heap.size) w (w.alloc (.cells #[] 50)) := fun k hF hk => ⟨⟨hF, hk⟩, (bal (brf w) _).block k hk⟩
    go_enter Tryz.func112, Tryz.ntmps112
    go_wp2_with (at_builtin; refine wpList_app rfl (.tmp 5) (.tmp 6) 33 rfl w.heap.size 50 3 32 _ elItems RIt (.slice (some ⟨w.heap.size, 0, none⟩) 0 0) [] L rfl (OwnS.empty (Nat.le_refl _) (heap_new _ _)) _ (.slice (some ad) L.length cap) rfl (RItems.to H.out hF) RIt_one (by simp [maxLen]; omega) (by simp; omega) (by simp) (fun _ _ _ _ _ r => r) ?_; intro v2 w2 ho2 hb2 hB2)
    go_ret
    exact ⟨_, rfl, ho2, (bal (brf w) _).trans hB2⟩

theorem elDoc : El Tryz.prog 34 50 3 32 (.agg #[.int .u8 0, .int .i64 0, .string ⟨#[]⟩]) := ⟨Tryz.underlying34, by kernel_rfl, rfl, by decide⟩

set_option maxRecDepth 100000 in
set_option maxHeartbeats 400000 in
theorem cloneDoc_any (F : Nat → Prop) (v : Value) (L : List It) (w : World) (h : RItems F w v L) (hl : L.length ≤ 100000) :
    Calls Tryz.prog 42 #[v] w fun e w' => ∃ u, e = .returned u ∧ OwnS w.heap.size 50 3 RIt w' u L ∧ Below w.heap.size w w' := by
  obtain ⟨a, cap, rfl, hn⟩ := RdS.len h
  have H := Lib.hid h; clear h
  have hnil := fun (w : World) => Lib.run_eql_slice_nil (P := Tryz.prog) w 34 50 a L.length cap 0 0 Tryz.underlying34
  cases a with
  | none =>
    simp only [Option.isNone_none] at hnil
    obtain ⟨rfl, rfl⟩ : L = [] ∧ cap = 0 := RdS.none_nil H.out
    clear hn hl
    simp only [List.length_nil] at hnil
    go_enter Tryz.func42, Tryz.ntmps42
    go_wp2
    go_ret
    exact ⟨_, rfl, OwnS.nil, brf _⟩
  | some ad =>
    simp only [Option.isNone_some] at hnil
    have hF : Kp F (fun k => F k ∧ k < w.heap.size) w (w.alloc (.cells #[] 50)) := fun k hF hk => ⟨⟨hF, hk⟩, (bal (brf w) _).block k hk⟩
    go_enter Tryz.func42, Tryz.ntmps42
    go_wp2_with (at_builtin; refine wpList_app rfl (.tmp 5) (.tmp 6) 34 rfl w.heap.size 50 3 32 _ elDoc RIt (.slice (some ⟨w.heap.size, 0, none⟩) 0 0) [] L rfl (OwnS.empty (Nat.le_refl _) (heap_new _ _)) _ (.slice (some ad) L.length cap) rfl (RItems.to H.out hF) RIt_one (by simp [maxLen]; omega) (by simp; omega) (by simp) (fun _ _ _ _ _ r => r) ?_; intro v2 w2 ho2 hb2 hB2)
    go_ret
    exact ⟨_, rfl, ho2, (bal (brf w) _).trans hB2⟩
end Go.Proofs.YtckdlhgeelhnmaaGreat
