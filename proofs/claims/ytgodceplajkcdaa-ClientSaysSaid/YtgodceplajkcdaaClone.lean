/- slices.Clone at documents, items, operations: what is read is read out of memory of its own. -/
import Derived.Test.YtgodceplajkcdaaMemA
import Derived.Test.YtgodceplajkcdaaCmp
import Derived.WalkSpells
namespace Go.Proofs.Ytgodceplajkcdaa
open Go.RowKit Go.Mh

theorem elPart : El Try.prog 53 57 7 80 (.agg #[.int .i64 0, .int .i64 0, .slice none 0 0, .int .i64 0, .int .i64 0, .bool false, .string ⟨#[]⟩]) := ⟨Try.underlying53, by kernel_rfl, rfl, by decide⟩

set_option maxRecDepth 100000 in
set_option maxHeartbeats 400000 in
theorem cloneOp_any (F : Nat → Prop) (v : Value) (L : List Pt) (w : World) (h : ROp F w v L) (hl : L.length ≤ 100000) :
    Calls Try.prog 141 #[v] w fun e w' => ∃ u, e = .returned u ∧ OwnS w.heap.size 57 7 (RPt fun k => F k ∧ k < w.heap.size) w' u L ∧ Below w.heap.size w w' := by
  obtain ⟨a, cap, rfl, hn⟩ := RdS.len h
  have H := Lib.hid h; clear h
  have hnil := fun (w : World) => Lib.run_eql_slice_nil (P := Try.prog) w 53 57 a L.length cap 0 0 Try.underlying53
  cases a with
  | none =>
    simp only [Option.isNone_none] at hnil
    obtain ⟨rfl, rfl⟩ : L = [] ∧ cap = 0 := RdS.none_nil H.out
    clear hn hl
    simp only [List.length_nil] at hnil
    go_enter Try.func141, Try.ntmps141
    go_wp2
    go_ret
    exact ⟨_, rfl, OwnS.nil, brf _⟩
  | some ad =>
    simp only [Option.isNone_some] at hnil
    have hF : Kp F (fun k => F k ∧ k < w.heap.size) w (w.alloc (.cells #[] 57)) := fun k hF hk => ⟨⟨hF, hk⟩, (bal (brf w) _).block k hk⟩
    go_enter Try.func141, Try.ntmps141
    go_wp2_with (at_builtin; refine wpList_app rfl (.tmp 5) (.tmp 6) 53 rfl w.heap.size 57 7 80 _ elPart (RPt fun k => F k ∧ k < w.heap.size) (.slice (some ⟨w.heap.size, 0, none⟩) 0 0) [] L rfl (OwnS.empty (Nat.le_refl _) (heap_new _ _)) _ (.slice (some ad) L.length cap) rfl (ROp.to H.out hF) (RPt_one _) (by simp [maxLen]; omega) (by simp; omega) (by simp) (fun w' hg cs x _ r => RPt.to r fun k hF hk => ⟨hF, hg.block k hk (by simp [Value.ownBlock]; omega)⟩) ?_; intro v2 w2 ho2 hb2 hB2)
    go_ret
    exact ⟨_, rfl, ho2, (bal (brf w) _).trans hB2⟩

theorem elItems : El Try.prog 37 42 3 32 (.agg #[.int .u8 0, .int .i64 0, .string ⟨#[]⟩]) := ⟨Try.underlying37, by kernel_rfl, rfl, by decide⟩

set_option maxRecDepth 100000 in
set_option maxHeartbeats 400000 in
theorem cloneItems_any (F : Nat → Prop) (v : Value) (L : List It) (w : World) (h : RItems F w v L) (hl : L.length ≤ 100000) :
    Calls Try.prog 142 #[v] w fun e w' => ∃ u, e = .returned u ∧ OwnS w.heap.size 42 3 RIt w' u L ∧ Below w.heap.size w w' := by
  obtain ⟨a, cap, rfl, hn⟩ := RdS.len h
  have H := Lib.hid h; clear h
  have hnil := fun (w : World) => Lib.run_eql_slice_nil (P := Try.prog) w 37 42 a L.length cap 0 0 Try.underlying37
  cases a with
  | none =>
    simp only [Option.isNone_none] at hnil
    obtain ⟨rfl, rfl⟩ : L = [] ∧ cap = 0 := RdS.none_nil H.out
    clear hn hl
    simp only [List.length_nil] at hnil
    go_enter Try.func142, Try.ntmps142
    go_wp2
    go_ret
    exact ⟨_, rfl, OwnS.nil, brf _⟩
  | some ad =>
    simp only [Option.isNone_some] at hnil
    have hF : Kp F (fun k => F k ∧ k < w.heap.size) w (w.alloc (.cells #[] 42)) := fun k hF hk => ⟨⟨hF, hk⟩, (bal (brf w) _).block k hk⟩
    go_enter Try.func142, Try.ntmps142
    go_wp2_with (at_builtin; refine wpList_app rfl (.tmp 5) (.tmp 6) 37 rfl w.heap.size 42 3 32 _ elItems RIt (.slice (some ⟨w.heap.size, 0, none⟩) 0 0) [] L rfl (OwnS.empty (Nat.le_refl _) (heap_new _ _)) _ (.slice (some ad) L.length cap) rfl (RItems.to H.out hF) RIt_one (by simp [maxLen]; omega) (by simp; omega) (by simp) (fun _ _ _ _ _ r => r) ?_; intro v2 w2 ho2 hb2 hB2)
    go_ret
    exact ⟨_, rfl, ho2, (bal (brf w) _).trans hB2⟩

theorem elDoc : El Try.prog 38 42 3 32 (.agg #[.int .u8 0, .int .i64 0, .string ⟨#[]⟩]) := ⟨Try.underlying38, by kernel_rfl, rfl, by decide⟩

set_option maxRecDepth 100000 in
set_option maxHeartbeats 400000 in
theorem cloneDoc_any (F : Nat → Prop) (v : Value) (L : List It) (w : World) (h : RItems F w v L) (hl : L.length ≤ 100000) :
    Calls Try.prog 111 #[v] w fun e w' => ∃ u, e = .returned u ∧ OwnS w.heap.size 42 3 RIt w' u L ∧ Below w.heap.size w w' := by
  obtain ⟨a, cap, rfl, hn⟩ := RdS.len h
  have H := Lib.hid h; clear h
  have hnil := fun (w : World) => Lib.run_eql_slice_nil (P := Try.prog) w 38 42 a L.length cap 0 0 Try.underlying38
  cases a with
  | none =>
    simp only [Option.isNone_none] at hnil
    obtain ⟨rfl, rfl⟩ : L = [] ∧ cap = 0 := RdS.none_nil H.out
    clear hn hl
    simp only [List.length_nil] at hnil
    go_enter Try.func111, Try.ntmps111
    go_wp2
    go_ret
    exact ⟨_, rfl, OwnS.nil, brf _⟩
  | some ad =>
    simp only [Option.isNone_some] at hnil
    have hF : Kp F (fun k => F k ∧ k < w.heap.size) w (w.alloc (.cells #[] 42)) := fun k hF hk => ⟨⟨hF, hk⟩, (bal (brf w) _).block k hk⟩
    go_enter Try.func111, Try.ntmps111
    go_wp2_with (at_builtin; refine wpList_app rfl (.tmp 5) (.tmp 6) 38 rfl w.heap.size 42 3 32 _ elDoc RIt (.slice (some ⟨w.heap.size, 0, none⟩) 0 0) [] L rfl (OwnS.empty (Nat.le_refl _) (heap_new _ _)) _ (.slice (some ad) L.length cap) rfl (RItems.to H.out hF) RIt_one (by simp [maxLen]; omega) (by simp; omega) (by simp) (fun _ _ _ _ _ r => r) ?_; intro v2 w2 ho2 hb2 hB2)
    go_ret
    exact ⟨_, rfl, ho2, (bal (brf w) _).trans hB2⟩
end Go.Proofs.Ytgodceplajkcdaa
