/- strings.NewReplacer of the four ways to write a character, and its building, once. -/
import Derived.Test.YtkekjddkbmmckaaGreatGen
namespace Go.Proofs.YtkekjddkbmmckaaGreat
open Go.RowKit Go.Mh

/-- The replacer as built. -/
structure Built (w : World) (gr : Nat) : Prop where
  ex : ∃ T0, GenAt w gr (tab T0) 11 numK ∧ TrieAt w (gr + 1) T0 4
theorem TrieAt.keep4 {w w' : World} {B T0 : Nat} (h : TrieAt w B T0 4) (hk : ∀ g ob, B ≤ g → w.heap[g]? = some ob → w'.heap[g]? = some ob) : TrieAt w' B T0 4 := by
  obtain ⟨A, T, P, K, G, Q, hT0, hA, bA, hT, ⟨N1, a1, b1, c1, d1⟩, ⟨N2, a2, b2, c2, d2⟩, ⟨N3, a3, b3, c3, d3⟩, ⟨N4, a4, b4, c4, d4⟩⟩ := h
  exact ⟨A, T, P, K, G, Q, ⟨hk _ _ hT0.2 hT0.1, hT0.2⟩, hk _ _ bA hA, bA, ⟨hk _ _ hT.2 hT.1, hT.2⟩, ⟨N1, hk _ _ c1 a1, hk _ _ d1 b1, c1, d1⟩, ⟨N2, hk _ _ c2 a2, hk _ _ d2 b2, c2, d2⟩, ⟨N3, hk _ _ c3 a3, hk _ _ d3 b3, c3, d3⟩, ⟨N4, hk _ _ c4 a4, hk _ _ d4 b4, c4, d4⟩⟩
theorem Built.keep {w w' : World} {gr : Nat} (h : Built w gr) (hk : ∀ g ob, gr ≤ g → w.heap[g]? = some ob → w'.heap[g]? = some ob) : Built w' gr := by
  obtain ⟨T0, h1, h2⟩ := h.ex
  exact ⟨T0, hk _ _ (Nat.le_refl _) h1, h2.keep4 fun g _ hg => hk g _ (by omega)⟩
theorem Built.lt {w : World} {gr : Nat} (h : Built w gr) : gr < w.heap.size := by obtain ⟨T0, h1, _⟩ := h.ex; exact lt_of_heap h1
theorem Built.below {w w' : World} {gr : Nat} (h : Built w gr) (hb : Below w.heap.size w w') : Built w' gr := h.keep fun g _ _ hg => (hb.block g (lt_of_heap hg)).trans hg
theorem Built.set {w : World} {gr b i : Nat} {v : Value} (h : Built w gr) (hb : b < gr) : Built (w.setCell ⟨b, i, none⟩ v) gr := h.keep fun g _ hg e => (heap_setCell_other w _ g v (by show g ≠ b; omega)).trans e

set_option maxRecDepth 1000000 in
set_option maxHeartbeats 4000000 in
theorem replBuild_any (rb b cap : Nat) (w : World) (hs : w.cell? ⟨rb, 4, none⟩ = some (.slice (some ⟨b, 0, none⟩) 8 cap)) (hb : b < w.heap.size) (hp : Pairs w b) :
    Calls Tryz.prog 55 #[ptr rb] w fun e w' => ∃ gr, e = .returned (.iface 98 (ptr gr)) ∧ w.heap.size ≤ gr ∧ Built w' gr ∧ Below w.heap.size w w' := by
  have hk0 := (hp 0 eAmp [38] rfl rfl).1
  have C := Lib.hid (makeGen_any b cap w hb hp)
  clear hp
  go_enter Tryz.func55, Tryz.ntmps55
  go_upto_region 6 with fail
  refine wp_loop_rounds 2 ?_
  rw [rounds_succ]
  go_wp2_with fail
  refine C.out.mono ?_
  rintro e w1 ⟨gr, T0, rfl, hg, h1, h2, hb1⟩
  go_wp2
  go_ret
  exact ⟨gr, rfl, hg, ⟨T0, h1, h2⟩, hb1⟩

abbrev ifaceR (gr : Nat) : Value := .iface 98 (ptr gr)
def ReplAt (w : World) (rb : Nat) (d : Int) (s : Int) (r o : Value) : Prop := w.heap[rb]? = some (.cells #[.int .u32 d, .int .i32 s, .int .u32 0, r, o] 84 (0, 0))

set_option maxRecDepth 1000000 in
set_option maxHeartbeats 4000000 in
theorem replOnce_any (rb b cap : Nat) (d s : Int) (w : World) (h : ReplAt w rb d s .nilIface (.slice (some ⟨b, 0, none⟩) 8 cap)) (hb : b < w.heap.size) (hp : Pairs w b) :
    Calls Tryz.prog 49 #[ptr rb] w fun e w' => e = .returned (.tuple #[]) ∧ ∃ gr, ReplAt w' rb d s (ifaceR gr) (.slice none 0 0) ∧ rb < gr ∧ Built w' gr ∧ Stays rb w w' := by
  have hlt := lt_of_heap h
  have C := Lib.hid (replBuild_any rb b cap w (cellAt' (i := 4) h rfl) hb hp)
  have H := Lib.hid h
  clear h hp
  go_enter Tryz.func49, Tryz.ntmps49
  go_wp2_with fail
  refine C.out.mono ?_
  rintro e w1 ⟨gr, rfl, hg, hB, hb1⟩
  have h1 := (hb1.block rb hlt).trans H.out
  have c3 := cellAt' (i := 3) (v := .nilIface) h1 rfl
  have c4 := cellAt' (i := 4) (v := .slice (some ⟨b, 0, none⟩) 8 cap) h1 rfl
  have z3 := fzAt' (i := 3) h1
  have z4 := fzAt' (i := 4) h1
  go_wp2
  go_end0
  refine ⟨rfl, gr, ?_, by omega, (hB.set (by omega)).set (by omega), (Stays.of hb1 (Nat.le_of_lt hlt)).trans (Stays.set.trans Stays.set)⟩
  have k1 := heap_set (i := 3) (ifaceR gr) h1
  have k2 := heap_set (i := 4) (.slice none 0 0) k1
  exact k2

theorem onceLoad (a : Addr) (x : Int) (w : World) (h : w.cell? a = some (.int .u32 x)) :
    Calls Tryz.prog 53 #[.pointer (some a)] w fun e w' => e = .returned (.bool (x != 0)) ∧ w' = w := by
  have hl := run_call_load (P := Tryz.prog) Tryz.func56 (by kernel_rfl) (by kernel_rfl) (by kernel_rfl) .u32 (by kernel_rfl) h
  go_enter Tryz.func53, Tryz.ntmps53
  go_wp2
  go_ret
  exact ⟨rfl, rfl⟩

set_option maxRecDepth 1000000 in
set_option maxHeartbeats 4000000 in
theorem replSlow_any (rb b cap : Nat) (w : World) (h : ReplAt w rb 0 0 .nilIface (.slice (some ⟨b, 0, none⟩) 8 cap)) (hb : b < w.heap.size) (hp : Pairs w b) (hrb : b ≠ rb) :
    Calls Tryz.prog 54 #[ptr rb, .func (.func 49) #[ptr rb] #[]] w fun e w' => e = .returned (.tuple #[]) ∧ ∃ gr, ReplAt w' rb 1 0 (ifaceR gr) (.slice none 0 0) ∧ rb < gr ∧ Built w' gr ∧ Stays rb w w' := by
  have hlt := lt_of_heap h
  have c0 := cellAt' (i := 0) (v := .int .u32 0) h rfl
  have c1 := cellAt' (i := 1) (v := .int .i32 0) h rfl
  have z0 := fzAt' (i := 0) h
  have z1 := fzAt' (i := 1) h
  have k1 : ReplAt (w.setCell ⟨rb, 1, none⟩ (.int .i32 1)) rb 0 1 .nilIface (.slice (some ⟨b, 0, none⟩) 8 cap) := heap_set (i := 1) (.int .i32 1) h
  have L := Lib.hid (onceLoad ⟨rb, 0, none⟩ 0 _ (cellAt' (i := 0) k1 rfl))
  have C := Lib.hid (replOnce_any rb b cap 0 1 _ k1 (by simpa using hb) (hp.of (heap_setCell_other w _ b _ hrb)))
  have hnot : ∀ (x : Bool) (w : World), (Op.unary .not (.bool x)).run Tryz.prog w = .ok (.bool (!x)) w := fun _ _ => rfl
  clear h k1 hp
  go_enter_defers Tryz.func54, Tryz.ntmps54
  go_wp2_with fail
  refine (onceLock ⟨rb, 1, none⟩ _ c1 z1).mono ?_
  rintro e w1 ⟨rfl, rfl⟩
  go_wp2_with fail
  refine L.out.mono ?_
  rintro e w2 ⟨rfl, rfl⟩
  go_wp2_with fail
  refine C.out.mono ?_
  rintro e w3 ⟨rfl, gr, h3, hg, hB, st⟩
  go_wp2
  refine leaves_cons (f := 59) (args := #[.pointer (some ⟨rb, 0, none⟩), .bool true]) (by simp) (by simp [go_sem]) ?_
  refine (onceStore ⟨rb, 0, none⟩ (.int .u32 0) .returning _ (cellAt' (i := 0) h3 rfl) (fzAt' h3)).mono ?_
  rintro e u' w4 ⟨rfl, rfl, rfl⟩
  have h4 : ReplAt (w3.drew.setCell ⟨rb, 0, none⟩ (.int .u32 1)) rb 1 1 (ifaceR gr) (.slice none 0 0) := heap_set (i := 0) (.int .u32 1) h3
  refine leaves_cons (f := 58) (args := #[.pointer (some ⟨rb, 1, none⟩)]) (by simp [settle]) (by simp [go_sem]) ?_
  refine (onceUnlock ⟨rb, 1, none⟩ _ _ (cellAt' (i := 1) h4 rfl) (fzAt' h4)).mono ?_
  rintro e u' w5 ⟨rfl, rfl, rfl⟩
  have h5 : ReplAt ((w3.drew.setCell ⟨rb, 0, none⟩ (.int .u32 1)).setCell ⟨rb, 1, none⟩ (.int .i32 0)) rb 1 0 (ifaceR gr) (.slice none 0 0) := heap_set (i := 1) (.int .i32 0) h4
  simp [Leaves, settle, results, Tryz.results54]
  exact ⟨gr, h5, hg, ((hB.below (Below.refl _ _).drew).set hg).set hg, (((Stays.set).trans st).trans (Stays.of ((Below.refl _ _).drew) (Nat.le_of_lt (lt_of_heap h3)))).trans (Stays.set.trans Stays.set)⟩

set_option maxRecDepth 1000000 in
set_option maxHeartbeats 4000000 in
theorem replDo_any (rb b cap : Nat) (w : World) (h : ReplAt w rb 0 0 .nilIface (.slice (some ⟨b, 0, none⟩) 8 cap)) (hb : b < w.heap.size) (hp : Pairs w b) (hrb : b ≠ rb) :
    Calls Tryz.prog 48 #[ptr rb, .func (.func 49) #[ptr rb] #[]] w fun e w' => e = .returned (.tuple #[]) ∧ ∃ gr, ReplAt w' rb 1 0 (ifaceR gr) (.slice none 0 0) ∧ rb < gr ∧ Built w' gr ∧ Stays rb w w' := by
  have L := Lib.hid (onceLoad ⟨rb, 0, none⟩ 0 w (cellAt' (i := 0) h rfl))
  have C := Lib.hid (replSlow_any rb b cap w h hb hp hrb)
  have hnot : ∀ (x : Bool) (w : World), (Op.unary .not (.bool x)).run Tryz.prog w = .ok (.bool (!x)) w := fun _ _ => rfl
  clear h hp
  go_enter Tryz.func48, Tryz.ntmps48
  go_wp2_with fail
  refine L.out.mono ?_
  rintro e w2 ⟨rfl, rfl⟩
  go_wp2_with fail
  refine C.out.mono ?_
  rintro e w3 ⟨rfl, hr⟩
  go_wp2
  go_end0
  exact ⟨rfl, hr⟩
end Go.Proofs.YtkekjddkbmmckaaGreat
