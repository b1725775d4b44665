/- strings.NewReplacer's trie: a key is added to a node. -/
import Derived.Test.YteikncnldbdfmaaGreatDoorOnce
import Derived.Test.YteikncnldbdfmaaGreatDoorMem
import Derived.Deep.RegionWith
import Derived.Deep.Cut
import Derived.Deep.LoopGhost
import Derived.BigQuiet
import Derived.RegionTactic
namespace Go.Mh
open Go.RowKit
/-- Other blocks stand, and this one's predecessors. -/
theorem cellAt' {w : World} {g T i : Nat} {xs : Array Value} {v : Value} {fr : Nat × Nat} (h : w.heap[g]? = some (.cells xs T fr)) (e : xs[i]? = some v) : w.cell? ⟨g, i, none⟩ = some v := by unfold World.cell?; rw [h]; exact e
theorem fzAt' {w : World} {g T i : Nat} {xs : Array Value} (h : w.heap[g]? = some (.cells xs T (0, 0))) : w.frozen? ⟨g, i, none⟩ = false := by simp [World.frozen?, h]
theorem heap_set {w : World} {g T i : Nat} {xs : Array Value} (v : Value) (h : w.heap[g]? = some (.cells xs T (0, 0))) : (w.setCell ⟨g, i, none⟩ v).heap[g]? = some (.cells (xs.set! i v) T (0, 0)) := by
  have := heap_setCell_same w g i _ _ v h
  simpa using this
theorem name_call {P : Program} {f : FuncId} {a : Array Value} {w : World} {K : Ending → World → Prop} (h : ∀ w0, w = w0 → Calls P f a w0 K) : Calls P f a w K := h w rfl
theorem cell_eq {w w' : World} {g i : Nat} (h : w'.heap[g]? = w.heap[g]?) : w'.cell? ⟨g, i, none⟩ = w.cell? ⟨g, i, none⟩ := by unfold World.cell?; rw [h]
theorem Stays.newer {g N : Nat} {a b c : World} (h : Stays g a b) (k : Stays N b c) (hN : a.heap.size ≤ N) (hg : g ≤ N) : Stays g a c :=
  ⟨fun j hj hn => (k.same j (Nat.lt_of_lt_of_le hj h.bel.size) (by omega)).trans (h.same j hj hn), h.bel.trans (k.bel.mono hg)⟩
theorem Stays.more {g : Nat} {a b c : World} (h : Stays g a b) (k : Below b.heap.size b c) (hg : g ≤ b.heap.size) : Stays g a c :=
  ⟨fun j hj hn => (k.block j (Nat.lt_of_lt_of_le hj h.bel.size)).trans (h.same j hj hn), h.bel.trans (k.mono hg)⟩
end Go.Mh
namespace Go.Proofs.YteikncnldbdfmaaGreatDoor
open Go.RowKit Go.Mh

/-- A node of the trie, in a block of its own. -/
def NodeAt (w : World) (g : Nat) (v : Bs) (p : Int) (x : Bs) (n t : Value) : Prop := w.heap[g]? = some (.cells #[str v, .int .i64 p, str x, n, t] 326 (0, 0))
abbrev ptr (g : Nat) : Value := .pointer (some ⟨g, 0, none⟩)

set_option maxRecDepth 100000 in
set_option maxHeartbeats 2000000 in
theorem addE_any (g : Nat) (val : Bs) (pri : Int) (rv x n t v0 : Value) (w : World) (h : w.heap[g]? = some (.cells #[v0, .int .i64 0, x, n, t] 326 (0, 0))) :
    Calls Tryz.prog 264 #[ptr g, .string ⟨#[]⟩, str val, .int .i64 pri, rv] w fun e w' => e = .returned (.tuple #[]) ∧ w'.heap[g]? = some (.cells #[str val, .int .i64 pri, x, n, t] 326 (0, 0)) ∧ Stays g w w' := by
  have c0 := cellAt' (i := 0) h rfl
  have c1 := cellAt' (i := 1) h rfl
  have z0 := fzAt' (i := 0) h
  have z1 := fzAt' (i := 1) h
  have hH := Lib.hid h
  clear h
  go_enter Tryz.func264, Tryz.ntmps264
  go_wp2
  first | go_end0 | refine bodyPost_ret (results_none rfl _ _ _) rfl ?_
  exact ⟨rfl, by
    have h1 := heap_set (i := 0) (str val) hH.out
    have h2 := heap_set (i := 1) (.int .i64 pri) h1
    simpa using h2, Stays.set.trans Stays.set⟩

set_option maxRecDepth 100000 in
set_option maxHeartbeats 4000000 in
theorem addP_any (g : Nat) (c : UInt8) (k val : Bs) (pri : Int) (rv : Value) (w : World) (h : NodeAt w g [] 0 [] (.pointer none) (.slice none 0 0)) :
    Calls Tryz.prog 264 #[ptr g, str (c :: k), str val, .int .i64 pri, rv] w fun e w' => e = .returned (.tuple #[]) ∧
      ∃ N, NodeAt w' g [] 0 (c :: k) (ptr N) (.slice none 0 0) ∧ NodeAt w' N val pri [] (.pointer none) (.slice none 0 0) ∧ w.heap.size ≤ N ∧ N < w'.heap.size ∧ Stays g w w' := by
  have c0 := cellAt' (i := 0) h rfl
  have c1 := cellAt' (i := 1) h rfl
  have c2 := cellAt' (i := 2) h rfl
  have c3 := cellAt' (i := 3) h rfl
  have c4 := cellAt' (i := 4) h rfl
  have z2 := fzAt' (i := 2) h
  have z3 := fzAt' (i := 3) h
  have hH := Lib.hid h
  have hlt := lt_of_heap h
  clear h
  go_enter Tryz.func264, Tryz.ntmps264
  go_wp2_with fail
  refine name_call ?_
  intro w0 hw0
  have hA : w0.heap[w.heap.size]? = some (.cells #[str [], .int .i64 0, str [], .pointer none, .slice none 0 0] 326 (0, 0)) := by rw [← hw0]; exact heap_at (by simp)
  have hS : Stays g w w0 := by rw [← hw0]; exact (Stays.set.trans Stays.set).more (bal (brf _) _) (by simp; omega)
  have hG : w0.heap[g]? = some (.cells #[str [], .int .i64 0, str (c :: k), ptr w.heap.size, .slice none 0 0] 326 (0, 0)) := by
    rw [← hw0]
    refine ((bal (brf _) _).block g (by simpa using hlt)).trans ?_
    have h1 := heap_set (i := 2) (str (c :: k)) hH.out
    have h2 := heap_set (i := 3) (ptr w.heap.size) h1
    simpa using h2
  clear hw0 c0 c1 c2 c3 c4 z2 z3
  refine (addE_any w.heap.size val pri rv _ _ _ _ w0 hA).mono ?_
  rintro e w1 ⟨rfl, h1, s1⟩
  go_wp2
  first | go_end0 | refine bodyPost_ret (results_none rfl _ _ _) rfl ?_
  exact ⟨rfl, w.heap.size, (s1.same g (lt_of_heap hG) (by omega)).trans hG, h1, Nat.le_refl _, lt_of_heap h1, hS.newer s1 (Nat.le_refl _) (by omega)⟩

theorem mk11 (w : World) : (Instr.makeSlice 324 (.int .i64 11) (.int .i64 11)).run Tryz.prog w = .ok (.slice (some ⟨w.heap.size, 0, none⟩) 11 11) (w.alloc (.cells #[.pointer none, .pointer none, .pointer none, .pointer none, .pointer none, .pointer none, .pointer none, .pointer none, .pointer none, .pointer none, .pointer none] 323)) := by kernel_rfl

set_option maxRecDepth 1000000 in
set_option maxHeartbeats 8000000 in
theorem addS_any (g gr n1 : Nat) (val : Bs) (pri : Int) (w : World) (h : NodeAt w g [] 0 [97, 109, 112, 59] (ptr n1) (.slice none 0 0))
    (t5 : w.cell? ⟨gr, 5, none⟩ = some (.int .i64 11)) (m1 : w.cell? ⟨gr, 103, none⟩ = some (.int .u8 2)) (m2 : w.cell? ⟨gr, 114, none⟩ = some (.int .u8 4)) (hne : gr ≠ g) :
    Calls Tryz.prog 264 #[ptr g, str [108, 116, 59], str val, .int .i64 pri, ptr gr] w fun e w' => e = .returned (.tuple #[]) ∧
      ∃ T P K N, NodeAt w' g [] 0 [] (.pointer none) (.slice (some ⟨T, 0, none⟩) 11 11) ∧ NodeAt w' P [] 0 [109, 112, 59] (ptr n1) (.slice none 0 0) ∧ NodeAt w' K [] 0 [116, 59] (ptr N) (.slice none 0 0) ∧ NodeAt w' N val pri [] (.pointer none) (.slice none 0 0) ∧
        w'.heap[T]? = some (.cells #[.pointer none, .pointer none, ptr P, .pointer none, ptr K, .pointer none, .pointer none, .pointer none, .pointer none, .pointer none, .pointer none] 323 (0, 0)) ∧
        w.heap.size ≤ T ∧ w.heap.size ≤ P ∧ w.heap.size ≤ K ∧ w.heap.size ≤ N ∧ Stays g w w' := by
  have c0 := cellAt' (i := 0) h rfl
  have c1 := cellAt' (i := 1) h rfl
  have c2 := cellAt' (i := 2) h rfl
  have c3 := cellAt' (i := 3) h rfl
  have c4 := cellAt' (i := 4) h rfl
  have z2 := fzAt' (i := 2) h
  have z3 := fzAt' (i := 3) h
  have z4 := fzAt' (i := 4) h
  have hH := Lib.hid h
  have hlt := lt_of_heap h
  have hgr := lt_of_cell t5
  clear h
  have hmk := mk11
  go_enter Tryz.func264, Tryz.ntmps264
  go_upto_region 6 with fail
  refine wp_loop_rounds 2 ?_
  rw [rounds_succ]
  go_upto_region 8 with fail
  go_quiet (fail)
  go_upto_region 15 with fail
  go_region
  go_upto_region 16 with fail
  refine name_world ?_
  intro w1 hw1
  have hb1 : Below w.heap.size w w1 := by rw [← hw1]; exact bal (bdrewN (brf w) _) _
  have hP : w1.heap[w.heap.size]? = some (.cells #[str [], .int .i64 0, str [109, 112, 59], ptr n1, .slice none 0 0] 326 (0, 0)) := by rw [← hw1]; exact heap_at (by simp)
  have hg1 := (hb1.block g hlt).trans hH.out
  have z1 : w1.heap.size = w.heap.size + 1 := by rw [← hw1]; simp
  have t5' := (hb1.cell (p := ⟨gr, 5, none⟩) hgr).trans t5
  have m1' := (hb1.cell (p := ⟨gr, 103, none⟩) hgr).trans m1
  have m2' := (hb1.cell (p := ⟨gr, 114, none⟩) hgr).trans m2
  have z4' := fzAt' (i := 4) hg1
  have c4' := cellAt' (i := 4) (v := .slice none 0 0) hg1 rfl
  have hl1 : g < w1.heap.size := lt_of_heap hg1
  have hr1 : gr < w1.heap.size := lt_of_cell t5'
  have z4a : ∀ o o', ((w1.alloc o).alloc o').frozen? ⟨g, 4, none⟩ = false := fun o o' => by rw [World.frozen?_alloc_past _ _ _ (by simp; omega), World.frozen?_alloc_past _ _ _ hl1]; exact z4'
  have c4a : ∀ o o', ((w1.alloc o).alloc o').cell? ⟨g, 4, none⟩ = some (.slice none 0 0) := fun o o' => by rw [World.cell?_alloc_past _ _ _ (by simp; omega), World.cell?_alloc_past _ _ _ hl1]; exact c4'
  clear hw1 t5 m1 m2 c0 c1 c2 c3 c4 z2 z3 z4
  go_upto_region 18 with fail
  refine name_world ?_
  intro w2 hw2
  have hT2 : w2.heap[w.heap.size + 2]? = some (.cells #[.pointer none, .pointer none, .pointer none, .pointer none, .pointer none, .pointer none, .pointer none, .pointer none, .pointer none, .pointer none, .pointer none] 323 (0, 0)) := by
    rw [← hw2]; exact (heap_setCell_other _ _ _ _ (show w.heap.size + 2 ≠ g by omega)).trans (heap_at (by simp; omega))
  have hg2 : w2.heap[g]? = some (.cells #[str [], .int .i64 0, str [97, 109, 112, 59], ptr n1, .slice (some ⟨w.heap.size + 2, 0, none⟩) 11 11] 326 (0, 0)) := by
    rw [← hw2]
    have h1 := heap_set (i := 4) (.slice (some ⟨w.heap.size + 2, 0, none⟩) 11 11) (((bal (bal (brf w1) (.cells #[str [], .int .i64 0, str [], .pointer none, .slice none 0 0] 326)) (.cells #[.pointer none, .pointer none, .pointer none, .pointer none, .pointer none, .pointer none, .pointer none, .pointer none, .pointer none, .pointer none, .pointer none] 323)).block g hl1).trans hg1)
    simpa [z1] using h1
  have hK2 : w2.heap[w.heap.size + 1]? = some (.cells #[str [], .int .i64 0, str [], .pointer none, .slice none 0 0] 326 (0, 0)) := by
    rw [← hw2]; exact (heap_setCell_other _ _ _ _ (show w.heap.size + 1 ≠ g by omega)).trans (heap_at2 (by omega))
  have ho2 : ∀ k, k < w1.heap.size → k ≠ g → w2.heap[k]? = w1.heap[k]? := fun k hk hn => by
    rw [← hw2]; exact (heap_setCell_other _ _ _ _ hn).trans ((bal (bal (brf w1) _) _).block k hk)
  have hs2 : w2.heap.size = w.heap.size + 3 := by rw [← hw2]; simp [z1]
  have hP2 := (ho2 _ (lt_of_heap hP) (by omega)).trans hP
  have r2 := ho2 gr hr1 hne
  have m1b := (cell_eq r2 (i := 103)).trans m1'
  have m2b := (cell_eq r2 (i := 114)).trans m2'
  have g2 := cellAt' (i := 2) (v := str [97, 109, 112, 59]) hg2 rfl
  have g4 := cellAt' (i := 4) (v := .slice (some ⟨w.heap.size + 2, 0, none⟩) 11 11) hg2 rfl
  have T2 := cellAt' (i := 2) (v := .pointer none) hT2 rfl
  have y2 := fzAt' (i := 2) hT2
  have hb2 : Stays g w w2 := ⟨fun k hk hn => (ho2 k (by omega) hn).trans (hb1.block k hk), by
    rw [← hw2]; exact ((hb1.mono (Nat.le_of_lt hlt)).trans ((bal (bal (brf w1) _) _).mono (by omega))).setCell (p := ⟨g, 4, none⟩) (Nat.le_refl g) _⟩
  have u1 : ((({ data := #[97, 109, 112, 59] } : ByteArray)[0]'(by decide)).toNat) = 97 := rfl
  have u2 : ((({ data := #[108, 116, 59] } : ByteArray)[0]'(by decide)).toNat) = 108 := rfl
  clear hw2 hb1 hP hg1 z1 t5' m1' m2' c4' hl1 hr1 z4' z4a c4a hne ho2
  go_region
  go_upto_region 19 with fail
  refine name_world ?_
  intro w3 hw3
  have ho3 : ∀ k, k ≠ w.heap.size + 2 → w3.heap[k]? = w2.heap[k]? := fun k hn => by rw [← hw3]; exact heap_setCell_other w2 _ k _ hn
  have hT3 : w3.heap[w.heap.size + 2]? = some (.cells #[.pointer none, .pointer none, ptr w.heap.size, .pointer none, .pointer none, .pointer none, .pointer none, .pointer none, .pointer none, .pointer none, .pointer none] 323 (0, 0)) := by
    rw [← hw3]; exact heap_set (i := 2) (ptr w.heap.size) hT2
  have hs3 : w3.heap.size = w.heap.size + 3 := by rw [← hw3]; simp [hs2]
  have hb3 : Stays g w w3 := hb2.newer (by rw [← hw3]; exact Stays.set.drew : Stays (w.heap.size + 2) w2 w3) (by omega) (by omega)
  have ng : g ≠ w.heap.size + 2 := by omega
  have g4' := (cell_eq (ho3 g ng) (i := 4)).trans g4
  have m2' := (cell_eq (ho3 gr (by omega)) (i := 114)).trans m2b
  have hg3 := (ho3 g ng).trans hg2
  have hK3 := (ho3 (w.heap.size + 1) (by omega)).trans hK2
  have hP3 := (ho3 w.heap.size (by omega)).trans hP2
  have T4 := cellAt' (i := 4) (v := .pointer none) hT3 rfl
  have y4 := fzAt' (i := 4) hT3
  clear hw3 ho3 hT2 hg2 hK2 hs2 hP2 r2 m1b m2b g2 g4 T2 y2 hb2 hmk
  go_region
  go_upto_region 20 with fail
  refine name_world ?_
  intro w4 hw4
  have ho4 : ∀ k, k ≠ w.heap.size + 2 → w4.heap[k]? = w3.heap[k]? := fun k hn => by rw [← hw4]; exact heap_setCell_other w3 _ k _ hn
  have hT4 : w4.heap[w.heap.size + 2]? = some (.cells #[.pointer none, .pointer none, ptr w.heap.size, .pointer none, ptr (w.heap.size + 1), .pointer none, .pointer none, .pointer none, .pointer none, .pointer none, .pointer none] 323 (0, 0)) := by
    rw [← hw4]; exact heap_set (i := 4) (ptr (w.heap.size + 1)) hT3
  have hs4 : w4.heap.size = w.heap.size + 3 := by rw [← hw4]; simp [hs3]
  have hb4 : Stays g w w4 := hb3.newer (by rw [← hw4]; exact Stays.set.drew : Stays (w.heap.size + 2) w3 w4) (by omega) (by omega)
  have hg4 := (ho4 g ng).trans hg3
  have hK4 := (ho4 (w.heap.size + 1) (by omega)).trans hK3
  have hP4 := (ho4 w.heap.size (by omega)).trans hP3
  have d2 := cellAt' (i := 2) (v := str [97, 109, 112, 59]) hg4 rfl
  have d3 := cellAt' (i := 3) (v := ptr n1) hg4 rfl
  have x2 := fzAt' (i := 2) hg4
  have x3 := fzAt' (i := 3) hg4
  clear hw4 ho4 hT3 hg3 hK3 hs3 hP3 g4' m2' T4 y4 hb3
  go_wp2_with fail
  refine name_call ?_
  intro w5 hw5
  have ho5 : ∀ k, k ≠ g → w5.heap[k]? = w4.heap[k]? := fun k hn => by rw [← hw5]; exact (heap_setCell_other _ _ k _ hn).trans (heap_setCell_other w4 _ k _ hn)
  have hg5 : w5.heap[g]? = some (.cells #[str [], .int .i64 0, str [], .pointer none, .slice (some ⟨w.heap.size + 2, 0, none⟩) 11 11] 326 (0, 0)) := by
    rw [← hw5]
    have h1 := heap_set (i := 2) (str []) hg4
    have h2 := heap_set (i := 3) (.pointer none) h1
    simpa using h2
  have hs5 : w5.heap.size = w.heap.size + 3 := by rw [← hw5]; simp [hs4]
  have hb5 : Stays g w w5 := hb4.trans (by rw [← hw5]; exact Stays.set.trans Stays.set)
  have hK5 := (ho5 (w.heap.size + 1) (by omega)).trans hK4
  have hP5 := (ho5 w.heap.size (by omega)).trans hP4
  have hT5 := (ho5 (w.heap.size + 2) (by omega)).trans hT4
  clear hw5 ho5 hT4 hg4 hK4 hs4 hP4 d2 d3 x2 x3 hb4
  refine (addP_any (w.heap.size + 1) 116 [59] val pri (ptr gr) w5 hK5).mono ?_
  rintro e w6 ⟨rfl, N, h1, h2, h3, h4, s6⟩
  go_wp2
  first | go_end0 | refine bodyPost_ret (results_none rfl _ _ _) rfl ?_
  refine ⟨rfl, w.heap.size + 2, w.heap.size, w.heap.size + 1, N, (s6.same g (lt_of_heap hg5) (by omega)).trans hg5, (s6.same _ (lt_of_heap hP5) (by omega)).trans hP5, h1, h2, (s6.same _ (lt_of_heap hT5) (by omega)).trans hT5, by omega, by omega, by omega, by omega, hb5.newer s6 (by omega) (by omega)⟩
end Go.Proofs.YteikncnldbdfmaaGreatDoor
