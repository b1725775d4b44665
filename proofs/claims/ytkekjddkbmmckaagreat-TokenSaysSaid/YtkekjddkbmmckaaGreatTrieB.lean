/- strings.NewReplacer's trie: keys under a table. -/
import Derived.Test.YtkekjddkbmmckaaGreatTrie
import Derived.Test.YtkekjddkbmmckaaGreatRegT
import Derived.OrdersHeld
import Derived.Test.YtkekjddkbmmckaaGreatTok
namespace Go.Proofs.YtkekjddkbmmckaaGreat
open Go.RowKit Go.Mh

set_option maxRecDepth 1000000 in
set_option maxHeartbeats 8000000 in
theorem addT_new (g gr T m : Nat) (c d : UInt8) (k val : Bs) (pri : Int) (ts : Array Value) (w : World) (g2 : w.cell? ⟨g, 2, none⟩ = some (str [])) (g4 : w.cell? ⟨g, 4, none⟩ = some (.slice (some ⟨T, 0, none⟩) 11 11))
    (hm : w.cell? ⟨gr, 6 + c.toNat, none⟩ = some (.int .u8 m)) (hm11 : m < 11) (hT : w.heap[T]? = some (.cells ts 114 (0, 0))) (ht : ts[m]? = some (.pointer none)) (hgT : g ≠ T) :
    Calls Tryz.prog 67 #[ptr g, str (c :: d :: k), str val, .int .i64 pri, ptr gr] w fun e w' => e = .returned (.tuple #[]) ∧
      ∃ K N, NodeAt w' K [] 0 (d :: k) (ptr N) (.slice none 0 0) ∧ NodeAt w' N val pri [] (.pointer none) (.slice none 0 0) ∧ w'.heap[T]? = some (.cells (ts.set! m (ptr K)) 114 (0, 0)) ∧ w.heap.size ≤ K ∧ w.heap.size ≤ N ∧ Stays T w w' := by
  have y := fzAt' (i := m) hT
  have t0 := cellAt' (i := m) hT ht
  have hc : (c.toNat : Int) < 256 := by have := c.toNat_lt; omega
  have hm11' : (m : Int) < 11 := by omega
  have hlg : g < w.heap.size := lt_of_cell g2
  have hlr : gr < w.heap.size := lt_of_cell hm
  have hlT : T < w.heap.size := lt_of_heap hT
  have hq : ∀ n o, ((w.drewN n).alloc o).heap[T]? = some (.cells ts 114 (0, 0)) := fun n o => ((bal (bdrewN (brf w) n) o).block T hlT).trans hT
  have y' : ∀ n o, ((w.drewN n).alloc o).frozen? ⟨T, m, none⟩ = false := fun n o => fzAt' (hq n o)
  have t1 : ∀ n o, ((w.drewN n).alloc o).cell? ⟨T, m, none⟩ = some (.pointer none) := fun n o => cellAt' (hq n o) ht
  have hk1 : (1 : Int) ≤ (k.length : Int) + 1 + 1 := by omega
  have hsl : Value.string ((⟨(c :: d :: k).toArray⟩ : ByteArray).extract 1 (k.length + 1 + 1)) = str (d :: k) := str_tail c (d :: k)
  have u := str_get (l := c :: d :: k) (k := 0) (c := c) rfl
  go_enter Tryz.func67, Tryz.ntmps67
  go_upto_region 28 with fail
  go_quiet (fail)
  go_upto_region 31 with fail
  refine name_world ?_
  intro w1 hw1
  have ho : ∀ k, k < w.heap.size → k ≠ T → w1.heap[k]? = w.heap[k]? := fun k hk hn => by
    rw [← hw1]; exact (heap_setCell_other _ _ k _ hn).trans ((bal (bdrewN (brf w) _) _).block k hk)
  have hT1 : w1.heap[T]? = some (.cells (ts.set! m (ptr w.heap.size)) 114 (0, 0)) := by rw [← hw1]; exact heap_set (i := m) (ptr w.heap.size) (hq _ _)
  have hK1 : w1.heap[w.heap.size]? = some (.cells #[str [], .int .i64 0, str [], .pointer none, .slice none 0 0] 117 (0, 0)) := by
    rw [← hw1]; exact (heap_setCell_other _ _ _ _ (show w.heap.size ≠ T by omega)).trans (heap_at (by simp))
  have hs1 : Stays T w w1 := ⟨ho, by rw [← hw1]; exact ((bal (bdrewN (brf w) _) _).mono (Nat.le_of_lt hlT)).setCell (p := ⟨T, m, none⟩) (Nat.le_refl T) _⟩
  have a4 := (cell_eq (ho g hlg hgT) (i := 4)).trans g4
  have b4 := cellAt' (i := m) (v := ptr w.heap.size) hT1 (by have := (Array.getElem?_eq_some_iff.1 ht).1; simp [this])
  clear hw1 ho y y' t0 t1 g2 g4 hm hT ht hq
  refine wp_region_held (S := fun w' => w'.cell? ⟨g, 4, none⟩ = some (.slice (some ⟨T, 0, none⟩) 11 11) ∧ w'.cell? ⟨T, m, none⟩ = some (ptr w.heap.size)) (by kernel_rfl) ?_
  refine wpAnyH_takeD 0 212 (v := ?_) rfl rfl (by kernel_rfl) (by kernel_rfl) (by kernel_rfl) (fun _ _ _ h => h) (Or.inl ⟨by rfl, ?_⟩) ⟨a4, b4⟩ ?_
  rotate_left
  · (intro w' hw'; (try dsimp only at hw'); go_simp; try with_reducible rfl)
  simp only [List.set_cons_zero, List.set_cons_succ]
  refine wpAnyH_takeD 1 213 (v := ?_) rfl rfl (by kernel_rfl) (by kernel_rfl) (by kernel_rfl) (fun _ _ _ h => h) (Or.inl ⟨by rfl, ?_⟩) ⟨a4, b4⟩ ?_
  rotate_left
  · (intro w' hw'; (try dsimp only at hw'); go_simp; try with_reducible rfl)
  simp only [List.set_cons_zero, List.set_cons_succ]
  refine wpAnyH_takeD 2 214 (v := ?_) rfl rfl (by kernel_rfl) (by kernel_rfl) (by kernel_rfl) (fun _ _ _ h => h) (Or.inl ⟨by rfl, ?_⟩) ⟨a4, b4⟩ ?_
  rotate_left
  · (intro w' hw'; (try dsimp only at hw'); go_simp; try with_reducible rfl)
  simp only [List.set_cons_zero, List.set_cons_succ]
  refine wpAnyH_takeD 3 215 (v := ?_) rfl rfl (by kernel_rfl) (by kernel_rfl) (by kernel_rfl) (fun _ _ _ h => h) (Or.inl ⟨by rfl, ?_⟩) ⟨a4, b4⟩ ?_
  rotate_left
  · (intro w' hw'; (try dsimp only at hw'); go_simp; try with_reducible rfl)
  simp only [List.set_cons_zero, List.set_cons_succ]
  refine wpAnyH_takeD 4 216 (v := ?_) rfl rfl (by kernel_rfl) (by kernel_rfl) (by kernel_rfl) (fun _ _ _ h => h) (Or.inl ⟨by rfl, ?_⟩) ⟨a4, b4⟩ ?_
  rotate_left
  · (intro w' hw'; (try dsimp only at hw'); go_simp; try with_reducible rfl)
  simp only [List.set_cons_zero, List.set_cons_succ]
  refine wpAnyH_takeD 5 217 (v := ?_) rfl rfl (by kernel_rfl) (by kernel_rfl) (by kernel_rfl) (fun _ _ _ h => h) (Or.inl ⟨by rfl, ?_⟩) ⟨a4, b4⟩ ?_
  rotate_left
  · (intro w' hw'; (try dsimp only at hw'); go_simp; try with_reducible rfl)
  simp only [List.set_cons_zero, List.set_cons_succ]
  refine wpAnyH_takeD 6 218 (v := ?_) rfl rfl (by kernel_rfl) (by kernel_rfl) (by kernel_rfl) (fun _ _ _ h => h) (Or.inl ⟨by rfl, ?_⟩) ⟨a4, b4⟩ ?_
  rotate_left
  · (intro w' hw'; (try dsimp only at hw'); go_simp; try with_reducible rfl)
  simp only [List.set_cons_zero, List.set_cons_succ]
  refine wpAnyH_takeD 7 219 (v := ?_) rfl rfl (by kernel_rfl) (by kernel_rfl) (by kernel_rfl) (fun _ _ _ h => h) (Or.inl ⟨by rfl, ?_⟩) ⟨a4, b4⟩ ?_
  rotate_left
  · (intro w' hw'; (try dsimp only at hw'); go_simp; try with_reducible rfl)
  simp only [List.set_cons_zero, List.set_cons_succ]
  refine wpAnyH_takeD 8 220 (v := ?_) rfl rfl (by kernel_rfl) (by kernel_rfl) (by kernel_rfl) (fun _ _ _ h => h) (Or.inl ⟨by rfl, ?_⟩) ⟨a4, b4⟩ ?_
  rotate_left
  · (intro w' hw'; (try dsimp only at hw'); go_simp; try with_reducible rfl)
  simp only [List.set_cons_zero, List.set_cons_succ]
  refine wpAnyH_takeD 9 221 (v := ?_) rfl rfl (by kernel_rfl) (by kernel_rfl) (by kernel_rfl) (fun _ _ _ h => h) (Or.inl ⟨by rfl, ?_⟩) ⟨a4, b4⟩ ?_
  rotate_left
  · (intro w' hw'; (try dsimp only at hw'); go_simp; try with_reducible rfl)
  simp only [List.set_cons_zero, List.set_cons_succ]
  refine wpAnyH_takeD 10 222 (v := ?_) rfl rfl (by kernel_rfl) (by kernel_rfl) (by kernel_rfl) (fun _ _ _ h => h) (Or.inl ⟨by rfl, ?_⟩) ⟨a4, b4⟩ ?_
  rotate_left
  · (intro w' hw'; (try dsimp only at hw'); go_simp; try with_reducible rfl)
  simp only [List.set_cons_zero, List.set_cons_succ]
  refine wpAnyH_takeD 11 223 (v := ?_) rfl rfl (by kernel_rfl) (by kernel_rfl) (by kernel_rfl) (fun _ _ _ h => h) (Or.inl ⟨by rfl, ?_⟩) ⟨a4, b4⟩ ?_
  rotate_left
  · (intro w' hw'; (try dsimp only at hw'); go_simp; try with_reducible rfl)
  simp only [List.set_cons_zero, List.set_cons_succ]
  refine wpAnyH_step 12 rfl (by kernel_rfl) (fun K' hK' => ?_)
  rw [if_pos (by rfl)]
  go_simp
  go_at_call 67
  refine (addP_any w.heap.size d k val pri (ptr gr) w1.drew hK1).mono ?_
  rintro e w2 ⟨rfl, N, h1, h2, h3, h4, s2⟩
  have Q1 : w2.cell? ⟨g, 4, none⟩ = some (.slice (some ⟨T, 0, none⟩) 11 11) ∧ w2.cell? ⟨T, m, none⟩ = some (ptr w.heap.size) := ⟨(cell_eq (s2.same g (lt_of_cell a4) (by omega))).trans a4, (cell_eq (s2.same T (lt_of_heap hT1) (by omega))).trans b4⟩
  go_wp2_with fail
  refine hK'.out _ _ Q1 ?_
  clear hK' K'
  refine wpAnyH_done (by kernel_rfl) ?_ _
  first | go_end0 | refine bodyPost_ret (results_none rfl _ _ _) rfl ?_
  exact ⟨rfl, w.heap.size, N, h1, h2, (s2.same T (lt_of_heap hT1) (by omega)).trans hT1, Nat.le_refl _, by have := hs1.bel.size; have : w1.drew.heap.size = w1.heap.size := rfl; omega, hs1.newer (a := w) (b := w1) (c := w2) (N := w.heap.size) (Stays.mk s2.same (show Below w.heap.size w1 w2 from (Below.refl _ _).drew.trans s2.bel)) (Nat.le_refl _) (by omega)⟩

set_option maxRecDepth 1000000 in
set_option maxHeartbeats 8000000 in
theorem addT_old (g gr T m K : Nat) (c d : UInt8) (k val : Bs) (pri : Int) (ts : Array Value) (w : World) (R : World → Prop) (g2 : w.cell? ⟨g, 2, none⟩ = some (str [])) (g4 : w.cell? ⟨g, 4, none⟩ = some (.slice (some ⟨T, 0, none⟩) 11 11))
    (hm : w.cell? ⟨gr, 6 + c.toNat, none⟩ = some (.int .u8 m)) (hm11 : m < 11) (hT : w.heap[T]? = some (.cells ts 114 (0, 0))) (ht : ts[m]? = some (ptr K))
    (C : ∀ n, Calls Tryz.prog 67 #[ptr K, str (d :: k), str val, .int .i64 pri, ptr gr] (w.drewN n) fun e w' => e = .returned (.tuple #[]) ∧ R w') (hR : ∀ w', R w' → w'.cell? ⟨g, 4, none⟩ = some (.slice (some ⟨T, 0, none⟩) 11 11) ∧ w'.cell? ⟨T, m, none⟩ = some (ptr K)) :
    Calls Tryz.prog 67 #[ptr g, str (c :: d :: k), str val, .int .i64 pri, ptr gr] w fun e w' => e = .returned (.tuple #[]) ∧ R w' := by
  have t0 := cellAt' (i := m) hT ht
  have hc : (c.toNat : Int) < 256 := by have := c.toNat_lt; omega
  have hm11' : (m : Int) < 11 := by omega
  have hk1 : (1 : Int) ≤ (k.length : Int) + 1 + 1 := by omega
  have hsl : Value.string ((⟨(c :: d :: k).toArray⟩ : ByteArray).extract 1 (k.length + 1 + 1)) = str (d :: k) := str_tail c (d :: k)
  have u := str_get (l := c :: d :: k) (k := 0) (c := c) rfl
  have C' := Lib.hid C
  have R' := Lib.hid hR
  clear C hR hT ht
  go_enter Tryz.func67, Tryz.ntmps67
  go_upto_region 28 with fail
  go_quiet (fail)
  go_upto_region 31 with fail
  refine wp_region_held (S := fun w' => w'.cell? ⟨g, 4, none⟩ = some (.slice (some ⟨T, 0, none⟩) 11 11) ∧ w'.cell? ⟨T, m, none⟩ = some (ptr K)) (by kernel_rfl) ?_
  refine wpAnyH_takeD 0 212 (v := ?_) rfl rfl (by kernel_rfl) (by kernel_rfl) (by kernel_rfl) (fun _ _ _ h => h) (Or.inl ⟨by rfl, ?_⟩) ⟨g4, t0⟩ ?_
  rotate_left
  · (intro w' hw'; (try dsimp only at hw'); go_simp; try with_reducible rfl)
  simp only [List.set_cons_zero, List.set_cons_succ]
  refine wpAnyH_takeD 1 213 (v := ?_) rfl rfl (by kernel_rfl) (by kernel_rfl) (by kernel_rfl) (fun _ _ _ h => h) (Or.inl ⟨by rfl, ?_⟩) ⟨g4, t0⟩ ?_
  rotate_left
  · (intro w' hw'; (try dsimp only at hw'); go_simp; try with_reducible rfl)
  simp only [List.set_cons_zero, List.set_cons_succ]
  refine wpAnyH_takeD 2 214 (v := ?_) rfl rfl (by kernel_rfl) (by kernel_rfl) (by kernel_rfl) (fun _ _ _ h => h) (Or.inl ⟨by rfl, ?_⟩) ⟨g4, t0⟩ ?_
  rotate_left
  · (intro w' hw'; (try dsimp only at hw'); go_simp; try with_reducible rfl)
  simp only [List.set_cons_zero, List.set_cons_succ]
  refine wpAnyH_takeD 3 215 (v := ?_) rfl rfl (by kernel_rfl) (by kernel_rfl) (by kernel_rfl) (fun _ _ _ h => h) (Or.inl ⟨by rfl, ?_⟩) ⟨g4, t0⟩ ?_
  rotate_left
  · (intro w' hw'; (try dsimp only at hw'); go_simp; try with_reducible rfl)
  simp only [List.set_cons_zero, List.set_cons_succ]
  refine wpAnyH_takeD 4 216 (v := ?_) rfl rfl (by kernel_rfl) (by kernel_rfl) (by kernel_rfl) (fun _ _ _ h => h) (Or.inl ⟨by rfl, ?_⟩) ⟨g4, t0⟩ ?_
  rotate_left
  · (intro w' hw'; (try dsimp only at hw'); go_simp; try with_reducible rfl)
  simp only [List.set_cons_zero, List.set_cons_succ]
  refine wpAnyH_takeD 5 217 (v := ?_) rfl rfl (by kernel_rfl) (by kernel_rfl) (by kernel_rfl) (fun _ _ _ h => h) (Or.inl ⟨by rfl, ?_⟩) ⟨g4, t0⟩ ?_
  rotate_left
  · (intro w' hw'; (try dsimp only at hw'); go_simp; try with_reducible rfl)
  simp only [List.set_cons_zero, List.set_cons_succ]
  refine wpAnyH_takeD 6 218 (v := ?_) rfl rfl (by kernel_rfl) (by kernel_rfl) (by kernel_rfl) (fun _ _ _ h => h) (Or.inl ⟨by rfl, ?_⟩) ⟨g4, t0⟩ ?_
  rotate_left
  · (intro w' hw'; (try dsimp only at hw'); go_simp; try with_reducible rfl)
  simp only [List.set_cons_zero, List.set_cons_succ]
  refine wpAnyH_takeD 7 219 (v := ?_) rfl rfl (by kernel_rfl) (by kernel_rfl) (by kernel_rfl) (fun _ _ _ h => h) (Or.inl ⟨by rfl, ?_⟩) ⟨g4, t0⟩ ?_
  rotate_left
  · (intro w' hw'; (try dsimp only at hw'); go_simp; try with_reducible rfl)
  simp only [List.set_cons_zero, List.set_cons_succ]
  refine wpAnyH_takeD 8 220 (v := ?_) rfl rfl (by kernel_rfl) (by kernel_rfl) (by kernel_rfl) (fun _ _ _ h => h) (Or.inl ⟨by rfl, ?_⟩) ⟨g4, t0⟩ ?_
  rotate_left
  · (intro w' hw'; (try dsimp only at hw'); go_simp; try with_reducible rfl)
  simp only [List.set_cons_zero, List.set_cons_succ]
  refine wpAnyH_takeD 9 221 (v := ?_) rfl rfl (by kernel_rfl) (by kernel_rfl) (by kernel_rfl) (fun _ _ _ h => h) (Or.inl ⟨by rfl, ?_⟩) ⟨g4, t0⟩ ?_
  rotate_left
  · (intro w' hw'; (try dsimp only at hw'); go_simp; try with_reducible rfl)
  simp only [List.set_cons_zero, List.set_cons_succ]
  refine wpAnyH_takeD 10 222 (v := ?_) rfl rfl (by kernel_rfl) (by kernel_rfl) (by kernel_rfl) (fun _ _ _ h => h) (Or.inl ⟨by rfl, ?_⟩) ⟨g4, t0⟩ ?_
  rotate_left
  · (intro w' hw'; (try dsimp only at hw'); go_simp; try with_reducible rfl)
  simp only [List.set_cons_zero, List.set_cons_succ]
  refine wpAnyH_takeD 11 223 (v := ?_) rfl rfl (by kernel_rfl) (by kernel_rfl) (by kernel_rfl) (fun _ _ _ h => h) (Or.inl ⟨by rfl, ?_⟩) ⟨g4, t0⟩ ?_
  rotate_left
  · (intro w' hw'; (try dsimp only at hw'); go_simp; try with_reducible rfl)
  simp only [List.set_cons_zero, List.set_cons_succ]
  refine wpAnyH_step 12 rfl (by kernel_rfl) (fun K' hK' => ?_)
  rw [if_pos (by rfl)]
  go_simp
  go_at_call 67
  refine (C'.out (nq + 1)).mono ?_
  rintro e w2 ⟨rfl, h1⟩
  have Q1 := R'.out _ h1
  go_wp2_with fail
  refine hK'.out _ _ Q1 ?_
  clear hK' K'
  refine wpAnyH_done (by kernel_rfl) ?_ _
  first | go_end0 | refine bodyPost_ret (results_none rfl _ _ _) rfl ?_
  exact ⟨rfl, h1⟩
end Go.Proofs.YtkekjddkbmmckaaGreat
