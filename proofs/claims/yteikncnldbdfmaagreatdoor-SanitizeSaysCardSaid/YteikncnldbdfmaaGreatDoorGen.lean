/- strings.NewReplacer's trie: keys under a table. -/
import Derived.Test.YteikncnldbdfmaaGreatDoorTrie
import Derived.Test.YteikncnldbdfmaaGreatDoorRegT
import Derived.OrdersHeld
import Derived.Test.YteikncnldbdfmaaGreatDoorTok
import Derived.Test.YteikncnldbdfmaaGreatDoorPl
import Derived.Deep.MidRow
import Derived.Test.YteikncnldbdfmaaGreatDoorDoc
namespace Go.Proofs.YteikncnldbdfmaaGreatDoor
open Go.RowKit Go.Mh

set_option maxRecDepth 1000000 in
set_option maxHeartbeats 8000000 in
theorem addT_new (g gr T m : Nat) (c d : UInt8) (k val : Bs) (pri : Int) (ts : Array Value) (w : World) (g2 : w.cell? ⟨g, 2, none⟩ = some (str [])) (g4 : w.cell? ⟨g, 4, none⟩ = some (.slice (some ⟨T, 0, none⟩) 11 11))
    (hm : w.cell? ⟨gr, 6 + c.toNat, none⟩ = some (.int .u8 m)) (hm11 : m < 11) (hT : w.heap[T]? = some (.cells ts 323 (0, 0))) (ht : ts[m]? = some (.pointer none)) (hgT : g ≠ T) :
    Calls Tryz.prog 264 #[ptr g, str (c :: d :: k), str val, .int .i64 pri, ptr gr] w fun e w' => e = .returned (.tuple #[]) ∧
      ∃ K N, NodeAt w' K [] 0 (d :: k) (ptr N) (.slice none 0 0) ∧ NodeAt w' N val pri [] (.pointer none) (.slice none 0 0) ∧ w'.heap[T]? = some (.cells (ts.set! m (ptr K)) 323 (0, 0)) ∧ w.heap.size ≤ K ∧ w.heap.size ≤ N ∧ Stays T w w' := by
  have y := fzAt' (i := m) hT
  have t0 := cellAt' (i := m) hT ht
  have hc : (c.toNat : Int) < 256 := by have := c.toNat_lt; omega
  have hm11' : (m : Int) < 11 := by omega
  have hlg : g < w.heap.size := lt_of_cell g2
  have hlr : gr < w.heap.size := lt_of_cell hm
  have hlT : T < w.heap.size := lt_of_heap hT
  have hq : ∀ n o, ((w.drewN n).alloc o).heap[T]? = some (.cells ts 323 (0, 0)) := fun n o => ((bal (bdrewN (brf w) n) o).block T hlT).trans hT
  have y' : ∀ n o, ((w.drewN n).alloc o).frozen? ⟨T, m, none⟩ = false := fun n o => fzAt' (hq n o)
  have t1 : ∀ n o, ((w.drewN n).alloc o).cell? ⟨T, m, none⟩ = some (.pointer none) := fun n o => cellAt' (hq n o) ht
  have hk1 : (1 : Int) ≤ (k.length : Int) + 1 + 1 := by omega
  have hsl : Value.string ((⟨(c :: d :: k).toArray⟩ : ByteArray).extract 1 (k.length + 1 + 1)) = str (d :: k) := str_tail c (d :: k)
  have u := str_get (l := c :: d :: k) (k := 0) (c := c) rfl
  go_enter Tryz.func264, Tryz.ntmps264
  go_upto_region 28 with fail
  go_quiet (fail)
  go_upto_region 31 with fail
  refine name_world ?_
  intro w1 hw1
  have ho : ∀ k, k < w.heap.size → k ≠ T → w1.heap[k]? = w.heap[k]? := fun k hk hn => by
    rw [← hw1]; exact (heap_setCell_other _ _ k _ hn).trans ((bal (bdrewN (brf w) _) _).block k hk)
  have hT1 : w1.heap[T]? = some (.cells (ts.set! m (ptr w.heap.size)) 323 (0, 0)) := by rw [← hw1]; exact heap_set (i := m) (ptr w.heap.size) (hq _ _)
  have hK1 : w1.heap[w.heap.size]? = some (.cells #[str [], .int .i64 0, str [], .pointer none, .slice none 0 0] 326 (0, 0)) := by
    rw [← hw1]; exact (heap_setCell_other _ _ _ _ (show w.heap.size ≠ T by omega)).trans (heap_at (by simp))
  have hs1 : Stays T w w1 := ⟨ho, by rw [← hw1]; exact ((bal (bdrewN (brf w) _) _).mono (Nat.le_of_lt hlT)).setCell (p := ⟨T, m, none⟩) (Nat.le_refl T) _⟩
  have a4 := (cell_eq (ho g hlg hgT) (i := 4)).trans g4
  have b4 := cellAt' (i := m) (v := ptr w.heap.size) hT1 (by have := (Array.getElem?_eq_some_iff.1 ht).1; simp [this])
  clear hw1 ho y y' t0 t1 g2 g4 hm hT ht hq
  refine wp_region_held (S := fun w' => w'.cell? ⟨g, 4, none⟩ = some (.slice (some ⟨T, 0, none⟩) 11 11) ∧ w'.cell? ⟨T, m, none⟩ = some (ptr w.heap.size)) (by kernel_rfl) ?_
  refine wpAnyH_takeD 0 212 (v := ?_) rfl rfl (by kernel_rfl) (by kernel_rfl) (by kernel_rfl) (fun _ _ _ h => h) (Or.inl ⟨by rfl, ?_⟩) ⟨a4, b4⟩ ?_
  rotate_left
  · (intro w' hw'; (try dsimp only at hw'); go_simp; try with_reducible rfl)
  simp only [List.set_cons_zero, List.set_cons_succ]
  refine wpAnyH_takeD 1 213 (v := ?_) rfl rfl (by kernel_rfl) (by kernel_rfl) (by kernel_rfl) (fun _ _ _ h => h) (Or.inl ⟨by rfl, ?_⟩) ⟨a4, b4⟩ ?_
  rotate_left
  · (intro w' hw'; (try dsimp only at hw'); go_simp; try with_reducible rfl)
  simp only [List.set_cons_zero, List.set_cons_succ]
  refine wpAnyH_takeD 2 214 (v := ?_) rfl rfl (by kernel_rfl) (by kernel_rfl) (by kernel_rfl) (fun _ _ _ h => h) (Or.inl ⟨by rfl, ?_⟩) ⟨a4, b4⟩ ?_
  rotate_left
  · (intro w' hw'; (try dsimp only at hw'); go_simp; try with_reducible rfl)
  simp only [List.set_cons_zero, List.set_cons_succ]
  refine wpAnyH_takeD 3 215 (v := ?_) rfl rfl (by kernel_rfl) (by kernel_rfl) (by kernel_rfl) (fun _ _ _ h => h) (Or.inl ⟨by rfl, ?_⟩) ⟨a4, b4⟩ ?_
  rotate_left
  · (intro w' hw'; (try dsimp only at hw'); go_simp; try with_reducible rfl)
  simp only [List.set_cons_zero, List.set_cons_succ]
  refine wpAnyH_takeD 4 216 (v := ?_) rfl rfl (by kernel_rfl) (by kernel_rfl) (by kernel_rfl) (fun _ _ _ h => h) (Or.inl ⟨by rfl, ?_⟩) ⟨a4, b4⟩ ?_
  rotate_left
  · (intro w' hw'; (try dsimp only at hw'); go_simp; try with_reducible rfl)
  simp only [List.set_cons_zero, List.set_cons_succ]
  refine wpAnyH_takeD 5 217 (v := ?_) rfl rfl (by kernel_rfl) (by kernel_rfl) (by kernel_rfl) (fun _ _ _ h => h) (Or.inl ⟨by rfl, ?_⟩) ⟨a4, b4⟩ ?_
  rotate_left
  · (intro w' hw'; (try dsimp only at hw'); go_simp; try with_reducible rfl)
  simp only [List.set_cons_zero, List.set_cons_succ]
  refine wpAnyH_takeD 6 218 (v := ?_) rfl rfl (by kernel_rfl) (by kernel_rfl) (by kernel_rfl) (fun _ _ _ h => h) (Or.inl ⟨by rfl, ?_⟩) ⟨a4, b4⟩ ?_
  rotate_left
  · (intro w' hw'; (try dsimp only at hw'); go_simp; try with_reducible rfl)
  simp only [List.set_cons_zero, List.set_cons_succ]
  refine wpAnyH_takeD 7 219 (v := ?_) rfl rfl (by kernel_rfl) (by kernel_rfl) (by kernel_rfl) (fun _ _ _ h => h) (Or.inl ⟨by rfl, ?_⟩) ⟨a4, b4⟩ ?_
  rotate_left
  · (intro w' hw'; (try dsimp only at hw'); go_simp; try with_reducible rfl)
  simp only [List.set_cons_zero, List.set_cons_succ]
  refine wpAnyH_takeD 8 220 (v := ?_) rfl rfl (by kernel_rfl) (by kernel_rfl) (by kernel_rfl) (fun _ _ _ h => h) (Or.inl ⟨by rfl, ?_⟩) ⟨a4, b4⟩ ?_
  rotate_left
  · (intro w' hw'; (try dsimp only at hw'); go_simp; try with_reducible rfl)
  simp only [List.set_cons_zero, List.set_cons_succ]
  refine wpAnyH_takeD 9 221 (v := ?_) rfl rfl (by kernel_rfl) (by kernel_rfl) (by kernel_rfl) (fun _ _ _ h => h) (Or.inl ⟨by rfl, ?_⟩) ⟨a4, b4⟩ ?_
  rotate_left
  · (intro w' hw'; (try dsimp only at hw'); go_simp; try with_reducible rfl)
  simp only [List.set_cons_zero, List.set_cons_succ]
  refine wpAnyH_takeD 10 222 (v := ?_) rfl rfl (by kernel_rfl) (by kernel_rfl) (by kernel_rfl) (fun _ _ _ h => h) (Or.inl ⟨by rfl, ?_⟩) ⟨a4, b4⟩ ?_
  rotate_left
  · (intro w' hw'; (try dsimp only at hw'); go_simp; try with_reducible rfl)
  simp only [List.set_cons_zero, List.set_cons_succ]
  refine wpAnyH_takeD 11 223 (v := ?_) rfl rfl (by kernel_rfl) (by kernel_rfl) (by kernel_rfl) (fun _ _ _ h => h) (Or.inl ⟨by rfl, ?_⟩) ⟨a4, b4⟩ ?_
  rotate_left
  · (intro w' hw'; (try dsimp only at hw'); go_simp; try with_reducible rfl)
  simp only [List.set_cons_zero, List.set_cons_succ]
  refine wpAnyH_step 12 rfl (by kernel_rfl) (fun K' hK' => ?_)
  rw [if_pos (by rfl)]
  go_simp
  go_at_call 264
  refine (addP_any w.heap.size d k val pri (ptr gr) w1.drew hK1).mono ?_
  rintro e w2 ⟨rfl, N, h1, h2, h3, h4, s2⟩
  have Q1 : w2.cell? ⟨g, 4, none⟩ = some (.slice (some ⟨T, 0, none⟩) 11 11) ∧ w2.cell? ⟨T, m, none⟩ = some (ptr w.heap.size) := ⟨(cell_eq (s2.same g (lt_of_cell a4) (by omega))).trans a4, (cell_eq (s2.same T (lt_of_heap hT1) (by omega))).trans b4⟩
  go_wp2_with fail
  refine hK'.out _ _ Q1 ?_
  clear hK' K'
  refine wpAnyH_done (by kernel_rfl) ?_ _
  first | go_end0 | refine bodyPost_ret (results_none rfl _ _ _) rfl ?_
  exact ⟨rfl, w.heap.size, N, h1, h2, (s2.same T (lt_of_heap hT1) (by omega)).trans hT1, Nat.le_refl _, by have := hs1.bel.size; have : w1.drew.heap.size = w1.heap.size := rfl; omega, hs1.newer (a := w) (b := w1) (c := w2) (N := w.heap.size) (Stays.mk s2.same (show Below w.heap.size w1 w2 from (Below.refl _ _).drew.trans s2.bel)) (Nat.le_refl _) (by omega)⟩

set_option maxRecDepth 1000000 in
set_option maxHeartbeats 8000000 in
theorem addT_old (g gr T m K : Nat) (c d : UInt8) (k val : Bs) (pri : Int) (ts : Array Value) (w : World) (R : World → Prop) (g2 : w.cell? ⟨g, 2, none⟩ = some (str [])) (g4 : w.cell? ⟨g, 4, none⟩ = some (.slice (some ⟨T, 0, none⟩) 11 11))
    (hm : w.cell? ⟨gr, 6 + c.toNat, none⟩ = some (.int .u8 m)) (hm11 : m < 11) (hT : w.heap[T]? = some (.cells ts 323 (0, 0))) (ht : ts[m]? = some (ptr K))
    (C : ∀ n, Calls Tryz.prog 264 #[ptr K, str (d :: k), str val, .int .i64 pri, ptr gr] (w.drewN n) fun e w' => e = .returned (.tuple #[]) ∧ R w') (hR : ∀ w', R w' → w'.cell? ⟨g, 4, none⟩ = some (.slice (some ⟨T, 0, none⟩) 11 11) ∧ w'.cell? ⟨T, m, none⟩ = some (ptr K)) :
    Calls Tryz.prog 264 #[ptr g, str (c :: d :: k), str val, .int .i64 pri, ptr gr] w fun e w' => e = .returned (.tuple #[]) ∧ R w' := by
  have t0 := cellAt' (i := m) hT ht
  have hc : (c.toNat : Int) < 256 := by have := c.toNat_lt; omega
  have hm11' : (m : Int) < 11 := by omega
  have hk1 : (1 : Int) ≤ (k.length : Int) + 1 + 1 := by omega
  have hsl : Value.string ((⟨(c :: d :: k).toArray⟩ : ByteArray).extract 1 (k.length + 1 + 1)) = str (d :: k) := str_tail c (d :: k)
  have u := str_get (l := c :: d :: k) (k := 0) (c := c) rfl
  have C' := Lib.hid C
  have R' := Lib.hid hR
  clear C hR hT ht
  go_enter Tryz.func264, Tryz.ntmps264
  go_upto_region 28 with fail
  go_quiet (fail)
  go_upto_region 31 with fail
  refine wp_region_held (S := fun w' => w'.cell? ⟨g, 4, none⟩ = some (.slice (some ⟨T, 0, none⟩) 11 11) ∧ w'.cell? ⟨T, m, none⟩ = some (ptr K)) (by kernel_rfl) ?_
  refine wpAnyH_takeD 0 212 (v := ?_) rfl rfl (by kernel_rfl) (by kernel_rfl) (by kernel_rfl) (fun _ _ _ h => h) (Or.inl ⟨by rfl, ?_⟩) ⟨g4, t0⟩ ?_
  rotate_left
  · (intro w' hw'; (try dsimp only at hw'); go_simp; try with_reducible rfl)
  simp only [List.set_cons_zero, List.set_cons_succ]
  refine wpAnyH_takeD 1 213 (v := ?_) rfl rfl (by kernel_rfl) (by kernel_rfl) (by kernel_rfl) (fun _ _ _ h => h) (Or.inl ⟨by rfl, ?_⟩) ⟨g4, t0⟩ ?_
  rotate_left
  · (intro w' hw'; (try dsimp only at hw'); go_simp; try with_reducible rfl)
  simp only [List.set_cons_zero, List.set_cons_succ]
  refine wpAnyH_takeD 2 214 (v := ?_) rfl rfl (by kernel_rfl) (by kernel_rfl) (by kernel_rfl) (fun _ _ _ h => h) (Or.inl ⟨by rfl, ?_⟩) ⟨g4, t0⟩ ?_
  rotate_left
  · (intro w' hw'; (try dsimp only at hw'); go_simp; try with_reducible rfl)
  simp only [List.set_cons_zero, List.set_cons_succ]
  refine wpAnyH_takeD 3 215 (v := ?_) rfl rfl (by kernel_rfl) (by kernel_rfl) (by kernel_rfl) (fun _ _ _ h => h) (Or.inl ⟨by rfl, ?_⟩) ⟨g4, t0⟩ ?_
  rotate_left
  · (intro w' hw'; (try dsimp only at hw'); go_simp; try with_reducible rfl)
  simp only [List.set_cons_zero, List.set_cons_succ]
  refine wpAnyH_takeD 4 216 (v := ?_) rfl rfl (by kernel_rfl) (by kernel_rfl) (by kernel_rfl) (fun _ _ _ h => h) (Or.inl ⟨by rfl, ?_⟩) ⟨g4, t0⟩ ?_
  rotate_left
  · (intro w' hw'; (try dsimp only at hw'); go_simp; try with_reducible rfl)
  simp only [List.set_cons_zero, List.set_cons_succ]
  refine wpAnyH_takeD 5 217 (v := ?_) rfl rfl (by kernel_rfl) (by kernel_rfl) (by kernel_rfl) (fun _ _ _ h => h) (Or.inl ⟨by rfl, ?_⟩) ⟨g4, t0⟩ ?_
  rotate_left
  · (intro w' hw'; (try dsimp only at hw'); go_simp; try with_reducible rfl)
  simp only [List.set_cons_zero, List.set_cons_succ]
  refine wpAnyH_takeD 6 218 (v := ?_) rfl rfl (by kernel_rfl) (by kernel_rfl) (by kernel_rfl) (fun _ _ _ h => h) (Or.inl ⟨by rfl, ?_⟩) ⟨g4, t0⟩ ?_
  rotate_left
  · (intro w' hw'; (try dsimp only at hw'); go_simp; try with_reducible rfl)
  simp only [List.set_cons_zero, List.set_cons_succ]
  refine wpAnyH_takeD 7 219 (v := ?_) rfl rfl (by kernel_rfl) (by kernel_rfl) (by kernel_rfl) (fun _ _ _ h => h) (Or.inl ⟨by rfl, ?_⟩) ⟨g4, t0⟩ ?_
  rotate_left
  · (intro w' hw'; (try dsimp only at hw'); go_simp; try with_reducible rfl)
  simp only [List.set_cons_zero, List.set_cons_succ]
  refine wpAnyH_takeD 8 220 (v := ?_) rfl rfl (by kernel_rfl) (by kernel_rfl) (by kernel_rfl) (fun _ _ _ h => h) (Or.inl ⟨by rfl, ?_⟩) ⟨g4, t0⟩ ?_
  rotate_left
  · (intro w' hw'; (try dsimp only at hw'); go_simp; try with_reducible rfl)
  simp only [List.set_cons_zero, List.set_cons_succ]
  refine wpAnyH_takeD 9 221 (v := ?_) rfl rfl (by kernel_rfl) (by kernel_rfl) (by kernel_rfl) (fun _ _ _ h => h) (Or.inl ⟨by rfl, ?_⟩) ⟨g4, t0⟩ ?_
  rotate_left
  · (intro w' hw'; (try dsimp only at hw'); go_simp; try with_reducible rfl)
  simp only [List.set_cons_zero, List.set_cons_succ]
  refine wpAnyH_takeD 10 222 (v := ?_) rfl rfl (by kernel_rfl) (by kernel_rfl) (by kernel_rfl) (fun _ _ _ h => h) (Or.inl ⟨by rfl, ?_⟩) ⟨g4, t0⟩ ?_
  rotate_left
  · (intro w' hw'; (try dsimp only at hw'); go_simp; try with_reducible rfl)
  simp only [List.set_cons_zero, List.set_cons_succ]
  refine wpAnyH_takeD 11 223 (v := ?_) rfl rfl (by kernel_rfl) (by kernel_rfl) (by kernel_rfl) (fun _ _ _ h => h) (Or.inl ⟨by rfl, ?_⟩) ⟨g4, t0⟩ ?_
  rotate_left
  · (intro w' hw'; (try dsimp only at hw'); go_simp; try with_reducible rfl)
  simp only [List.set_cons_zero, List.set_cons_succ]
  refine wpAnyH_step 12 rfl (by kernel_rfl) (fun K' hK' => ?_)
  rw [if_pos (by rfl)]
  go_simp
  go_at_call 264
  refine (C'.out (nq + 1)).mono ?_
  rintro e w2 ⟨rfl, h1⟩
  have Q1 := R'.out _ h1
  go_wp2_with fail
  refine hK'.out _ _ Q1 ?_
  clear hK' K'
  refine wpAnyH_done (by kernel_rfl) ?_ _
  first | go_end0 | refine bodyPost_ret (results_none rfl _ _ _) rfl ?_
  exact ⟨rfl, h1⟩
end Go.Proofs.YteikncnldbdfmaaGreatDoor
/- strings.NewReplacer's trie: the four keys, one behind the other. -/
namespace Go.Proofs.YteikncnldbdfmaaGreatDoor
open Go.RowKit Go.Mh

abbrev nilS : Value := .slice none 0 0
abbrev nilP : Value := .pointer none
abbrev tab (T : Nat) : Value := .slice (some ⟨T, 0, none⟩) 11 11
/-- A node with one way on, and what lies there. -/
def Leaf (w : World) (B K : Nat) (k v : Bs) (p : Int) : Prop := ∃ N, NodeAt w K [] 0 k (ptr N) nilS ∧ NodeAt w N v p [] nilP nilS ∧ B ≤ K ∧ B ≤ N
def TabAt (w : World) (B T : Nat) (ts : Array Value) : Prop := w.heap[T]? = some (.cells ts 323 (0, 0)) ∧ B ≤ T
theorem node_ne_tab {w : World} {B g T : Nat} {v : Bs} {p : Int} {x : Bs} {n t : Value} {ts : Array Value} (h : NodeAt w g v p x n t) (k : TabAt w B T ts) : g ≠ T := fun e => by
  subst e
  have k1 := k.1
  unfold NodeAt at h
  rw [h] at k1
  simp at k1
theorem Leaf.keep {w w' : World} {B K : Nat} {k v : Bs} {p : Int} (h : Leaf w B K k v p) (hk : ∀ (g : Nat) (T : TypeId) (xs : Array Value), w.heap[g]? = some (Obj.cells xs T (0, 0)) → T = 326 → w'.heap[g]? = w.heap[g]?) : Leaf w' B K k v p := by
  obtain ⟨N, h1, h2, h3, h4⟩ := h
  exact ⟨N, (hk _ _ _ h1 rfl).trans h1, (hk _ _ _ h2 rfl).trans h2, h3, h4⟩
/-- What a table's growth leaves. -/
theorem stays_nodes {w w' : World} {B T : Nat} {ts : Array Value} (h : Stays T w w') (k : TabAt w B T ts) : ∀ (g : Nat) (T' : TypeId) (xs : Array Value), w.heap[g]? = some (Obj.cells xs T' (0, 0)) → T' = 326 → w'.heap[g]? = w.heap[g]? := fun g T' xs hg hT => by
  refine h.same g (lt_of_heap hg) fun e => ?_
  subst e
  rw [k.1] at hg
  simp at hg
  have := hg.2
  subst hT
  exact absurd this (by decide)
def ts1 (A : Nat) : Array Value := #[ptr A, nilP, nilP, nilP, nilP, nilP, nilP, nilP, nilP, nilP, nilP]
def ts2 (P K : Nat) (x y : Value) : Array Value := #[nilP, nilP, ptr P, x, ptr K, nilP, nilP, nilP, y, nilP, nilP]
/-- The trie behind so many keys. -/
def TrieAt (w : World) (B T0 : Nat) : Nat → Prop
  | 0 => TabAt w B T0 #[nilP, nilP, nilP, nilP, nilP, nilP, nilP, nilP, nilP, nilP, nilP]
  | 1 => ∃ A, TabAt w B T0 (ts1 A) ∧ Leaf w B A [97, 109, 112, 59] [38] 8
  | 2 => ∃ A T P K, TabAt w B T0 (ts1 A) ∧ NodeAt w A [] 0 [] nilP (tab T) ∧ B ≤ A ∧ TabAt w B T (ts2 P K nilP nilP) ∧ Leaf w B P [109, 112, 59] [38] 8 ∧ Leaf w B K [116, 59] [60] 6
  | 3 => ∃ A T P K G, TabAt w B T0 (ts1 A) ∧ NodeAt w A [] 0 [] nilP (tab T) ∧ B ≤ A ∧ TabAt w B T (ts2 P K (ptr G) nilP) ∧ Leaf w B P [109, 112, 59] [38] 8 ∧ Leaf w B K [116, 59] [60] 6 ∧ Leaf w B G [116, 59] [62] 4
  | _ => ∃ A T P K G Q, TabAt w B T0 (ts1 A) ∧ NodeAt w A [] 0 [] nilP (tab T) ∧ B ≤ A ∧ TabAt w B T (ts2 P K (ptr G) (ptr Q)) ∧ Leaf w B P [109, 112, 59] [38] 8 ∧ Leaf w B K [116, 59] [60] 6 ∧ Leaf w B G [116, 59] [62] 4 ∧ Leaf w B Q [117, 111, 116, 59] [34] 2
/-- The replacer's own cells, where the keys are added. -/
structure RootAt (w : World) (gr T0 : Nat) : Prop where
  p : w.cell? ⟨gr, 1, none⟩ = some (.int .i64 0)
  x : w.cell? ⟨gr, 2, none⟩ = some (str [])
  t : w.cell? ⟨gr, 4, none⟩ = some (tab T0)
  s : w.cell? ⟨gr, 5, none⟩ = some (.int .i64 11)
  amp : w.cell? ⟨gr, 6 + 38, none⟩ = some (.int .u8 (0 : Nat))
  a : w.cell? ⟨gr, 6 + 97, none⟩ = some (.int .u8 (2 : Nat))
  g : w.cell? ⟨gr, 6 + 103, none⟩ = some (.int .u8 (3 : Nat))
  l : w.cell? ⟨gr, 6 + 108, none⟩ = some (.int .u8 (4 : Nat))
  q : w.cell? ⟨gr, 6 + 113, none⟩ = some (.int .u8 (8 : Nat))
theorem RootAt.keep {w w' : World} {gr T0 : Nat} (h : RootAt w gr T0) (e : w'.heap[gr]? = w.heap[gr]?) : RootAt w' gr T0 :=
  ⟨(cell_eq e).trans h.p, (cell_eq e).trans h.x, (cell_eq e).trans h.t, (cell_eq e).trans h.s, (cell_eq e).trans h.amp, (cell_eq e).trans h.a, (cell_eq e).trans h.g, (cell_eq e).trans h.l, (cell_eq e).trans h.q⟩

/-- What an addition leaves: the replacer's own block, and all before B. -/
abbrev Kept (B gr : Nat) (w w' : World) : Prop := w'.heap[gr]? = w.heap[gr]? ∧ Below B w w'

theorem add0 {B gr T0 : Nat} {w : World} (hr : RootAt w gr T0) (hB : B ≤ w.heap.size) (h : TrieAt w B T0 0) (hgr : gr ≠ T0) :
    Calls Tryz.prog 264 #[ptr gr, str (38 :: 97 :: [109, 112, 59]), str [38], .int .i64 8, ptr gr] w fun e w' => e = .returned (.tuple #[]) ∧ TrieAt w' B T0 1 ∧ Kept B gr w w' := by
  refine (addT_new gr gr T0 0 38 97 [109, 112, 59] [38] 8 _ w hr.x hr.t hr.amp (by decide) h.1 rfl hgr).mono ?_
  rintro e w' ⟨rfl, K, N, h1, h2, h3, h4, h5, s⟩
  exact ⟨rfl, ⟨K, ⟨h3, h.2⟩, N, h1, h2, by omega, by omega⟩, s.same gr (lt_of_cell hr.x) hgr, s.bel.mono h.2⟩
theorem add1 {B gr T0 : Nat} {w : World} (hr : RootAt w gr T0) (hB : B ≤ w.heap.size) (h : TrieAt w B T0 1) (hgB : gr < B) :
    Calls Tryz.prog 264 #[ptr gr, str (38 :: 108 :: [116, 59]), str [60], .int .i64 6, ptr gr] w fun e w' => e = .returned (.tuple #[]) ∧ TrieAt w' B T0 2 ∧ Kept B gr w w' := by
  obtain ⟨A, hT, N, hA, hN, bA, bN⟩ := h
  refine (addT_old gr gr T0 0 A 38 108 [116, 59] [60] 6 (ts1 A) w (fun w' => TrieAt w' B T0 2 ∧ Kept B gr w w' ∧ w'.heap[T0]? = w.heap[T0]?) hr.x hr.t hr.amp (by decide) hT.1 rfl (fun n => ?_) (fun w' h' => ⟨(cell_eq h'.2.1.1).trans hr.t, (cell_eq h'.2.2).trans (cellAt' (i := 0) hT.1 rfl)⟩)).mono (fun e w' h' => ⟨h'.1, h'.2.1, h'.2.2.1⟩)
  have hAT : A ≠ T0 := node_ne_tab hA hT
  have hAN : A ≠ N := fun e => by subst e; unfold NodeAt at hA hN; rw [hA] at hN; simp at hN
  refine (addS_any A gr N [60] 6 (w.drewN n) hA hr.s hr.a hr.l (by omega)).mono ?_
  rintro e w' ⟨rfl, T, P, K, M, h1, h2, h3, h4, h5, b1, b2, b3, b4, s⟩
  have s' : Stays A w w' := ⟨s.same, ((bdrewN (brf w) n).mono (Nat.le_of_lt (lt_of_heap hA))).trans s.bel⟩
  have hT0 := s'.same T0 (lt_of_heap hT.1) (Ne.symm hAT)
  have hN' := (s'.same N (lt_of_heap hN) (Ne.symm hAN)).trans hN
  exact ⟨rfl, ⟨A, T, P, K, ⟨hT0.trans hT.1, hT.2⟩, h1, bA, ⟨h5, Nat.le_trans hB b1⟩, ⟨N, h2, hN', Nat.le_trans hB b2, bN⟩, ⟨M, h3, h4, Nat.le_trans hB b3, Nat.le_trans hB b4⟩⟩, ⟨s'.same gr (lt_of_cell hr.x) (by omega), s'.bel.mono bA⟩, hT0⟩
theorem add2 {B gr T0 : Nat} {w : World} (hr : RootAt w gr T0) (hB : B ≤ w.heap.size) (h : TrieAt w B T0 2) (hgB : gr < B) :
    Calls Tryz.prog 264 #[ptr gr, str (38 :: 103 :: [116, 59]), str [62], .int .i64 4, ptr gr] w fun e w' => e = .returned (.tuple #[]) ∧ TrieAt w' B T0 3 ∧ Kept B gr w w' := by
  obtain ⟨A, T, P, K, hT0, hA, bA, hT, lP, lK⟩ := h
  have hAT := node_ne_tab hA hT
  have hTT : T0 ≠ T := fun e => by
    subst e
    have k1 := hT0.1
    rw [hT.1] at k1
    simp [ts1, ts2] at k1
  refine (addT_old gr gr T0 0 A 38 103 [116, 59] [62] 4 (ts1 A) w (fun w' => TrieAt w' B T0 3 ∧ Kept B gr w w' ∧ w'.heap[T0]? = w.heap[T0]?) hr.x hr.t hr.amp (by decide) hT0.1 rfl (fun n => ?_) (fun w' h' => ⟨(cell_eq h'.2.1.1).trans hr.t, (cell_eq h'.2.2).trans (cellAt' (i := 0) hT0.1 rfl)⟩)).mono (fun e w' h' => ⟨h'.1, h'.2.1, h'.2.2.1⟩)
  refine (addT_new A gr T 3 103 116 [59] [62] 4 (ts2 P K nilP nilP) (w.drewN n) (cellAt' (i := 2) hA rfl) (cellAt' (i := 4) hA rfl) hr.g (by decide) hT.1 rfl hAT).mono ?_
  rintro e w' ⟨rfl, G, N, h1, h2, h3, h4, h5, s⟩
  have s' : Stays T w w' := ⟨s.same, ((bdrewN (brf w) n).mono (Nat.le_of_lt (lt_of_heap hT.1))).trans s.bel⟩
  have hs := stays_nodes s' hT
  have e0 := s'.same T0 (lt_of_heap hT0.1) hTT
  exact ⟨rfl, ⟨A, T, P, K, G, ⟨e0.trans hT0.1, hT0.2⟩, (hs _ _ _ hA rfl).trans hA, bA, ⟨h3, hT.2⟩, lP.keep hs, lK.keep hs, ⟨N, h1, h2, Nat.le_trans hB h4, Nat.le_trans hB h5⟩⟩, ⟨s'.same gr (lt_of_cell hr.x) (by have := hT.2; omega), s'.bel.mono hT.2⟩, e0⟩
theorem add3 {B gr T0 : Nat} {w : World} (hr : RootAt w gr T0) (hB : B ≤ w.heap.size) (h : TrieAt w B T0 3) (hgB : gr < B) :
    Calls Tryz.prog 264 #[ptr gr, str (38 :: 113 :: [117, 111, 116, 59]), str [34], .int .i64 2, ptr gr] w fun e w' => e = .returned (.tuple #[]) ∧ TrieAt w' B T0 4 ∧ Kept B gr w w' := by
  obtain ⟨A, T, P, K, G, hT0, hA, bA, hT, lP, lK, lG⟩ := h
  have hAT := node_ne_tab hA hT
  have hTT : T0 ≠ T := fun e => by
    subst e
    have k1 := hT0.1
    rw [hT.1] at k1
    simp [ts1, ts2] at k1
  refine (addT_old gr gr T0 0 A 38 113 [117, 111, 116, 59] [34] 2 (ts1 A) w (fun w' => TrieAt w' B T0 4 ∧ Kept B gr w w' ∧ w'.heap[T0]? = w.heap[T0]?) hr.x hr.t hr.amp (by decide) hT0.1 rfl (fun n => ?_) (fun w' h' => ⟨(cell_eq h'.2.1.1).trans hr.t, (cell_eq h'.2.2).trans (cellAt' (i := 0) hT0.1 rfl)⟩)).mono (fun e w' h' => ⟨h'.1, h'.2.1, h'.2.2.1⟩)
  refine (addT_new A gr T 8 113 117 [111, 116, 59] [34] 2 (ts2 P K (ptr G) nilP) (w.drewN n) (cellAt' (i := 2) hA rfl) (cellAt' (i := 4) hA rfl) hr.q (by decide) hT.1 rfl hAT).mono ?_
  rintro e w' ⟨rfl, Q, N, h1, h2, h3, h4, h5, s⟩
  have s' : Stays T w w' := ⟨s.same, ((bdrewN (brf w) n).mono (Nat.le_of_lt (lt_of_heap hT.1))).trans s.bel⟩
  have hs := stays_nodes s' hT
  have e0 := s'.same T0 (lt_of_heap hT0.1) hTT
  exact ⟨rfl, ⟨A, T, P, K, G, Q, ⟨e0.trans hT0.1, hT0.2⟩, (hs _ _ _ hA rfl).trans hA, bA, ⟨h3, hT.2⟩, lP.keep hs, lK.keep hs, lG.keep hs, ⟨N, h1, h2, Nat.le_trans hB h4, Nat.le_trans hB h5⟩⟩, ⟨s'.same gr (lt_of_cell hr.x) (by have := hT.2; omega), s'.bel.mono hT.2⟩, e0⟩
end Go.Proofs.YteikncnldbdfmaaGreatDoor
/- strings.NewReplacer's generic replacer, of the four ways to write a character. -/
namespace Go.Mh
open Go.RowKit
/-- The replacer's block: its root's table, the size of a table, the bytes' numbers. -/
def gcells (t : Value) (ts : Int) (f : Nat → Nat) : Array Value := #[str [], .int .i64 0, str [], .pointer none, t, .int .i64 ts] ++ (Array.range 256).map fun c => .int .u8 (f c)
theorem gcells_size (t : Value) (ts : Int) (f : Nat → Nat) : (gcells t ts f).size = 262 := by simp [gcells]
theorem gcells_at (t : Value) (ts : Int) (f : Nat → Nat) {c : Nat} (hc : c < 256) : (gcells t ts f)[6 + c]? = some (.int .u8 (f c)) := by
  unfold gcells
  rw [Array.getElem?_append_right (by simp)]
  simp [hc]
theorem gcells_lo (t : Value) (ts : Int) (f : Nat → Nat) {i : Nat} (hi : i < 6) : (gcells t ts f)[i]? = #[str [], .int .i64 0, str [], .pointer none, t, .int .i64 ts][i]? := by
  unfold gcells
  rw [Array.getElem?_append_left (by simpa using hi)]
theorem gcells_set (t : Value) (ts : Int) (f : Nat → Nat) {c : Nat} (hc : c < 256) (v : Nat) : (gcells t ts f).set! (6 + c) (.int .u8 v) = gcells t ts (fun k => if k = c then v else f k) := by
  apply Array.ext_getElem?
  intro i
  rw [Array.set!_eq_setIfInBounds, Array.getElem?_setIfInBounds]
  by_cases hi : i < 6
  · rw [if_neg (by omega), gcells_lo _ _ _ hi, gcells_lo _ _ _ hi]
  · obtain ⟨j, rfl⟩ : ∃ j, i = 6 + j := ⟨i - 6, by omega⟩
    by_cases hj : j < 256
    · rw [gcells_at _ _ _ hj, gcells_at _ _ _ hj]
      by_cases he : j = c
      · subst he; simp [gcells_size]; omega
      · rw [if_neg (by omega), if_neg he]
    · have h1 : (gcells t ts f)[6 + j]? = none := Array.getElem?_eq_none (by rw [gcells_size]; omega)
      have h2 : (gcells t ts (fun k => if k = c then v else f k))[6 + j]? = none := Array.getElem?_eq_none (by rw [gcells_size]; omega)
      rw [if_neg (by omega), h1, h2]
theorem gcells_ts (t : Value) (ts ts' : Int) (f : Nat → Nat) : (gcells t ts f).set! 5 (.int .i64 ts') = gcells t ts' f := by
  unfold gcells
  rw [Array.set!_eq_setIfInBounds, Array.setIfInBounds_append_left (by simp)]
  rfl
theorem gcells_t (t t' : Value) (ts : Int) (f : Nat → Nat) : (gcells t ts f).set! 4 t' = gcells t' ts f := by
  unfold gcells
  rw [Array.set!_eq_setIfInBounds, Array.setIfInBounds_append_left (by simp)]
  rfl
/-- The bytes seen. -/
def mkF (l : Bs) : Nat → Nat := fun c => if l.any (fun x => x.toNat == c) = true then 1 else 0
theorem mkF_snoc (l : Bs) (c : UInt8) : (fun k => if k = c.toNat then 1 else mkF l k) = mkF (l ++ [c]) := by
  funext k
  unfold mkF
  rw [List.any_append]
  by_cases h : k = c.toNat
  · subst h; simp
  · rw [if_neg h]
    have : (c.toNat == k) = false := by simpa using fun e => h e.symm
    simp [this]
def mcells (f : Nat → Nat) : List Value := (List.range 256).map fun c => .int .u8 (f c)
def sumF (f : Nat → Nat) : Nat → Nat
  | 0 => 0
  | k + 1 => sumF f k + f k
theorem sumF_le {f : Nat → Nat} (hf : ∀ c, f c ≤ 1) : ∀ k, sumF f k ≤ k
  | 0 => Nat.le_refl _
  | k + 1 => by have := sumF_le hf k; have := hf k; simp only [sumF]; omega
theorem sumF_mono (f : Nat → Nat) {j k : Nat} (h : j ≤ k) : sumF f j ≤ sumF f k := by
  induction k with
  | zero => obtain rfl : j = 0 := by omega
            exact Nat.le_refl _
  | succ k ih =>
    by_cases e : j = k + 1
    · subst e; exact Nat.le_refl _
    · have := ih (by omega); simp only [sumF]; omega
theorem mkF_le (l : Bs) (c : Nat) : mkF l c ≤ 1 := by unfold mkF; split <;> omega
/-- The numbers, up to a byte. -/
def numF (f : Nat → Nat) (k : Nat) : Nat → Nat := fun c => if c < k then (if f c = 0 then 11 else sumF f c) else f c
theorem numF_zero (f : Nat → Nat) : numF f 0 = f := by funext c; simp [numF]
theorem numF_step (f : Nat → Nat) (k : Nat) : (fun c => if c = k then (if f k = 0 then 11 else sumF f k) else numF f k c) = numF f (k + 1) := by
  funext c
  unfold numF
  by_cases h : c = k
  · subst h; simp
  · rw [if_neg h]
    by_cases h2 : c < k
    · have h3 : c < k + 1 := by omega
      simp [h2, h3]
    · have h3 : ¬ c < k + 1 := by omega
      simp [h2, h3]
def keysR : List Bs := [eAmp, eLt, eGt, eQuot]
def valsR : List Bs := [[38], [60], [62], [34]]
theorem take_flat {q : Nat} {K : Bs} (h : keysR[q]? = some K) : (keysR.take (q + 1)).flatten = (keysR.take q).flatten ++ K := by
  rw [List.take_add_one, h]; simp
def numK : Nat → Nat := numF (mkF (keysR.take 4).flatten) 256
theorem num38 : numF (mkF (keysR.take 4).flatten) 256 38 = 0 ∧ numF (mkF (keysR.take 4).flatten) 256 97 = 2 ∧ numF (mkF (keysR.take 4).flatten) 256 103 = 3 ∧ numF (mkF (keysR.take 4).flatten) 256 108 = 4 ∧ numF (mkF (keysR.take 4).flatten) 256 113 = 8 := by decide +kernel
theorem sum11 : sumF (mkF (keysR.take 4).flatten) 256 = 11 := by decide +kernel
end Go.Mh
namespace Go.Proofs.YteikncnldbdfmaaGreatDoor
open Go.RowKit Go.Mh

theorem zeroGen : Tryz.zeroCells328 = gcells (.slice none 0 0) 0 (mkF []) := by kernel_rfl

/-- The pairs, as NewReplacer was told them. -/
def Pairs (w : World) (b : Nat) : Prop := ∀ q K V, keysR[q]? = some K → valsR[q]? = some V → w.cell? ⟨b, 2 * q, none⟩ = some (str K) ∧ w.cell? ⟨b, 2 * q + 1, none⟩ = some (str V)
theorem Pairs.of {w w' : World} {b : Nat} (h : Pairs w b) (e : w'.heap[b]? = w.heap[b]?) : Pairs w' b := fun q K V h1 h2 => ⟨(cell_eq e).trans (h q K V h1 h2).1, (cell_eq e).trans (h q K V h1 h2).2⟩
/-- The replacer's block. -/
def GenAt (w : World) (gr : Nat) (t : Value) (ts : Int) (f : Nat → Nat) : Prop := w.heap[gr]? = some (.cells (gcells t ts f) 328 (0, 0))
theorem GenAt.set {w : World} {gr : Nat} {t : Value} {ts : Int} {f : Nat → Nat} (h : GenAt w gr t ts f) {c : Nat} (hc : c < 256) (v : Nat) : GenAt (w.setCell ⟨gr, 6 + c, none⟩ (.int .u8 v)) gr t ts (fun k => if k = c then v else f k) := by
  have := heap_set (i := 6 + c) (.int .u8 v) h
  rw [gcells_set _ _ _ hc] at this
  exact this
theorem GenAt.cell {w : World} {gr : Nat} {t : Value} {ts : Int} {f : Nat → Nat} (h : GenAt w gr t ts f) {c : Nat} (hc : c < 256) : w.cell? ⟨gr, 6 + c, none⟩ = some (.int .u8 (f c)) := cellAt' h (gcells_at _ _ _ hc)
theorem GenAt.lo {w : World} {gr : Nat} {t : Value} {ts : Int} {f : Nat → Nat} (h : GenAt w gr t ts f) {i : Nat} {v : Value} (hi : i < 6) (e : #[str [], .int .i64 0, str [], .pointer none, t, .int .i64 ts][i]? = some v) : w.cell? ⟨gr, i, none⟩ = some v := cellAt' h ((gcells_lo _ _ _ hi).trans e)

theorem GenAt.range {w : World} {gr : Nat} {t : Value} {ts : Int} {f : Nat → Nat} (h : GenAt w gr t ts f) : w.rangeAt gr 6 (mcells f) := fun j v hj => by
  unfold mcells at hj
  rw [List.getElem?_map] at hj
  by_cases hl : j < 256
  · rw [List.getElem?_range hl] at hj
    simp at hj
    rw [← hj]
    exact h.cell hl
  · rw [List.getElem?_eq_none (by simpa using hl)] at hj
    simp at hj
theorem idxM (f : Nat → Nat) (k : Nat) (hk : k < 256) (w : World) : (Instr.index 190 (.agg (mcells f).toArray) (.int .i64 k)).run Tryz.prog w = .ok (.int .u8 (f k)) w := by
  have h1 : (mcells f)[k]? = some (.int .u8 (f k)) := by
    unfold mcells; simp [hk]
  have h2 : ((k : Nat) : Int) < 256 := by omega
  simp [Instr.index, run_underlying Tryz.underlying190, asIntOf, go_sem, hk]
  rw [h1]
  rfl

theorem GenAt.root {w : World} {gr T0 : Nat} (h : GenAt w gr (tab T0) 11 numK) : RootAt w gr T0 := by
  obtain ⟨n1, n2, n3, n4, n5⟩ := num38
  exact ⟨h.lo (i := 1) (by decide) rfl, h.lo (i := 2) (by decide) rfl, h.lo (i := 4) (by decide) rfl, h.lo (i := 5) (by decide) rfl,
    (h.cell (c := 38) (by decide)).trans (by unfold numK; rw [n1]), (h.cell (c := 97) (by decide)).trans (by unfold numK; rw [n2]), (h.cell (c := 103) (by decide)).trans (by unfold numK; rw [n3]), (h.cell (c := 108) (by decide)).trans (by unfold numK; rw [n4]), (h.cell (c := 113) (by decide)).trans (by unfold numK; rw [n5])⟩
theorem addQ_any {B gr T0 q : Nat} {w : World} {K V : Bs} (hr : RootAt w gr T0) (hB : B ≤ w.heap.size) (h : TrieAt w B T0 q) (hgB : gr < B) (hgr : gr ≠ T0) (hK : keysR[q]? = some K) (hV : valsR[q]? = some V) :
    Calls Tryz.prog 264 #[ptr gr, str K, str V, .int .i64 (8 - (2 * q : Nat) : Int), ptr gr] w fun e w' => e = .returned (.tuple #[]) ∧ TrieAt w' B T0 (q + 1) ∧ Kept B gr w w' := by
  match q, h, hK, hV with
  | 0, h, hK, hV => cases hK; cases hV; exact add0 hr hB h hgr
  | 1, h, hK, hV => cases hK; cases hV; exact add1 hr hB h hgB
  | 2, h, hK, hV => cases hK; cases hV; exact add2 hr hB h hgB
  | 3, h, hK, hV => cases hK; cases hV; exact add3 hr hB h hgB
  | n + 4, h, hK, hV => simp [keysR] at hK

set_option maxRecDepth 1000000 in
set_option maxHeartbeats 8000000 in
theorem makeGen_any (b cap : Nat) (w : World) (hb : b < w.heap.size) (hp : Pairs w b) :
    Calls Tryz.prog 253 #[.slice (some ⟨b, 0, none⟩) 8 cap] w fun e w' => ∃ gr T0, e = .returned (ptr gr) ∧ w.heap.size ≤ gr ∧ GenAt w' gr (tab T0) 11 numK ∧ TrieAt w' (gr + 1) T0 4 ∧ Below w.heap.size w w' := by
  have hP := Lib.hid hp
  clear hp
  go_enter Tryz.func253, Tryz.ntmps253
  go_wp2
  go_loopw [4] (fun iv wr => ∃ q n : Nat, q ≤ 4 ∧ Hid (n = 2 * q) ∧ iv = .int .i64 n ∧ GenAt wr w.heap.size (.slice none 0 0) 0 (mkF (keysR.take q).flatten) ∧ Below w.heap.size w wr) (fun iv _ => 8 - (intOf iv).toNat)
  case atStart => exact ⟨0, 0, Nat.zero_le _, Lib.hid rfl, rfl, by rw [zeroGen]; exact heap_new _ _, bal (brf w) _⟩
  case round =>
    obtain ⟨q, n, hq, hn, rfl, hg, hbl⟩ := hrel
    by_cases hq4 : q < 4
    · obtain ⟨K, hK⟩ : ∃ K, keysR[q]? = some K := ⟨_, List.getElem?_eq_getElem (by simpa [keysR] using hq4)⟩
      obtain ⟨V, hV⟩ : ∃ V, valsR[q]? = some V := ⟨_, List.getElem?_eq_getElem (by simpa [valsR] using hq4)⟩
      have hk := ((hP.out.of (hbl.block b hb)) q K V hK hV).1
      rw [← hn.out] at hk
      have hnx := Lib.hid (take_flat hK)
      have hKl : K.length ≤ 6 := by
        have : ∀ x ∈ keysR, x.length ≤ 6 := by decide
        exact this K (List.mem_of_getElem? hK)
      have i1 : (n : Int) < 8 := by have := hn.out; omega
      have hG := Lib.hid hg
      clear hg hK hV
      obtain ⟨seen, hseen⟩ : ∃ s, (keysR.take q).flatten = s := ⟨_, rfl⟩
      rw [hseen] at hG hnx
      clear hseen
      go_wp2
      obtain ⟨wo, rfl⟩ : ∃ wo, wo = wr := ⟨_, rfl⟩
      go_loopw [6] (fun jv wx => ∃ j : Nat, j ≤ K.length ∧ jv = .int .i64 j ∧ GenAt wx w.heap.size (.slice none 0 0) 0 (mkF (seen ++ K.take j)) ∧ Below w.heap.size w wx) (fun jv _ => K.length - (intOf jv).toNat)
      case atStart => exact ⟨0, Nat.zero_le _, rfl, by simpa using hG.out, hbl⟩
      case round =>
        obtain ⟨j, hj, rfl, hg, hbx⟩ := hrel
        by_cases hjl : j < K.length
        · obtain ⟨c, hc⟩ : ∃ c, K[j]? = some c := ⟨_, List.getElem?_eq_getElem hjl⟩
          have hget := str_get hc (by exact hjl)
          have hc256 : c.toNat < 256 := c.toNat_lt
          have hci : (c.toNat : Int) < 256 := by omega
          have hx := hg.cell hc256
          have hz := fzAt' (i := 6 + c.toNat) hg
          have hg2 := Lib.hid (hg.set hc256 1)
          have hsn := Lib.hid (show (fun k => if k = c.toNat then 1 else mkF (seen ++ K.take j) k) = mkF (seen ++ K.take (j + 1)) by
            rw [mkF_snoc, List.append_assoc, List.take_add_one, hc]; rfl)
          have hbx2 := Lib.hid (hbx.setCell (p := ⟨w.heap.size, 6 + c.toNat, none⟩) (Nat.le_refl _) (.int .u8 (1 : Nat)))
          clear hc hg
          go_upto_region 9 with fail
          refine wp_region_held (S := fun _ => True) (by kernel_rfl) ?_
          refine wpAnyH_takeD 0 30 (v := ?_) rfl rfl (by kernel_rfl) (by kernel_rfl) (by kernel_rfl) (fun _ _ _ h => h) (Or.inl ⟨by rfl, ?_⟩) trivial ?_
          rotate_left
          · (intro w' hw'; (try dsimp only at hw'); go_simp; try with_reducible rfl)
          simp only [List.set_cons_zero, List.set_cons_succ]
          refine wpAnyH_takeD 1 31 (v := ?_) rfl rfl (by kernel_rfl) (by kernel_rfl) (by kernel_rfl) (fun _ _ _ h => h) (Or.inl ⟨by rfl, ?_⟩) trivial ?_
          rotate_left
          · (intro w' hw'; (try dsimp only at hw'); go_simp; try with_reducible rfl)
          simp only [List.set_cons_zero, List.set_cons_succ]
          refine wpAnyH_takeD 2 32 (v := ?_) rfl rfl (by kernel_rfl) (by kernel_rfl) (by kernel_rfl) (fun _ _ _ h => h) (Or.inl ⟨by rfl, ?_⟩) trivial ?_
          rotate_left
          · (intro w' hw'; (try dsimp only at hw'); go_simp; try with_reducible rfl)
          simp only [List.set_cons_zero, List.set_cons_succ]
          refine wpAnyH_takeD 3 33 (v := ?_) rfl rfl (by kernel_rfl) (by kernel_rfl) (by kernel_rfl) (fun _ _ _ h => h) (Or.inl ⟨by rfl, ?_⟩) trivial ?_
          rotate_left
          · (intro w' hw'; (try dsimp only at hw'); go_simp; try with_reducible rfl)
          simp only [List.set_cons_zero, List.set_cons_succ]
          refine wpAnyH_takeD 4 34 (v := ?_) rfl rfl (by kernel_rfl) (by kernel_rfl) (by kernel_rfl) (fun _ _ _ h => h) (Or.inl ⟨by rfl, ?_⟩) trivial ?_
          rotate_left
          · (intro w' hw'; (try dsimp only at hw'); go_simp; try with_reducible rfl)
          simp only [List.set_cons_zero, List.set_cons_succ]
          refine wpAnyH_takeD 5 35 (v := ?_) rfl rfl (by kernel_rfl) (by kernel_rfl) (by kernel_rfl) (fun _ _ _ h => h) (Or.inl ⟨by rfl, ?_⟩) trivial ?_
          rotate_left
          · (intro w' hw'; (try dsimp only at hw'); go_simp; try with_reducible rfl)
          simp only [List.set_cons_zero, List.set_cons_succ]
          refine wpAnyH_takeD 6 36 (v := ?_) rfl rfl (by kernel_rfl) (by kernel_rfl) (by kernel_rfl) (fun _ _ _ h => h) (Or.inl ⟨by rfl, ?_⟩) trivial ?_
          rotate_left
          · (intro w' hw'; (try dsimp only at hw'); go_simp; try with_reducible rfl)
          simp only [List.set_cons_zero, List.set_cons_succ]
          refine wpAnyH_step 7 rfl (by kernel_rfl) (fun K' hK' => ?_)
          rw [if_pos (by rfl)]
          go_simp
          refine hK'.out _ _ trivial ?_
          clear hK' K'
          refine wpAnyH_done (by kernel_rfl) ?_ _
          go_wp2
          go_roundw
          case rel => exact ⟨j + 1, by omega, by go_num, by rw [← hsn.out]; exact hg2.out, hbx2.out.drew⟩
          case measure => simp [intOf]; omega
        · obtain rfl : j = K.length := by omega
          rw [List.take_length, ← hnx.out] at hg
          go_wp2
          go_roundw
          case rel => exact ⟨q + 1, n + 2, by omega, Lib.hid (by have := hn.out; omega), by go_num, hg, hbx⟩
          case measure => simp [intOf]; omega
    · obtain rfl : q = 4 := by omega
      obtain rfl : n = 8 := hn.out
      obtain ⟨f, hf⟩ : ∃ f, mkF (keysR.take 4).flatten = f := ⟨_, rfl⟩
      have hF := Lib.hid hf
      have hf1 := fun c => (by rw [← hf]; exact mkF_le _ c : f c ≤ 1)
      rw [hf] at hg
      clear hf
      have hR := hg.range
      obtain ⟨MA, hMA⟩ : ∃ MA, (mcells f).toArray = MA := ⟨_, rfl⟩
      have hI := fun (k : Nat) (hk : k < 256) (w' : World) => (by rw [← hMA]; exact idxM f k hk w' : (Instr.index 190 (.agg MA) (.int .i64 k)).run Tryz.prog w' = .ok (.int .u8 (f k)) w')
      go_wp2_with (refine wpList_load_mid rfl 190 (.tmp 39) rfl w.heap.size 6 rfl (mcells f) _ hR Tryz.underlying190 rfl (by kernel_rfl) ?_; rw [hMA])
      have hMAh := Lib.hid hMA
      clear hR hMA
      have hE := Lib.hid hI
      clear hI
      obtain ⟨wo, rfl⟩ : ∃ wo, wo = wr := ⟨_, rfl⟩
      go_loopw [41] (fun kv wx => ∃ k : Nat, k ≤ 256 ∧ kv = .int .i64 k ∧ GenAt wx w.heap.size (.slice none 0 0) (sumF f k : Nat) f ∧ Below w.heap.size w wx) (fun kv _ => 256 - (intOf kv).toNat)
      case atStart => exact ⟨0, Nat.zero_le _, rfl, hg, hbl⟩
      case round =>
        clear hg hbl
        obtain ⟨k, hk, rfl, hg, hbl⟩ := hrel
        by_cases hk2 : k < 256
        · have hi := hE.out k hk2
          have hk3 : (k : Int) < 256 := by omega
          have hc := hg.lo (i := 5) (v := .int .i64 (sumF f k : Nat)) (by decide) rfl
          have hz := fzAt' (i := 5) hg
          have hs := sumF_le hf1 k
          have hfk := hf1 k
          have hw1 : IntKind.i64.wrap (f k : Int) = (f k : Int) := IntWalk.i64_in _ (by omega)
          have hw2 : IntKind.i64.wrap ((sumF f k : Nat) + (f k : Int)) = ((sumF f (k + 1) : Nat) : Int) := by rw [IntWalk.i64_in _ (by omega)]; simp [sumF]
          have hg2 : Hid (GenAt (wr.setCell ⟨w.heap.size, 5, none⟩ (.int .i64 (sumF f (k + 1) : Nat))) w.heap.size (.slice none 0 0) (sumF f (k + 1) : Nat) f) := Lib.hid (by
            have := heap_set (i := 5) (.int .i64 (sumF f (k + 1) : Nat)) hg
            rw [gcells_ts] at this
            exact this)
          have hb2 := Lib.hid (hbl.setCell (p := ⟨w.heap.size, 5, none⟩) (Nat.le_refl _) (.int .i64 (sumF f (k + 1) : Nat)))
          clear hg
          go_wp2
          go_roundw
          case rel => exact ⟨k + 1, by omega, by go_num, hg2.out, hb2.out⟩
          case measure => simp [intOf]; omega
        · obtain rfl : k = 256 := by omega
          have h11 : sumF f 256 = 11 := by rw [← hF.out]; exact sum11
          rw [h11] at hg
          have hR := hg.range
          have hMA' := hMAh.out
          go_wp2_with (refine wpList_load_mid rfl 190 (.tmp 56) rfl w.heap.size 6 rfl (mcells f) _ hR Tryz.underlying190 rfl (by kernel_rfl) ?_; rw [hMA'])
          clear hR hMA'
          obtain ⟨wo2, rfl⟩ : ∃ wo, wo = wr := ⟨_, rfl⟩
          go_loopw [9, 58] (fun nv kv wx => ∃ k : Nat, k ≤ 256 ∧ nv = .int .u8 (sumF f k : Nat) ∧ kv = .int .i64 k ∧ GenAt wx w.heap.size (.slice none 0 0) 11 (numF f k) ∧ Below w.heap.size w wx) (fun _ kv _ => 256 - (intOf kv).toNat)
          case atStart => exact ⟨0, Nat.zero_le _, rfl, rfl, by rw [numF_zero]; exact hg, hbl⟩
          case round =>
            clear hg hbl
            obtain ⟨k, hk, rfl, rfl, hg, hbl⟩ := hrel
            by_cases hk2 : k < 256
            · have hi := hE.out k hk2
              have hk3 : (k : Int) < 256 := by omega
              have hc5 := hg.lo (i := 5) (v := .int .i64 11) (by decide) rfl
              have hc := hg.cell hk2
              have hz := fzAt' (i := 6 + k) hg
              have hs := sumF_le hf1 k
              have h255 : sumF f (k + 1) ≤ 11 := by rw [← h11]; exact sumF_mono f (by omega)
              have hst := numF_step f k
              by_cases hfk : f k = 0
              · have hfk' : ((f k : Int) == 0) = true := by simp [hfk]
                rw [if_pos hfk] at hst
                have hg2 := Lib.hid (hg.set hk2 11)
                rw [hst] at hg2
                have hb2 := Lib.hid (hbl.setCell (p := ⟨w.heap.size, 6 + k, none⟩) (Nat.le_refl _) (.int .u8 (11 : Nat)))
                have hsm : Hid (sumF f (k + 1) = sumF f k) := Lib.hid (by simp [sumF, hfk])
                clear hg hst hfk
                go_upto_region 20 with fail
                refine wp_region_held (S := fun w' => w'.cell? ⟨w.heap.size, 5, none⟩ = some (.int .i64 11)) (by kernel_rfl) ?_
                refine wpAnyH_takeD 0 64 (v := ?_) rfl rfl (by kernel_rfl) (by kernel_rfl) (by kernel_rfl) (fun _ _ _ h => h) (Or.inl ⟨by rfl, ?_⟩) hc5 ?_
                rotate_left
                · (intro w' hw'; (try dsimp only at hw'); go_simp; try with_reducible rfl)
                simp only [List.set_cons_zero, List.set_cons_succ]
                refine wpAnyH_takeD 1 65 (v := ?_) rfl rfl (by kernel_rfl) (by kernel_rfl) (by kernel_rfl) (fun _ _ _ h => h) (Or.inl ⟨by rfl, ?_⟩) hc5 ?_
                rotate_left
                · (intro w' hw'; (try dsimp only at hw'); go_simp; try with_reducible rfl)
                simp only [List.set_cons_zero, List.set_cons_succ]
                refine wpAnyH_takeD 2 66 (v := ?_) rfl rfl (by kernel_rfl) (by kernel_rfl) (by kernel_rfl) (fun _ _ _ h => h) (Or.inl ⟨by rfl, ?_⟩) hc5 ?_
                rotate_left
                · (intro w' hw'; (try dsimp only at hw'); go_simp; try with_reducible rfl)
                simp only [List.set_cons_zero, List.set_cons_succ]
                refine wpAnyH_takeD 3 67 (v := ?_) rfl rfl (by kernel_rfl) (by kernel_rfl) (by kernel_rfl) (fun _ _ _ h => h) (Or.inl ⟨by rfl, ?_⟩) hc5 ?_
                rotate_left
                · (intro w' hw'; (try dsimp only at hw'); go_simp; try with_reducible rfl)
                simp only [List.set_cons_zero, List.set_cons_succ]
                refine wpAnyH_takeD 4 68 (v := ?_) rfl rfl (by kernel_rfl) (by kernel_rfl) (by kernel_rfl) (fun _ _ _ h => h) (Or.inl ⟨by rfl, ?_⟩) hc5 ?_
                rotate_left
                · (intro w' hw'; (try dsimp only at hw'); go_simp; try with_reducible rfl)
                simp only [List.set_cons_zero, List.set_cons_succ]
                refine wpAnyH_takeD 5 69 (v := ?_) rfl rfl (by kernel_rfl) (by kernel_rfl) (by kernel_rfl) (fun _ _ _ h => h) (Or.inl ⟨by rfl, ?_⟩) hc5 ?_
                rotate_left
                · (intro w' hw'; (try dsimp only at hw'); go_simp; try with_reducible rfl)
                simp only [List.set_cons_zero, List.set_cons_succ]
                refine wpAnyH_takeD 6 70 (v := ?_) rfl rfl (by kernel_rfl) (by kernel_rfl) (by kernel_rfl) (fun _ _ _ h => h) (Or.inl ⟨by rfl, ?_⟩) hc5 ?_
                rotate_left
                · (intro w' hw'; (try dsimp only at hw'); go_simp; try with_reducible rfl)
                simp only [List.set_cons_zero, List.set_cons_succ]
                refine wpAnyH_takeD 7 71 (v := ?_) rfl rfl (by kernel_rfl) (by kernel_rfl) (by kernel_rfl) (fun _ _ _ h => h) (Or.inl ⟨by rfl, ?_⟩) hc5 ?_
                rotate_left
                · (intro w' hw'; (try dsimp only at hw'); go_simp; try with_reducible rfl)
                simp only [List.set_cons_zero, List.set_cons_succ]
                refine wpAnyH_takeD 8 72 (v := ?_) rfl rfl (by kernel_rfl) (by kernel_rfl) (by kernel_rfl) (fun _ _ _ h => h) (Or.inl ⟨by rfl, ?_⟩) hc5 ?_
                rotate_left
                · (intro w' hw'; (try dsimp only at hw'); go_simp; try with_reducible rfl)
                simp only [List.set_cons_zero, List.set_cons_succ]
                refine wpAnyH_takeD 9 73 (v := ?_) rfl rfl (by kernel_rfl) (by kernel_rfl) (by kernel_rfl) (fun _ _ _ h => h) (Or.inl ⟨by rfl, ?_⟩) hc5 ?_
                rotate_left
                · (intro w' hw'; (try dsimp only at hw'); go_simp; try with_reducible rfl)
                simp only [List.set_cons_zero, List.set_cons_succ]
                refine wpAnyH_step 10 rfl (by kernel_rfl) (fun K' hK' => ?_)
                rw [if_pos (by rfl)]
                go_simp
                refine hK'.out _ _ ((hg2.out.lo (i := 5) (v := .int .i64 11) (by decide) rfl)) ?_
                clear hK' K'
                refine wpAnyH_done (by kernel_rfl) ?_ _
                go_wp2
                go_roundw
                case rel => exact ⟨k + 1, by omega, by rw [hsm.out], by go_num, hg2.out, hb2.out.drew⟩
                case measure => simp [intOf]; omega
              · have hfk1 : f k = 1 := by have := hf1 k; omega
                have hfk' : ((f k : Int) == 0) = false := by simp [hfk1]
                rw [if_neg hfk] at hst
                have hg2 := Lib.hid (hg.set hk2 (sumF f k))
                rw [hst] at hg2
                have hb2 := Lib.hid (hbl.setCell (p := ⟨w.heap.size, 6 + k, none⟩) (Nat.le_refl _) (.int .u8 (sumF f k : Nat)))
                have hw1 : IntKind.u8.wrap ((sumF f k : Nat) + 1) = ((sumF f (k + 1) : Nat) : Int) := by
                  have e : sumF f (k + 1) = sumF f k + 1 := by simp [sumF, hfk1]
                  rw [e] at h255 ⊢
                  unfold IntKind.wrap; simp [IntKind.bits, IntKind.signed]; omega
                clear hg hst hfk hfk1
                go_wp2
                go_roundw
                case rel => exact ⟨k + 1, by omega, rfl, by go_num, hg2.out, hb2.out⟩
                case measure => simp [intOf]; omega
            · have hnk : ¬ (k : Int) < 256 := by omega
              have hk6 : k = 256 := by omega
              rw [hk6, ← hF.out] at hg
              clear hk6 hk hk2
              replace hg : GenAt wr w.heap.size (.slice none 0 0) 11 numK := hg
              have hc5 := hg.lo (i := 5) (v := .int .i64 11) (by decide) rfl
              have hgl := lt_of_heap hg
              have h4a : ∀ o, (wr.alloc o).cell? ⟨w.heap.size, 4, none⟩ = some (.slice none 0 0) := fun o => by rw [World.cell?_alloc_past _ _ _ hgl]; exact hg.lo (i := 4) (by decide) rfl
              have z4a : ∀ o, (wr.alloc o).frozen? ⟨w.heap.size, 4, none⟩ = false := fun o => by rw [World.frozen?_alloc_past _ _ _ hgl]; exact fzAt' hg
              have hmk := mk11
              have hG := Lib.hid hg
              clear h11 hE hF hMAh hg
              go_upto_region 26 with fail
              refine name_world ?_
              intro w5 hw5
              have hb5 : Below w.heap.size w w5 := by
                rw [← hw5]
                exact bal (hbl.setCell (p := ⟨w.heap.size, 4, none⟩) (Nat.le_refl _) _) _
              have hg5 : GenAt w5 w.heap.size (tab wr.heap.size) 11 numK := by
                rw [← hw5]
                refine ((bal (brf _) _).block w.heap.size (by simpa using hgl)).trans ?_
                have := heap_set (i := 4) (tab wr.heap.size) hG.out
                rw [gcells_t] at this
                exact this
              have ht5 : TrieAt w5 (w.heap.size + 1) wr.heap.size 0 := by
                rw [← hw5]
                exact ⟨heap_at (by simp), hgl⟩
              have hgT : w.heap.size ≠ wr.heap.size := by omega
              generalize wr.heap.size = T0 at hg5 ht5 hgT ⊢
              clear hw5 hc5 hgl h4a z4a hmk hG hbl
              obtain ⟨wo3, rfl⟩ : ∃ wo, wo = w5 := ⟨_, rfl⟩
              go_loopw [12] (fun iv wx => ∃ q n : Nat, q ≤ 4 ∧ Hid (n = 2 * q) ∧ iv = .int .i64 n ∧ GenAt wx w.heap.size (tab T0) 11 numK ∧ TrieAt wx (w.heap.size + 1) T0 q ∧ Below w.heap.size w wx) (fun iv _ => 8 - (intOf iv).toNat)
              case atStart => exact ⟨0, 0, Nat.zero_le _, Lib.hid rfl, rfl, hg5, ht5, hb5⟩
              case round =>
                clear hg5 ht5 hb5
                obtain ⟨q, n, hq, hn, rfl, hg, ht, hbl⟩ := hrel
                by_cases hq4 : q < 4
                · obtain ⟨K, hK⟩ : ∃ K, keysR[q]? = some K := ⟨_, List.getElem?_eq_getElem (by simpa [keysR] using hq4)⟩
                  obtain ⟨V, hV⟩ : ∃ V, valsR[q]? = some V := ⟨_, List.getElem?_eq_getElem (by simpa [valsR] using hq4)⟩
                  obtain ⟨hk, hv⟩ := (hP.out.of (hbl.block b hb)) q K V hK hV
                  rw [← hn.out] at hk hv
                  have i1 : (n : Int) < 8 := by have := hn.out; omega
                  have i2 : (n : Int) + 1 < 8 := by have := hn.out; omega
                  have i3 : (0 : Int) ≤ (n : Int) + 1 := by omega
                  have hw1 : IntKind.i64.wrap ((n : Int) + 1) = (n : Int) + 1 := IntWalk.i64_in _ (by omega)
                  have hw3 : IntKind.i64.wrap (8 - (n : Int)) = 8 - (n : Int) := IntWalk.i64_in _ (by omega)
                  have hbs := hbl.size
                  have hgl := lt_of_heap hg
                  have C := Lib.hid (addQ_any (B := w.heap.size + 1) (w := wr.drew) (hg.root.keep rfl) (by show w.heap.size + 1 ≤ wr.heap.size; omega) ht (by omega) hgT hK hV)
                  rw [← hn.out] at C
                  have hG := Lib.hid hg
                  clear hK hV hg ht
                  go_upto_region 28 with fail
                  refine wp_region_held (S := fun w' => w'.cell? ⟨b, n, none⟩ = some (str K) ∧ w'.cell? ⟨b, n + 1, none⟩ = some (str V)) (by kernel_rfl) ?_
                  refine wpAnyH_takeD 0 98 (v := ?_) rfl rfl (by kernel_rfl) (by kernel_rfl) (by kernel_rfl) (fun _ _ _ h => h) (Or.inl ⟨by rfl, ?_⟩) ⟨hk, hv⟩ ?_
                  rotate_left
                  · (intro w' hw'; (try dsimp only at hw'); go_simp; try with_reducible rfl)
                  simp only [List.set_cons_zero, List.set_cons_succ]
                  refine wpAnyH_takeD 1 99 (v := ?_) rfl rfl (by kernel_rfl) (by kernel_rfl) (by kernel_rfl) (fun _ _ _ h => h) (Or.inl ⟨by rfl, ?_⟩) ⟨hk, hv⟩ ?_
                  rotate_left
                  · (intro w' hw'; (try dsimp only at hw'); go_simp; try with_reducible rfl)
                  simp only [List.set_cons_zero, List.set_cons_succ]
                  refine wpAnyH_takeD 2 100 (v := ?_) rfl rfl (by kernel_rfl) (by kernel_rfl) (by kernel_rfl) (fun _ _ _ h => h) (Or.inl ⟨by rfl, ?_⟩) ⟨hk, hv⟩ ?_
                  rotate_left
                  · (intro w' hw'; (try dsimp only at hw'); go_simp; try with_reducible rfl)
                  simp only [List.set_cons_zero, List.set_cons_succ]
                  refine wpAnyH_takeD 3 101 (v := ?_) rfl rfl (by kernel_rfl) (by kernel_rfl) (by kernel_rfl) (fun _ _ _ h => h) (Or.inl ⟨by rfl, ?_⟩) ⟨hk, hv⟩ ?_
                  rotate_left
                  · (intro w' hw'; (try dsimp only at hw'); go_simp; try with_reducible rfl)
                  simp only [List.set_cons_zero, List.set_cons_succ]
                  refine wpAnyH_takeD 4 102 (v := ?_) rfl rfl (by kernel_rfl) (by kernel_rfl) (by kernel_rfl) (fun _ _ _ h => h) (Or.inl ⟨by rfl, ?_⟩) ⟨hk, hv⟩ ?_
                  rotate_left
                  · (intro w' hw'; (try dsimp only at hw'); go_simp; try with_reducible rfl)
                  simp only [List.set_cons_zero, List.set_cons_succ]
                  refine wpAnyH_takeD 5 103 (v := ?_) rfl rfl (by kernel_rfl) (by kernel_rfl) (by kernel_rfl) (fun _ _ _ h => h) (Or.inl ⟨by rfl, ?_⟩) ⟨hk, hv⟩ ?_
                  rotate_left
                  · (intro w' hw'; (try dsimp only at hw'); go_simp; try with_reducible rfl)
                  simp only [List.set_cons_zero, List.set_cons_succ]
                  refine wpAnyH_takeD 6 104 (v := ?_) rfl rfl (by kernel_rfl) (by kernel_rfl) (by kernel_rfl) (fun _ _ _ h => h) (Or.inl ⟨by rfl, ?_⟩) ⟨hk, hv⟩ ?_
                  rotate_left
                  · (intro w' hw'; (try dsimp only at hw'); go_simp; try with_reducible rfl)
                  simp only [List.set_cons_zero, List.set_cons_succ]
                  refine wpAnyH_takeD 7 105 (v := ?_) rfl rfl (by kernel_rfl) (by kernel_rfl) (by kernel_rfl) (fun _ _ _ h => h) (Or.inl ⟨by rfl, ?_⟩) ⟨hk, hv⟩ ?_
                  rotate_left
                  · (intro w' hw'; (try dsimp only at hw'); go_simp; try with_reducible rfl)
                  simp only [List.set_cons_zero, List.set_cons_succ]
                  refine wpAnyH_takeD 8 106 (v := ?_) rfl rfl (by kernel_rfl) (by kernel_rfl) (by kernel_rfl) (fun _ _ _ h => h) (Or.inl ⟨by rfl, ?_⟩) ⟨hk, hv⟩ ?_
                  rotate_left
                  · (intro w' hw'; (try dsimp only at hw'); go_simp; try with_reducible rfl)
                  simp only [List.set_cons_zero, List.set_cons_succ]
                  refine wpAnyH_takeD 9 107 (v := ?_) rfl rfl (by kernel_rfl) (by kernel_rfl) (by kernel_rfl) (fun _ _ _ h => h) (Or.inl ⟨by rfl, ?_⟩) ⟨hk, hv⟩ ?_
                  rotate_left
                  · (intro w' hw'; (try dsimp only at hw'); go_simp; try with_reducible rfl)
                  simp only [List.set_cons_zero, List.set_cons_succ]
                  refine wpAnyH_takeD 10 108 (v := ?_) rfl rfl (by kernel_rfl) (by kernel_rfl) (by kernel_rfl) (fun _ _ _ h => h) (Or.inl ⟨by rfl, ?_⟩) ⟨hk, hv⟩ ?_
                  rotate_left
                  · (intro w' hw'; (try dsimp only at hw'); go_simp; try with_reducible rfl)
                  simp only [List.set_cons_zero, List.set_cons_succ]
                  refine wpAnyH_takeD 11 109 (v := ?_) rfl rfl (by kernel_rfl) (by kernel_rfl) (by kernel_rfl) (fun _ _ _ h => h) (Or.inl ⟨by rfl, ?_⟩) ⟨hk, hv⟩ ?_
                  rotate_left
                  · (intro w' hw'; (try dsimp only at hw'); go_simp; try with_reducible rfl)
                  simp only [List.set_cons_zero, List.set_cons_succ]
                  refine wpAnyH_takeD 12 110 (v := ?_) rfl rfl (by kernel_rfl) (by kernel_rfl) (by kernel_rfl) (fun _ _ _ h => h) (Or.inl ⟨by rfl, ?_⟩) ⟨hk, hv⟩ ?_
                  rotate_left
                  · (intro w' hw'; (try dsimp only at hw'); go_simp; try with_reducible rfl)
                  simp only [List.set_cons_zero, List.set_cons_succ]
                  refine wpAnyH_takeD 13 111 (v := ?_) rfl rfl (by kernel_rfl) (by kernel_rfl) (by kernel_rfl) (fun _ _ _ h => h) (Or.inl ⟨by rfl, ?_⟩) ⟨hk, hv⟩ ?_
                  rotate_left
                  · (intro w' hw'; (try dsimp only at hw'); go_simp; try with_reducible rfl)
                  simp only [List.set_cons_zero, List.set_cons_succ]
                  refine wpAnyH_takeD 14 112 (v := ?_) rfl rfl (by kernel_rfl) (by kernel_rfl) (by kernel_rfl) (fun _ _ _ h => h) (Or.inl ⟨by rfl, ?_⟩) ⟨hk, hv⟩ ?_
                  rotate_left
                  · (intro w' hw'; (try dsimp only at hw'); go_simp; try with_reducible rfl)
                  simp only [List.set_cons_zero, List.set_cons_succ]
                  refine wpAnyH_takeD 15 113 (v := ?_) rfl rfl (by kernel_rfl) (by kernel_rfl) (by kernel_rfl) (fun _ _ _ h => h) (Or.inl ⟨by rfl, ?_⟩) ⟨hk, hv⟩ ?_
                  rotate_left
                  · (intro w' hw'; (try dsimp only at hw'); go_simp; try with_reducible rfl)
                  simp only [List.set_cons_zero, List.set_cons_succ]
                  refine wpAnyH_takeD 16 114 (v := ?_) rfl rfl (by kernel_rfl) (by kernel_rfl) (by kernel_rfl) (fun _ _ _ h => h) (Or.inl ⟨by rfl, ?_⟩) ⟨hk, hv⟩ ?_
                  rotate_left
                  · (intro w' hw'; (try dsimp only at hw'); go_simp; try with_reducible rfl)
                  simp only [List.set_cons_zero, List.set_cons_succ]
                  refine wpAnyH_step 17 rfl (by kernel_rfl) (fun K' hK' => ?_)
                  rw [if_pos (by rfl)]
                  go_simp
                  go_at_call 264
                  refine C.out.mono ?_
                  rintro e w6 ⟨rfl, ht6, hk6, hb6⟩
                  have Q6 : w6.cell? ⟨b, n, none⟩ = some (str K) ∧ w6.cell? ⟨b, n + 1, none⟩ = some (str V) := ⟨(cell_eq (hb6.block b (by omega))).trans hk, (cell_eq (hb6.block b (by omega))).trans hv⟩
                  go_wp2_with fail
                  refine hK'.out _ _ Q6 ?_
                  clear hK' K'
                  refine wpAnyH_done (by kernel_rfl) ?_ _
                  go_wp2
                  go_roundw
                  case rel => exact ⟨q + 1, n + 2, by omega, Lib.hid (by have := hn.out; omega), by go_num, hk6.trans hG.out, ht6, hbl.trans ((Below.refl _ _).drew.trans (hb6.mono (Nat.le_succ _)))⟩
                  case measure => simp [intOf]; omega
                · obtain rfl : q = 4 := by omega
                  obtain rfl : n = 8 := hn.out
                  have hG := Lib.hid hg
                  have hT := Lib.hid ht
                  clear hg ht
                  go_wp2
                  go_ret
                  exact ⟨w.heap.size, rfl, Nat.le_refl _, T0, hG.out, hT.out, hbl⟩
end Go.Proofs.YteikncnldbdfmaaGreatDoor
/- strings.NewReplacer of the four ways to write a character, and its building, once. -/
namespace Go.Proofs.YteikncnldbdfmaaGreatDoor
open Go.RowKit Go.Mh

/-- The replacer as built. -/
structure Built (w : World) (gr : Nat) : Prop where
  ex : ∃ T0, GenAt w gr (tab T0) 11 numK ∧ TrieAt w (gr + 1) T0 4
theorem TrieAt.keep4 {w w' : World} {B T0 : Nat} (h : TrieAt w B T0 4) (hk : ∀ g ob, B ≤ g → w.heap[g]? = some ob → w'.heap[g]? = some ob) : TrieAt w' B T0 4 := by
  obtain ⟨A, T, P, K, G, Q, hT0, hA, bA, hT, ⟨N1, a1, b1, c1, d1⟩, ⟨N2, a2, b2, c2, d2⟩, ⟨N3, a3, b3, c3, d3⟩, ⟨N4, a4, b4, c4, d4⟩⟩ := h
  exact ⟨A, T, P, K, G, Q, ⟨hk _ _ hT0.2 hT0.1, hT0.2⟩, hk _ _ bA hA, bA, ⟨hk _ _ hT.2 hT.1, hT.2⟩, ⟨N1, hk _ _ c1 a1, hk _ _ d1 b1, c1, d1⟩, ⟨N2, hk _ _ c2 a2, hk _ _ d2 b2, c2, d2⟩, ⟨N3, hk _ _ c3 a3, hk _ _ d3 b3, c3, d3⟩, ⟨N4, hk _ _ c4 a4, hk _ _ d4 b4, c4, d4⟩⟩
theorem Built.keep {w w' : World} {gr : Nat} (h : Built w gr) (hk : ∀ g ob, gr ≤ g → w.heap[g]? = some ob → w'.heap[g]? = some ob) : Built w' gr := by
  obtain ⟨T0, h1, h2⟩ := h.ex
  exact ⟨T0, hk _ _ (Nat.le_refl _) h1, h2.keep4 fun g _ hg => hk g _ (by omega)⟩
theorem Built.lt {w : World} {gr : Nat} (h : Built w gr) : gr < w.heap.size := by obtain ⟨T0, h1, _⟩ := h.ex; exact lt_of_heap h1
theorem Built.below {w w' : World} {gr : Nat} (h : Built w gr) (hb : Below w.heap.size w w') : Built w' gr := h.keep fun g _ _ hg => (hb.block g (lt_of_heap hg)).trans hg
theorem Built.set {w : World} {gr b i : Nat} {v : Value} (h : Built w gr) (hb : b < gr) : Built (w.setCell ⟨b, i, none⟩ v) gr := h.keep fun g _ hg e => (heap_setCell_other w _ g v (by show g ≠ b; omega)).trans e

set_option maxRecDepth 1000000 in
set_option maxHeartbeats 4000000 in
theorem replBuild_any (rb b cap : Nat) (w : World) (hs : w.cell? ⟨rb, 4, none⟩ = some (.slice (some ⟨b, 0, none⟩) 8 cap)) (hb : b < w.heap.size) (hp : Pairs w b) :
    Calls Tryz.prog 237 #[ptr rb] w fun e w' => ∃ gr, e = .returned (.iface 303 (ptr gr)) ∧ w.heap.size ≤ gr ∧ Built w' gr ∧ Below w.heap.size w w' := by
  have hk0 := (hp 0 eAmp [38] rfl rfl).1
  have C := Lib.hid (makeGen_any b cap w hb hp)
  clear hp
  go_enter Tryz.func237, Tryz.ntmps237
  go_upto_region 6 with fail
  refine wp_loop_rounds 2 ?_
  rw [rounds_succ]
  go_wp2_with fail
  refine C.out.mono ?_
  rintro e w1 ⟨gr, T0, rfl, hg, h1, h2, hb1⟩
  go_wp2
  go_ret
  exact ⟨gr, rfl, hg, ⟨T0, h1, h2⟩, hb1⟩

abbrev ifaceR (gr : Nat) : Value := .iface 303 (ptr gr)
def ReplAt (w : World) (rb : Nat) (d : Int) (s : Int) (r o : Value) : Prop := w.heap[rb]? = some (.cells #[.int .u32 d, .int .i32 s, .int .u32 0, r, o] 263 (0, 0))

set_option maxRecDepth 1000000 in
set_option maxHeartbeats 4000000 in
theorem replOnce_any (rb b cap : Nat) (d s : Int) (w : World) (h : ReplAt w rb d s .nilIface (.slice (some ⟨b, 0, none⟩) 8 cap)) (hb : b < w.heap.size) (hp : Pairs w b) :
    Calls Tryz.prog 217 #[ptr rb] w fun e w' => e = .returned (.tuple #[]) ∧ ∃ gr, ReplAt w' rb d s (ifaceR gr) (.slice none 0 0) ∧ rb < gr ∧ Built w' gr ∧ Stays rb w w' := by
  have hlt := lt_of_heap h
  have C := Lib.hid (replBuild_any rb b cap w (cellAt' (i := 4) h rfl) hb hp)
  have H := Lib.hid h
  clear h hp
  go_enter Tryz.func217, Tryz.ntmps217
  go_wp2_with fail
  refine C.out.mono ?_
  rintro e w1 ⟨gr, rfl, hg, hB, hb1⟩
  have h1 := (hb1.block rb hlt).trans H.out
  have c3 := cellAt' (i := 3) (v := .nilIface) h1 rfl
  have c4 := cellAt' (i := 4) (v := .slice (some ⟨b, 0, none⟩) 8 cap) h1 rfl
  have z3 := fzAt' (i := 3) h1
  have z4 := fzAt' (i := 4) h1
  go_wp2
  go_end0
  refine ⟨rfl, gr, ?_, by omega, (hB.set (by omega)).set (by omega), (Stays.of hb1 (Nat.le_of_lt hlt)).trans (Stays.set.trans Stays.set)⟩
  have k1 := heap_set (i := 3) (ifaceR gr) h1
  have k2 := heap_set (i := 4) (.slice none 0 0) k1
  exact k2

theorem onceLoad (a : Addr) (x : Int) (w : World) (h : w.cell? a = some (.int .u32 x)) :
    Calls Tryz.prog 235 #[.pointer (some a)] w fun e w' => e = .returned (.bool (x != 0)) ∧ w' = w := by
  have hl := run_call_load (P := Tryz.prog) Tryz.func248 (by kernel_rfl) (by kernel_rfl) (by kernel_rfl) .u32 (by kernel_rfl) h
  go_enter Tryz.func235, Tryz.ntmps235
  go_wp2
  go_ret
  exact ⟨rfl, rfl⟩

set_option maxRecDepth 1000000 in
set_option maxHeartbeats 4000000 in
theorem replSlow_any (rb b cap : Nat) (w : World) (h : ReplAt w rb 0 0 .nilIface (.slice (some ⟨b, 0, none⟩) 8 cap)) (hb : b < w.heap.size) (hp : Pairs w b) (hrb : b ≠ rb) :
    Calls Tryz.prog 236 #[ptr rb, .func (.func 217) #[ptr rb] #[]] w fun e w' => e = .returned (.tuple #[]) ∧ ∃ gr, ReplAt w' rb 1 0 (ifaceR gr) (.slice none 0 0) ∧ rb < gr ∧ Built w' gr ∧ Stays rb w w' := by
  have hlt := lt_of_heap h
  have c0 := cellAt' (i := 0) (v := .int .u32 0) h rfl
  have c1 := cellAt' (i := 1) (v := .int .i32 0) h rfl
  have z0 := fzAt' (i := 0) h
  have z1 := fzAt' (i := 1) h
  have k1 : ReplAt (w.setCell ⟨rb, 1, none⟩ (.int .i32 1)) rb 0 1 .nilIface (.slice (some ⟨b, 0, none⟩) 8 cap) := heap_set (i := 1) (.int .i32 1) h
  have L := Lib.hid (onceLoad ⟨rb, 0, none⟩ 0 _ (cellAt' (i := 0) k1 rfl))
  have C := Lib.hid (replOnce_any rb b cap 0 1 _ k1 (by simpa using hb) (hp.of (heap_setCell_other w _ b _ hrb)))
  have hnot : ∀ (x : Bool) (w : World), (Op.unary .not (.bool x)).run Tryz.prog w = .ok (.bool (!x)) w := fun _ _ => rfl
  clear h k1 hp
  go_enter_defers Tryz.func236, Tryz.ntmps236
  go_wp2_with fail
  refine (onceLock ⟨rb, 1, none⟩ _ c1 z1).mono ?_
  rintro e w1 ⟨rfl, rfl⟩
  go_wp2_with fail
  refine L.out.mono ?_
  rintro e w2 ⟨rfl, rfl⟩
  go_wp2_with fail
  refine C.out.mono ?_
  rintro e w3 ⟨rfl, gr, h3, hg, hB, st⟩
  go_wp2
  refine leaves_cons (f := 251) (args := #[.pointer (some ⟨rb, 0, none⟩), .bool true]) (by simp) (by simp [go_sem]) ?_
  refine (onceStore ⟨rb, 0, none⟩ (.int .u32 0) .returning _ (cellAt' (i := 0) h3 rfl) (fzAt' h3)).mono ?_
  rintro e u' w4 ⟨rfl, rfl, rfl⟩
  have h4 : ReplAt (w3.drew.setCell ⟨rb, 0, none⟩ (.int .u32 1)) rb 1 1 (ifaceR gr) (.slice none 0 0) := heap_set (i := 0) (.int .u32 1) h3
  refine leaves_cons (f := 250) (args := #[.pointer (some ⟨rb, 1, none⟩)]) (by simp [settle]) (by simp [go_sem]) ?_
  refine (onceUnlock ⟨rb, 1, none⟩ _ _ (cellAt' (i := 1) h4 rfl) (fzAt' h4)).mono ?_
  rintro e u' w5 ⟨rfl, rfl, rfl⟩
  have h5 : ReplAt ((w3.drew.setCell ⟨rb, 0, none⟩ (.int .u32 1)).setCell ⟨rb, 1, none⟩ (.int .i32 0)) rb 1 0 (ifaceR gr) (.slice none 0 0) := heap_set (i := 1) (.int .i32 0) h4
  simp [Leaves, settle, results, Tryz.results236]
  exact ⟨gr, h5, hg, ((hB.below (Below.refl _ _).drew).set hg).set hg, (((Stays.set).trans st).trans (Stays.of ((Below.refl _ _).drew) (Nat.le_of_lt (lt_of_heap h3)))).trans (Stays.set.trans Stays.set)⟩

set_option maxRecDepth 1000000 in
set_option maxHeartbeats 4000000 in
theorem replDo_any (rb b cap : Nat) (w : World) (h : ReplAt w rb 0 0 .nilIface (.slice (some ⟨b, 0, none⟩) 8 cap)) (hb : b < w.heap.size) (hp : Pairs w b) (hrb : b ≠ rb) :
    Calls Tryz.prog 216 #[ptr rb, .func (.func 217) #[ptr rb] #[]] w fun e w' => e = .returned (.tuple #[]) ∧ ∃ gr, ReplAt w' rb 1 0 (ifaceR gr) (.slice none 0 0) ∧ rb < gr ∧ Built w' gr ∧ Stays rb w w' := by
  have L := Lib.hid (onceLoad ⟨rb, 0, none⟩ 0 w (cellAt' (i := 0) h rfl))
  have C := Lib.hid (replSlow_any rb b cap w h hb hp hrb)
  have hnot : ∀ (x : Bool) (w : World), (Op.unary .not (.bool x)).run Tryz.prog w = .ok (.bool (!x)) w := fun _ _ => rfl
  clear h hp
  go_enter Tryz.func216, Tryz.ntmps216
  go_wp2_with fail
  refine L.out.mono ?_
  rintro e w2 ⟨rfl, rfl⟩
  go_wp2_with fail
  refine C.out.mono ?_
  rintro e w3 ⟨rfl, hr⟩
  go_wp2
  go_end0
  exact ⟨rfl, hr⟩
end Go.Proofs.YteikncnldbdfmaaGreatDoor
/- strings.NewReplacer: what it is told is copied. -/
namespace Go.Mh
open Go.RowKit
def RS (_ : World) (cs : List Value) (x : Bs) : Prop := cs = [str x]
def strs8 : List Bs := [eAmp, [38], eLt, [60], eGt, [62], eQuot, [34]]
theorem RS_one : ∀ (w : World) (cs : List Value) (x : Bs), RS w cs x → ∀ u ∈ cs, u.oneCell' = true := by
  rintro w _ x rfl u hu
  simp at hu
  subst hu
  rfl
theorem rs_lit {w : World} {g T : Nat} (h : w.heap[g]? = some (.cells (strs8.map str).toArray T (0, 0))) : RdS 1 RS (· = g) w (.slice (some ⟨g, 0, none⟩) 8 8) strs8 := by
  refine ⟨_, _, rfl, by decide, by decide, fun h => by simp at h, fun i x hx => ⟨g, 0, [str x], rfl, rfl, rfl, fun j u hj => ?_, rfl⟩⟩
  match j, hj with
  | 0, hj =>
    simp at hj
    subst hj
    refine cellAt' h ?_
    rw [show 0 + i * 1 + 0 = i by omega]
    simp [hx]
end Go.Mh
namespace Go.Proofs.YteikncnldbdfmaaGreatDoor
open Go.RowKit Go.Mh

theorem elStrs : El Tryz.prog 128 9 1 16 (.string ⟨#[]⟩) := ⟨Tryz.underlying128, by kernel_rfl, rfl, by decide⟩
theorem pairs_of {F : Nat → Prop} {w : World} {g cap : Nat} (h : RdS 1 RS F w (.slice (some ⟨g, 0, none⟩) 8 cap) strs8) : Pairs w g := by
  obtain ⟨a, c, e, _, _, _, hel⟩ := h
  cases e
  have key : ∀ (i : Nat) (x : Bs), strs8[i]? = some x → w.cell? ⟨g, i, none⟩ = some (str x) := fun i x hx => by
    obtain ⟨b, o, cs, e1, _, _, hat, hr⟩ := hel i x hx
    cases e1
    have hr' : cs = [str x] := hr
    subst hr'
    have := hat 0 (str x) rfl
    rw [show 0 + i * 1 + 0 = i by omega] at this
    exact this
  intro q K V hK hV
  match q, hK, hV with
  | 0, hK, hV => cases hK; cases hV; exact ⟨key 0 _ rfl, key 1 _ rfl⟩
  | 1, hK, hV => cases hK; cases hV; exact ⟨key 2 _ rfl, key 3 _ rfl⟩
  | 2, hK, hV => cases hK; cases hV; exact ⟨key 4 _ rfl, key 5 _ rfl⟩
  | 3, hK, hV => cases hK; cases hV; exact ⟨key 6 _ rfl, key 7 _ rfl⟩
  | n + 4, hK, hV => simp [keysR] at hK

set_option maxRecDepth 1000000 in
set_option maxHeartbeats 4000000 in
theorem newRepl_any (F : Nat → Prop) (v : Value) (w : World) (h : RdS 1 RS F w v strs8) :
    Calls Tryz.prog 187 #[v] w fun e w' => ∃ rb b cap, e = .returned (ptr rb) ∧ ReplAt w' rb 0 0 .nilIface (.slice (some ⟨b, 0, none⟩) 8 cap) ∧ Pairs w' b ∧ b ≠ rb ∧ w.heap.size ≤ rb ∧ Below w.heap.size w w' := by
  obtain ⟨a, cap, rfl, hn⟩ := RdS.len h
  have H := Lib.hid h
  clear h
  have hl8 : strs8.length = 8 := rfl
  rw [hl8] at H ⊢
  go_enter Tryz.func187, Tryz.ntmps187
  go_wp2_with (at_builtin; refine wpList_app rfl (.const (.slice none 0 0)) (.tmp 8) 128 rfl w.heap.size 9 1 16 _ elStrs RS (.slice none 0 0) [] strs8 rfl OwnS.nil F (.slice a 8 cap) rfl H.out RS_one (by decide) (by decide) (Nat.le_refl _) (fun _ _ _ _ _ r => r) ?_; intro v2 w2 ho2 hb2 hB2; rw [List.nil_append] at ho2; obtain ⟨g, cp, cur, rfl, hg, hh⟩ := ho2.shape (by decide); rw [hl8] at ho2; have hO := Lib.hid ho2; clear ho2 hl8)
  go_ret
  have hgl := lt_of_heap hh
  refine ⟨w2.heap.size, g, cp, rfl, heap_new _ _, (pairs_of hO.out.rd).of ((bal (brf w2) _).block g hgl), by omega, hB2.size, bal hB2 _⟩
end Go.Proofs.YteikncnldbdfmaaGreatDoor
