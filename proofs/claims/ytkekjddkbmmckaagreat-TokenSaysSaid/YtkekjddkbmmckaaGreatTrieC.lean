/- strings.NewReplacer's trie: the four keys, one behind the other. -/
import Derived.Test.YtkekjddkbmmckaaGreatTrieB
import Derived.Test.YtkekjddkbmmckaaGreatPlT
namespace Go.Proofs.YtkekjddkbmmckaaGreat
open Go.RowKit Go.Mh

abbrev nilS : Value := .slice none 0 0
abbrev nilP : Value := .pointer none
abbrev tab (T : Nat) : Value := .slice (some ⟨T, 0, none⟩) 11 11
/-- A node with one way on, and what lies there. -/
def Leaf (w : World) (B K : Nat) (k v : Bs) (p : Int) : Prop := ∃ N, NodeAt w K [] 0 k (ptr N) nilS ∧ NodeAt w N v p [] nilP nilS ∧ B ≤ K ∧ B ≤ N
def TabAt (w : World) (B T : Nat) (ts : Array Value) : Prop := w.heap[T]? = some (.cells ts 114 (0, 0)) ∧ B ≤ T
theorem node_ne_tab {w : World} {B g T : Nat} {v : Bs} {p : Int} {x : Bs} {n t : Value} {ts : Array Value} (h : NodeAt w g v p x n t) (k : TabAt w B T ts) : g ≠ T := fun e => by
  subst e
  have k1 := k.1
  unfold NodeAt at h
  rw [h] at k1
  simp at k1
theorem Leaf.keep {w w' : World} {B K : Nat} {k v : Bs} {p : Int} (h : Leaf w B K k v p) (hk : ∀ (g : Nat) (T : TypeId) (xs : Array Value), w.heap[g]? = some (Obj.cells xs T (0, 0)) → T = 117 → w'.heap[g]? = w.heap[g]?) : Leaf w' B K k v p := by
  obtain ⟨N, h1, h2, h3, h4⟩ := h
  exact ⟨N, (hk _ _ _ h1 rfl).trans h1, (hk _ _ _ h2 rfl).trans h2, h3, h4⟩
/-- What a table's growth leaves. -/
theorem stays_nodes {w w' : World} {B T : Nat} {ts : Array Value} (h : Stays T w w') (k : TabAt w B T ts) : ∀ (g : Nat) (T' : TypeId) (xs : Array Value), w.heap[g]? = some (Obj.cells xs T' (0, 0)) → T' = 117 → w'.heap[g]? = w.heap[g]? := fun g T' xs hg hT => by
  refine h.same g (lt_of_heap hg) fun e => ?_
  subst e
  rw [k.1] at hg
  simp at hg
  have := hg.2
  subst hT
  exact absurd this (by decide)
def ts1 (A : Nat) : Array Value := #[ptr A, nilP, nilP, nilP, nilP, nilP, nilP, nilP, nilP, nilP, nilP]
def ts2 (P K : Nat) (x y : Value) : Array Value := #[nilP, nilP, ptr P, x, ptr K, nilP, nilP, nilP, y, nilP, nilP]
/-- The trie behind so many keys. -/
def TrieAt (w : World) (B T0 : Nat) : Nat → Prop
  | 0 => TabAt w B T0 #[nilP, nilP, nilP, nilP, nilP, nilP, nilP, nilP, nilP, nilP, nilP]
  | 1 => ∃ A, TabAt w B T0 (ts1 A) ∧ Leaf w B A [97, 109, 112, 59] [38] 8
  | 2 => ∃ A T P K, TabAt w B T0 (ts1 A) ∧ NodeAt w A [] 0 [] nilP (tab T) ∧ B ≤ A ∧ TabAt w B T (ts2 P K nilP nilP) ∧ Leaf w B P [109, 112, 59] [38] 8 ∧ Leaf w B K [116, 59] [60] 6
  | 3 => ∃ A T P K G, TabAt w B T0 (ts1 A) ∧ NodeAt w A [] 0 [] nilP (tab T) ∧ B ≤ A ∧ TabAt w B T (ts2 P K (ptr G) nilP) ∧ Leaf w B P [109, 112, 59] [38] 8 ∧ Leaf w B K [116, 59] [60] 6 ∧ Leaf w B G [116, 59] [62] 4
  | _ => ∃ A T P K G Q, TabAt w B T0 (ts1 A) ∧ NodeAt w A [] 0 [] nilP (tab T) ∧ B ≤ A ∧ TabAt w B T (ts2 P K (ptr G) (ptr Q)) ∧ Leaf w B P [109, 112, 59] [38] 8 ∧ Leaf w B K [116, 59] [60] 6 ∧ Leaf w B G [116, 59] [62] 4 ∧ Leaf w B Q [117, 111, 116, 59] [34] 2
/-- The replacer's own cells, where the keys are added. -/
structure RootAt (w : World) (gr T0 : Nat) : Prop where
  p : w.cell? ⟨gr, 1, none⟩ = some (.int .i64 0)
  x : w.cell? ⟨gr, 2, none⟩ = some (str [])
  t : w.cell? ⟨gr, 4, none⟩ = some (tab T0)
  s : w.cell? ⟨gr, 5, none⟩ = some (.int .i64 11)
  amp : w.cell? ⟨gr, 6 + 38, none⟩ = some (.int .u8 (0 : Nat))
  a : w.cell? ⟨gr, 6 + 97, none⟩ = some (.int .u8 (2 : Nat))
  g : w.cell? ⟨gr, 6 + 103, none⟩ = some (.int .u8 (3 : Nat))
  l : w.cell? ⟨gr, 6 + 108, none⟩ = some (.int .u8 (4 : Nat))
  q : w.cell? ⟨gr, 6 + 113, none⟩ = some (.int .u8 (8 : Nat))
theorem RootAt.keep {w w' : World} {gr T0 : Nat} (h : RootAt w gr T0) (e : w'.heap[gr]? = w.heap[gr]?) : RootAt w' gr T0 :=
  ⟨(cell_eq e).trans h.p, (cell_eq e).trans h.x, (cell_eq e).trans h.t, (cell_eq e).trans h.s, (cell_eq e).trans h.amp, (cell_eq e).trans h.a, (cell_eq e).trans h.g, (cell_eq e).trans h.l, (cell_eq e).trans h.q⟩

/-- What an addition leaves: the replacer's own block, and all before B. -/
abbrev Kept (B gr : Nat) (w w' : World) : Prop := w'.heap[gr]? = w.heap[gr]? ∧ Below B w w'

theorem add0 {B gr T0 : Nat} {w : World} (hr : RootAt w gr T0) (hB : B ≤ w.heap.size) (h : TrieAt w B T0 0) (hgr : gr ≠ T0) :
    Calls Tryz.prog 67 #[ptr gr, str (38 :: 97 :: [109, 112, 59]), str [38], .int .i64 8, ptr gr] w fun e w' => e = .returned (.tuple #[]) ∧ TrieAt w' B T0 1 ∧ Kept B gr w w' := by
  refine (addT_new gr gr T0 0 38 97 [109, 112, 59] [38] 8 _ w hr.x hr.t hr.amp (by decide) h.1 rfl hgr).mono ?_
  rintro e w' ⟨rfl, K, N, h1, h2, h3, h4, h5, s⟩
  exact ⟨rfl, ⟨K, ⟨h3, h.2⟩, N, h1, h2, by omega, by omega⟩, s.same gr (lt_of_cell hr.x) hgr, s.bel.mono h.2⟩
theorem add1 {B gr T0 : Nat} {w : World} (hr : RootAt w gr T0) (hB : B ≤ w.heap.size) (h : TrieAt w B T0 1) (hgB : gr < B) :
    Calls Tryz.prog 67 #[ptr gr, str (38 :: 108 :: [116, 59]), str [60], .int .i64 6, ptr gr] w fun e w' => e = .returned (.tuple #[]) ∧ TrieAt w' B T0 2 ∧ Kept B gr w w' := by
  obtain ⟨A, hT, N, hA, hN, bA, bN⟩ := h
  refine (addT_old gr gr T0 0 A 38 108 [116, 59] [60] 6 (ts1 A) w (fun w' => TrieAt w' B T0 2 ∧ Kept B gr w w' ∧ w'.heap[T0]? = w.heap[T0]?) hr.x hr.t hr.amp (by decide) hT.1 rfl (fun n => ?_) (fun w' h' => ⟨(cell_eq h'.2.1.1).trans hr.t, (cell_eq h'.2.2).trans (cellAt' (i := 0) hT.1 rfl)⟩)).mono (fun e w' h' => ⟨h'.1, h'.2.1, h'.2.2.1⟩)
  have hAT : A ≠ T0 := node_ne_tab hA hT
  have hAN : A ≠ N := fun e => by subst e; unfold NodeAt at hA hN; rw [hA] at hN; simp at hN
  refine (addS_any A gr N [60] 6 (w.drewN n) hA hr.s hr.a hr.l (by omega)).mono ?_
  rintro e w' ⟨rfl, T, P, K, M, h1, h2, h3, h4, h5, b1, b2, b3, b4, s⟩
  have s' : Stays A w w' := ⟨s.same, ((bdrewN (brf w) n).mono (Nat.le_of_lt (lt_of_heap hA))).trans s.bel⟩
  have hT0 := s'.same T0 (lt_of_heap hT.1) (Ne.symm hAT)
  have hN' := (s'.same N (lt_of_heap hN) (Ne.symm hAN)).trans hN
  exact ⟨rfl, ⟨A, T, P, K, ⟨hT0.trans hT.1, hT.2⟩, h1, bA, ⟨h5, Nat.le_trans hB b1⟩, ⟨N, h2, hN', Nat.le_trans hB b2, bN⟩, ⟨M, h3, h4, Nat.le_trans hB b3, Nat.le_trans hB b4⟩⟩, ⟨s'.same gr (lt_of_cell hr.x) (by omega), s'.bel.mono bA⟩, hT0⟩
theorem add2 {B gr T0 : Nat} {w : World} (hr : RootAt w gr T0) (hB : B ≤ w.heap.size) (h : TrieAt w B T0 2) (hgB : gr < B) :
    Calls Tryz.prog 67 #[ptr gr, str (38 :: 103 :: [116, 59]), str [62], .int .i64 4, ptr gr] w fun e w' => e = .returned (.tuple #[]) ∧ TrieAt w' B T0 3 ∧ Kept B gr w w' := by
  obtain ⟨A, T, P, K, hT0, hA, bA, hT, lP, lK⟩ := h
  have hAT := node_ne_tab hA hT
  have hTT : T0 ≠ T := fun e => by
    subst e
    have k1 := hT0.1
    rw [hT.1] at k1
    simp [ts1, ts2] at k1
  refine (addT_old gr gr T0 0 A 38 103 [116, 59] [62] 4 (ts1 A) w (fun w' => TrieAt w' B T0 3 ∧ Kept B gr w w' ∧ w'.heap[T0]? = w.heap[T0]?) hr.x hr.t hr.amp (by decide) hT0.1 rfl (fun n => ?_) (fun w' h' => ⟨(cell_eq h'.2.1.1).trans hr.t, (cell_eq h'.2.2).trans (cellAt' (i := 0) hT0.1 rfl)⟩)).mono (fun e w' h' => ⟨h'.1, h'.2.1, h'.2.2.1⟩)
  refine (addT_new A gr T 3 103 116 [59] [62] 4 (ts2 P K nilP nilP) (w.drewN n) (cellAt' (i := 2) hA rfl) (cellAt' (i := 4) hA rfl) hr.g (by decide) hT.1 rfl hAT).mono ?_
  rintro e w' ⟨rfl, G, N, h1, h2, h3, h4, h5, s⟩
  have s' : Stays T w w' := ⟨s.same, ((bdrewN (brf w) n).mono (Nat.le_of_lt (lt_of_heap hT.1))).trans s.bel⟩
  have hs := stays_nodes s' hT
  have e0 := s'.same T0 (lt_of_heap hT0.1) hTT
  exact ⟨rfl, ⟨A, T, P, K, G, ⟨e0.trans hT0.1, hT0.2⟩, (hs _ _ _ hA rfl).trans hA, bA, ⟨h3, hT.2⟩, lP.keep hs, lK.keep hs, ⟨N, h1, h2, Nat.le_trans hB h4, Nat.le_trans hB h5⟩⟩, ⟨s'.same gr (lt_of_cell hr.x) (by have := hT.2; omega), s'.bel.mono hT.2⟩, e0⟩
theorem add3 {B gr T0 : Nat} {w : World} (hr : RootAt w gr T0) (hB : B ≤ w.heap.size) (h : TrieAt w B T0 3) (hgB : gr < B) :
    Calls Tryz.prog 67 #[ptr gr, str (38 :: 113 :: [117, 111, 116, 59]), str [34], .int .i64 2, ptr gr] w fun e w' => e = .returned (.tuple #[]) ∧ TrieAt w' B T0 4 ∧ Kept B gr w w' := by
  obtain ⟨A, T, P, K, G, hT0, hA, bA, hT, lP, lK, lG⟩ := h
  have hAT := node_ne_tab hA hT
  have hTT : T0 ≠ T := fun e => by
    subst e
    have k1 := hT0.1
    rw [hT.1] at k1
    simp [ts1, ts2] at k1
  refine (addT_old gr gr T0 0 A 38 113 [117, 111, 116, 59] [34] 2 (ts1 A) w (fun w' => TrieAt w' B T0 4 ∧ Kept B gr w w' ∧ w'.heap[T0]? = w.heap[T0]?) hr.x hr.t hr.amp (by decide) hT0.1 rfl (fun n => ?_) (fun w' h' => ⟨(cell_eq h'.2.1.1).trans hr.t, (cell_eq h'.2.2).trans (cellAt' (i := 0) hT0.1 rfl)⟩)).mono (fun e w' h' => ⟨h'.1, h'.2.1, h'.2.2.1⟩)
  refine (addT_new A gr T 8 113 117 [111, 116, 59] [34] 2 (ts2 P K (ptr G) nilP) (w.drewN n) (cellAt' (i := 2) hA rfl) (cellAt' (i := 4) hA rfl) hr.q (by decide) hT.1 rfl hAT).mono ?_
  rintro e w' ⟨rfl, Q, N, h1, h2, h3, h4, h5, s⟩
  have s' : Stays T w w' := ⟨s.same, ((bdrewN (brf w) n).mono (Nat.le_of_lt (lt_of_heap hT.1))).trans s.bel⟩
  have hs := stays_nodes s' hT
  have e0 := s'.same T0 (lt_of_heap hT0.1) hTT
  exact ⟨rfl, ⟨A, T, P, K, G, Q, ⟨e0.trans hT0.1, hT0.2⟩, (hs _ _ _ hA rfl).trans hA, bA, ⟨h3, hT.2⟩, lP.keep hs, lK.keep hs, lG.keep hs, ⟨N, h1, h2, Nat.le_trans hB h4, Nat.le_trans hB h5⟩⟩, ⟨s'.same gr (lt_of_cell hr.x) (by have := hT.2; omega), s'.bel.mono hT.2⟩, e0⟩
end Go.Proofs.YtkekjddkbmmckaaGreat
