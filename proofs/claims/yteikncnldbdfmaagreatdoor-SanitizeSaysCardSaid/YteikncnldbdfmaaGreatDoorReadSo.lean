/- strings.genericReplacer.lookup: what stands ahead. -/
import Derived.Test.YteikncnldbdfmaaGreatDoorGen
import Derived.Test.YteikncnldbdfmaaGreatDoorTok
import Derived.Test.YteikncnldbdfmaaGreatDoorBld
import Derived.Lib.AppendStr
import Derived.Laws.MakeOwn
namespace Go.Mh
open Go.RowKit
def lookR (r : Bs) : Bs × Nat × Bool := if (first1 38 r).2 = 0 then ([], 0, false) else ([(first1 38 r).1], (first1 38 r).2 + 1, true)
theorem numK_else_fin : ∀ n : Fin 256, n.val ≠ 97 → n.val ≠ 103 → n.val ≠ 108 → n.val ≠ 113 → numK n.val = 11 ∨ numK n.val ∈ [0, 1, 5, 6, 7, 9, 10] := by decide +kernel
theorem numK_else (d : UInt8) (h1 : d ≠ 97) (h2 : d ≠ 103) (h3 : d ≠ 108) (h4 : d ≠ 113) : numK d.toNat = 11 ∨ numK d.toNat ∈ [0, 1, 5, 6, 7, 9, 10] := by
  have n : ∀ c : UInt8, d ≠ c → d.toNat ≠ c.toNat := fun c h e => h (UInt8.toNat_inj.1 e)
  exact numK_else_fin ⟨d.toNat, d.toNat_lt⟩ (n 97 h1) (n 103 h2) (n 108 h3) (n 113 h4)
theorem first1_else (d : UInt8) (r : Bs) (h1 : d ≠ 97) (h2 : d ≠ 103) (h3 : d ≠ 108) (h4 : d ≠ 113) : first1 38 (d :: r) = (38, 0) := by
  have e : ∀ c : UInt8, d ≠ c → (c == d) = false := fun c h => by simpa using fun e => h e.symm
  simp [first1, eAmp, eLt, eGt, eQuot, List.isPrefixOf, e 97 h1, e 103 h2, e 108 h3, e 113 h4]
theorem first1_a (r : Bs) : first1 38 (97 :: r) = if List.isPrefixOf [109, 112, 59] r = true then (38, 4) else (38, 0) := by
  simp [first1, eAmp, eLt, eGt, eQuot, List.isPrefixOf]
theorem first1_l (r : Bs) : first1 38 (108 :: r) = if List.isPrefixOf [116, 59] r = true then (60, 3) else (38, 0) := by
  simp [first1, eAmp, eLt, eGt, eQuot, List.isPrefixOf]
theorem first1_g (r : Bs) : first1 38 (103 :: r) = if List.isPrefixOf [116, 59] r = true then (62, 3) else (38, 0) := by
  simp [first1, eAmp, eLt, eGt, eQuot, List.isPrefixOf]
theorem first1_q (r : Bs) : first1 38 (113 :: r) = if List.isPrefixOf [117, 111, 116, 59] r = true then (34, 5) else (38, 0) := by
  simp [first1, eAmp, eLt, eGt, eQuot, List.isPrefixOf]
end Go.Mh
namespace Go.Proofs.YteikncnldbdfmaaGreatDoor
open Go.RowKit Go.Mh

set_option maxRecDepth 1000000 in
set_option maxHeartbeats 8000000 in
theorem lookNil_any (gr : Nat) (w : World) (h : Built w gr) :
    Calls Tryz.prog 304 #[ptr gr, str [], .bool false] w fun e w' => e = .returned (.tuple #[str [], .int .i64 0, .bool false]) ∧ Below w.heap.size w w' := by
  obtain ⟨T0, hg, ht⟩ := h.ex
  have r1 := hg.lo (i := 1) (v := .int .i64 0) (by decide) rfl
  clear h hg ht
  go_enter Tryz.func304, Tryz.ntmps304
  go_upto_region 4 with fail
  refine wp_loop_rounds 2 ?_
  rw [rounds_succ]
  go_wp2
  exact bodyPost_ret (v := .tuple #[str [], .int .i64 0, .bool false]) (by simp [results, Tryz.results304, go_sem]) rfl ⟨rfl, Below.refl _ _⟩

/-- What follows a node that has one way on. -/
theorem look3 {B X : Nat} {k v : Bs} {p : Int} {w : World} (h : Leaf w B X k v p) : w.cell? ⟨X, 1, none⟩ = some (.int .i64 0) ∧ w.cell? ⟨X, 2, none⟩ = some (str k) ∧ w.cell? ⟨X, 4, none⟩ = some nilS ∧ ∃ N, w.cell? ⟨X, 3, none⟩ = some (ptr N) ∧ w.cell? ⟨N, 0, none⟩ = some (str v) ∧ w.cell? ⟨N, 1, none⟩ = some (.int .i64 p) ∧ w.cell? ⟨N, 2, none⟩ = some (str []) ∧ w.cell? ⟨N, 4, none⟩ = some nilS := by
  obtain ⟨N, h1, h2, _, _⟩ := h
  exact ⟨cellAt' h1 rfl, cellAt' h1 rfl, cellAt' h1 rfl, N, cellAt' h1 rfl, cellAt' h2 rfl, cellAt' h2 rfl, cellAt' h2 rfl, cellAt' h2 rfl⟩

set_option maxRecDepth 1000000 in
set_option maxHeartbeats 8000000 in
theorem look_any (gr : Nat) (r : Bs) (w : World) (h : Built w gr) (hr : r.length ≤ 140737488355328) :
    Calls Tryz.prog 304 #[ptr gr, str (38 :: r), .bool false] w fun e w' => e = .returned (.tuple #[str (lookR r).1, .int .i64 (lookR r).2.1, .bool (lookR r).2.2]) ∧ Below w.heap.size w w' := by
  obtain ⟨T0, hg, ht⟩ := h.ex
  have r1 := hg.lo (i := 1) (v := .int .i64 0) (by decide) rfl
  have r4 := hg.lo (i := 4) (v := tab T0) (by decide) rfl
  have r5 := hg.lo (i := 5) (v := .int .i64 11) (by decide) rfl
  have rm : ∀ c : UInt8, w.cell? ⟨gr, 6 + c.toNat, none⟩ = some (.int .u8 (numK c.toNat)) := fun c => hg.cell c.toNat_lt
  have m38 := rm 38
  have n38 : numK ((38 : UInt8).toNat) = 0 := num38.1
  rw [n38] at m38
  obtain ⟨A, T, P, K, G, Q, hT0, hA, bA, hT, lP, lK, lG, lQ⟩ := ht
  have t0 := cellAt' (i := 0) (v := ptr A) hT0.1 rfl
  have a1 := cellAt' (i := 1) (v := .int .i64 0) hA rfl
  have a4 := cellAt' (i := 4) (v := tab T) hA rfl
  obtain ⟨c0, hc0⟩ : ∃ c0 : UInt8, (38 : UInt8) = c0 := ⟨_, rfl⟩
  rw [hc0] at m38 ⊢
  clear hc0
  have u0 := str_get (l := c0 :: r) (k := 0) (c := c0) rfl
  have b0 : (c0.toNat : Int) < 256 := by have := c0.toNat_lt; omega
  have s0 : Value.string ((⟨(c0 :: r).toArray⟩ : ByteArray).extract 1 (r.length + 1)) = str r := str_tail c0 r
  have way : ∀ d r2, r = d :: r2 → (∃ (m X : Nat) (k v : Bs) (p : Int), w.cell? ⟨gr, 6 + d.toNat, none⟩ = some (.int .u8 m) ∧ m < 11 ∧ w.cell? ⟨T, m, none⟩ = some (ptr X) ∧ Leaf w (gr + 1) X k v p ∧ 0 < p ∧ k ≠ [] ∧ k.length ≤ 5 ∧ lookR r = if k.isPrefixOf r2 = true then (v, 2 + k.length, true) else ([], 0, false)) ∨
      (w.cell? ⟨gr, 6 + d.toNat, none⟩ = some (.int .u8 11) ∧ lookR r = ([], 0, false)) ∨ (∃ m : Nat, w.cell? ⟨gr, 6 + d.toNat, none⟩ = some (.int .u8 m) ∧ m < 11 ∧ w.cell? ⟨T, m, none⟩ = some nilP ∧ lookR r = ([], 0, false)) := fun d r2 hr2 => by
    subst hr2
    by_cases h1 : d = 97
    · subst h1
      refine Or.inl ⟨2, P, _, _, _, (rm 97).trans (congrArg (fun n : Nat => some (Value.int .u8 (n : Int))) (show numK 97 = 2 from num38.2.1)), by decide, cellAt' hT.1 rfl, lP, by decide, by simp, by decide, ?_⟩
      unfold lookR; rw [first1_a]; split <;> simp
    by_cases h2 : d = 103
    · subst h2
      refine Or.inl ⟨3, G, _, _, _, (rm 103).trans (congrArg (fun n : Nat => some (Value.int .u8 (n : Int))) (show numK 103 = 3 from num38.2.2.1)), by decide, cellAt' hT.1 rfl, lG, by decide, by simp, by decide, ?_⟩
      unfold lookR; rw [first1_g]; split <;> simp
    by_cases h3 : d = 108
    · subst h3
      refine Or.inl ⟨4, K, _, _, _, (rm 108).trans (congrArg (fun n : Nat => some (Value.int .u8 (n : Int))) (show numK 108 = 4 from num38.2.2.2.1)), by decide, cellAt' hT.1 rfl, lK, by decide, by simp, by decide, ?_⟩
      unfold lookR; rw [first1_l]; split <;> simp
    by_cases h4 : d = 113
    · subst h4
      refine Or.inl ⟨8, Q, _, _, _, (rm 113).trans (congrArg (fun n : Nat => some (Value.int .u8 (n : Int))) (show numK 113 = 8 from num38.2.2.2.2)), by decide, cellAt' hT.1 rfl, lQ, by decide, by simp, by decide, ?_⟩
      unfold lookR; rw [first1_q]; split <;> simp
    have hl : lookR (d :: r2) = ([], 0, false) := by unfold lookR; rw [first1_else d r2 h1 h2 h3 h4]; rfl
    rcases numK_else d h1 h2 h3 h4 with e | e
    · exact Or.inr (Or.inl ⟨(rm d).trans (by rw [e]; rfl), hl⟩)
    · refine Or.inr (Or.inr ⟨numK d.toNat, rm d, ?_, ?_, hl⟩)
      · simp at e; omega
      · simp at e
        rcases e with e | e | e | e | e | e | e <;> rw [e] <;> exact cellAt' hT.1 rfl
  have hway := Lib.hid way
  clear way rm hg h hT0 hA bA hT lP lK lG lQ
  have k1 : (1 : Int) ≤ (r.length : Int) + 1 := by omega
  go_enter Tryz.func304, Tryz.ntmps304
  go_upto_region 4 with fail
  refine wp_loop_rounds 5 ?_
  rw [rounds_succ]
  go_upto_region 12 with fail
  go_quiet (fail)
  go_wp2
  cases r with
  | nil =>
    rw [rounds_succ]
    go_wp2
    exact bodyPost_ret (v := .tuple #[str [], .int .i64 0, .bool false]) (by simp [results, Tryz.results304, go_sem]) rfl ⟨rfl, bdrewN (brf w) _⟩
  | cons d r2 =>
    have u1 := str_get (l := d :: r2) (k := 0) (c := d) rfl
    have b1 : (d.toNat : Int) < 256 := by have := d.toNat_lt; omega
    have s1 : Value.string ((⟨(d :: r2).toArray⟩ : ByteArray).extract 1 (r2.length + 1)) = str r2 := str_tail d r2
    have k2 : (1 : Int) ≤ (r2.length : Int) + 1 := by omega
    rcases hway.out d r2 rfl with ⟨m, X, k, v, p, g1, g2, g3, g4, g5, g6, g7, g8⟩ | ⟨g1, g8⟩ | ⟨m, g1, g2, g3, g8⟩
    · have hl := Lib.hid g8
      clear g8 hway
      have g2' : (m : Int) < 11 := by omega
      have g2'' : ((m : Int) == 11) = false := by rw [beq_eq_false_iff_ne]; omega
      obtain ⟨x1, x2, x4, N, x3, y0, y1, y2, y4⟩ := look3 g4
      clear g4
      rw [rounds_succ]
      go_upto_region 12 with fail
      go_quiet (fail)
      go_wp2
      rw [rounds_succ]
      have kE : k.isEmpty = false := by cases k with
        | nil => exact absurd rfl g6
        | cons _ _ => rfl
      have hp := Lib.hid (fun w' => Tryz.strings_HasPrefix ⟨r2.toArray⟩ ⟨k.toArray⟩ w')
      have p0 : decide ((0 : Int) < p) = true := by simpa using g5
      cases hpx : k.isPrefixOf r2 with
      | false =>
        rw [hpx, if_neg (by simp)] at hl
        cases hr2 : r2.isEmpty with
        | true =>
          obtain rfl : r2 = [] := by simpa using hr2
          go_wp2
          rw [hl.out]
          exact bodyPost_ret (v := .tuple #[str [], .int .i64 0, .bool false]) (by simp [results, Tryz.results304, go_sem]) rfl ⟨rfl, bdrewN (brf w) _⟩
        | false =>
          have hpb : Lib.hasPrefix (⟨r2.toArray⟩ : ByteArray).data.toList (⟨k.toArray⟩ : ByteArray).data.toList = false := hpx
          rw [hpb] at hp
          go_wp2_with fail
          refine (hp.out _).mono ?_
          rintro e w1 ⟨rfl, rfl⟩
          go_wp2
          rw [hl.out]
          exact bodyPost_ret (v := .tuple #[str [], .int .i64 0, .bool false]) (by simp [results, Tryz.results304, go_sem]) rfl ⟨rfl, bdrewN (brf w) _⟩
      | true =>
        rw [hpx, if_pos rfl] at hl
        have hpb : Lib.hasPrefix (⟨r2.toArray⟩ : ByteArray).data.toList (⟨k.toArray⟩ : ByteArray).data.toList = true := hpx
        rw [hpb] at hp
        obtain ⟨rest, hrest⟩ := List.isPrefixOf_iff_prefix.1 hpx
        have hne : r2.isEmpty = false := by
          rw [← hrest]; cases k with
          | nil => exact absurd rfl g6
          | cons _ _ => rfl
        have hlen : k.length ≤ r2.length := by rw [← hrest]; simp
        have hdrop : Value.string ((⟨r2.toArray⟩ : ByteArray).extract k.length r2.length) = str rest := by rw [str_from, ← hrest, List.drop_left]
        have hlen' : (k.length : Int) ≤ (r2.length : Int) := by omega
        have hR := Lib.hid hrest
        clear hrest hpx hpb
        go_wp2_with fail
        refine (hp.out _).mono ?_
        rintro e w1 ⟨rfl, rfl⟩
        go_wp2
        rw [rounds_succ]
        have hcast : ((2 + k.length : Nat) : Int) = 2 + (k.length : Int) := by omega
        cases rest with
        | nil =>
          go_wp2
          rw [hl.out]
          simp only [hcast]
          exact bodyPost_ret (v := .tuple #[str v, .int .i64 (2 + (k.length : Int)), .bool true]) (by simp [results, Tryz.results304, go_sem]) rfl ⟨rfl, bdrewN (brf w) _⟩
        | cons z rest =>
          go_wp2
          rw [hl.out]
          simp only [hcast]
          exact bodyPost_ret (v := .tuple #[str v, .int .i64 (2 + (k.length : Int)), .bool true]) (by simp [results, Tryz.results304, go_sem]) rfl ⟨rfl, bdrewN (brf w) _⟩
    · have hl := Lib.hid g8
      clear g8 hway
      rw [rounds_succ]
      go_upto_region 12 with fail
      go_quiet (fail)
      go_wp2
      rw [hl.out]
      exact bodyPost_ret (v := .tuple #[str [], .int .i64 0, .bool false]) (by simp [results, Tryz.results304, go_sem]) rfl ⟨rfl, bdrewN (brf w) _⟩
    · have hl := Lib.hid g8
      have g2' : (m : Int) < 11 := by omega
      have g2'' : ((m : Int) == 11) = false := by rw [beq_eq_false_iff_ne]; omega
      clear g8 hway
      rw [rounds_succ]
      go_upto_region 12 with fail
      go_quiet (fail)
      go_wp2
      rw [rounds_succ]
      go_wp2
      rw [hl.out]
      exact bodyPost_ret (v := .tuple #[str [], .int .i64 0, .bool false]) (by simp [results, Tryz.results304, go_sem]) rfl ⟨rfl, bdrewN (brf w) _⟩
end Go.Proofs.YteikncnldbdfmaaGreatDoor
/- strings.appendSliceWriter: what is written stands behind what was written. -/
namespace Go.Proofs.YteikncnldbdfmaaGreatDoor
open Go.RowKit Go.Mh

/-- The writer's variable, and its own bytes. -/
def BufAt (B gb : Nat) (w : World) (out : Bs) : Prop := ∃ bv, w.heap[gb]? = some (.cells #[bv] 356 (0, 0)) ∧ w.ownsRow B 5 1 bv out.length (Lib.byteCells out) ∧ bv.ownBlock ≠ some gb
theorem BufAt.lt {B gb : Nat} {w : World} {out : Bs} (h : BufAt B gb w out) : gb < w.heap.size := by obtain ⟨bv, h1, _⟩ := h; exact lt_of_heap h1
theorem owns_below {B n : Nat} {w w' : World} {v : Value} {xs : List Value} (h : w.ownsRow B 5 1 v n xs) (hb : Below w.heap.size w w') : w'.ownsRow B 5 1 v n xs := by
  obtain ⟨h0, h1⟩ := h
  refine ⟨h0, ?_⟩
  rcases h1 with h1 | ⟨g, cap, cur, e, hg, hh, r⟩
  · exact Or.inl h1
  · exact Or.inr ⟨g, cap, cur, e, hg, (hb.block g (lt_of_heap hh)).trans hh, r⟩
theorem BufAt.below {B gb : Nat} {w w' : World} {out : Bs} (h : BufAt B gb w out) (hb : Below w.heap.size w w') : BufAt B gb w' out := by
  obtain ⟨bv, h1, h2, h3⟩ := h
  exact ⟨bv, (hb.block gb (lt_of_heap h1)).trans h1, owns_below h2 hb, h3⟩
theorem aswInfo : (Tryz.prog.info? 5).map (fun i => (i.zero, i.size, i.bytes)) = some (some (.int .u8 0), 1, 1) := by kernel_rfl

set_option maxHeartbeats 1000000 in
set_option maxRecDepth 100000 in
theorem asw_any (B gb : Nat) (out : Bs) (s : ByteArray) (w : World) (h : BufAt B gb w out) (hlen : out.length + s.size ≤ 140737488355328) (hB : B ≤ w.heap.size) (hgb : B ≤ gb) :
    Calls Tryz.prog 311 #[ptr gb, .string s] w fun e w' => e = .returned (.tuple #[.int .i64 s.size, .nilIface]) ∧ BufAt B gb w' (out ++ s.data.toList) ∧ Below B w w' := by
  obtain ⟨i0, hi, hz0, hz1, hz2⟩ := info_parts aswInfo
  obtain ⟨bv, hbk, hown, hne⟩ := h
  have hll : Hid ((Lib.byteCells out).length = out.length) := by show (Lib.byteCells out).length = out.length; simp [Lib.byteCells]
  have hlt := lt_of_heap hbk
  have c0 := cellAt' (i := 0) (v := bv) hbk rfl
  go_enter Tryz.func311, Tryz.ntmps311
  go_wp2_with (at_builtin; refine Lib.wpList_append_own_string _ rfl _ _ 356 9 rfl B 5 i0 Tryz.underlying356 Tryz.underlying9 hi hz0 hz1 hz2 _ _ _ rfl hown s rfl ?c3 ?c4 ?c5 ?_)
  case c3 => unfold maxLen; omega
  case c4 => omega
  case c5 => exact hB
  intro v' w2 hown' hgrow _
  have hb2 : w2.heap[gb]? = some (.cells #[bv] 356 (0, 0)) := by
    rw [hgrow.block gb hlt (fun e => hne e.symm)]
    exact hbk
  have d0 := cellAt' (i := 0) (v := bv) hb2 rfl
  have f0 := fzAt' (i := 0) hb2
  obtain ⟨ao, n', cap, rfl⟩ : ∃ ao n' cap, v' = .slice ao n' cap := by
    rcases hown'.2 with ⟨hv, _⟩ | ⟨g, cap, cur, hv, _⟩
    · exact ⟨_, _, _, hv⟩
    · exact ⟨_, _, _, hv⟩
  go_wp2
  go_ret2
  have hT : (Value.slice ao n' cap).ownBlock ≠ some gb := by
    rcases hown'.2 with ⟨hv, _⟩ | ⟨g, cap', cur, hv, _, hh, _⟩
    · rw [hv]; simp [Value.ownBlock]
    · rw [hv]
      intro e
      simp [Value.ownBlock] at e
      subst e
      rw [hb2] at hh
      simp at hh
  refine ⟨rfl, ⟨_, by simpa using heap_set (i := 0) (.slice ao n' cap) hb2, ?_, hT⟩, ((Below.refl B w).grown hgrow hB (fun k hk => (hown.lt k hk).1)).setCell (p := ⟨gb, 0, none⟩) hgb _⟩
  have e1 : Lib.byteCells (out ++ s.data.toList) = Lib.byteCells out ++ Lib.strCells s := by simp [Lib.byteCells, Lib.strCells]
  have e2 : (out ++ s.data.toList).length = out.length + s.size := by simp
  rw [e1, e2]
  obtain ⟨h0, h1⟩ := hown'
  refine ⟨h0, ?_⟩
  rcases h1 with h1 | ⟨g, cp, cur, hv, hg, hh, r⟩
  · exact Or.inl h1
  · refine Or.inr ⟨g, cp, cur, hv, hg, (heap_setCell_other w2 _ g _ ?_).trans hh, r⟩
    intro e
    rw [hv] at hT
    simp [Value.ownBlock] at hT
    exact hT e

theorem ta_asw (v : Value) (w : World) : (Instr.typeAssert (.iface 357 v) 359 361 true).run Tryz.prog w = .ok (.tuple #[.iface 357 v, .bool true]) w := by kernel_rfl

set_option maxHeartbeats 1000000 in
set_option maxRecDepth 1000000 in
theorem getSw_any (gb : Nat) (w : World) :
    Calls Tryz.prog 303 #[.iface 357 (ptr gb)] w fun e w' => e = .returned (.iface 357 (ptr gb)) ∧ w' = w := by
  have hta := ta_asw
  go_enter Tryz.func303, Tryz.ntmps303
  go_wp2
  go_ret
  exact ⟨rfl, rfl⟩
end Go.Proofs.YteikncnldbdfmaaGreatDoor
/- The reference ReadSo: strings.NewReplacer(..).Replace. -/
namespace Go.Mh
open Go.RowKit
theorem first1_other (c : UInt8) (r : Bs) (h : c ≠ 38) : first1 c r = (c, 0) := by
  have e : ((38 : UInt8) == c) = false := by simpa using fun e => h e.symm
  simp [first1, eAmp, eLt, eGt, eQuot, List.isPrefixOf, e]
theorem numK_root_fin : ∀ n : Fin 256, n.val ≠ 38 → numK n.val = 11 ∨ (1 ≤ numK n.val ∧ numK n.val ≤ 10) := by decide +kernel
theorem numK_root (c : UInt8) (h : c ≠ 38) : numK c.toNat = 11 ∨ (1 ≤ numK c.toNat ∧ numK c.toNat ≤ 10) :=
  numK_root_fin ⟨c.toNat, c.toNat_lt⟩ (fun e => h (UInt8.toNat_inj.1 e))
theorem first1_len (r : Bs) : (first1 38 r).2 ≤ r.length := by
  unfold first1
  split
  · rename_i h; have := (List.isPrefixOf_iff_prefix.1 h).length_le; simp [eAmp] at this; omega
  · split
    · rename_i h; have := (List.isPrefixOf_iff_prefix.1 h).length_le; simp [eLt] at this; omega
    · split
      · rename_i h; have := (List.isPrefixOf_iff_prefix.1 h).length_le; simp [eGt] at this; omega
      · split
        · rename_i h; have := (List.isPrefixOf_iff_prefix.1 h).length_le; simp [eQuot] at this; omega
        · simp
theorem first1_zero (r : Bs) (h : (first1 38 r).2 = 0) : (first1 38 r).1 = 38 := by
  revert h
  unfold first1
  split
  · intro h; simp at h
  · split
    · intro h; simp at h
    · split
      · intro h; simp at h
      · split
        · intro h; simp at h
        · intro _; rfl
/-- What is read so far, what waits, what is left. -/
def RdAt (S out : Bs) (last i : Nat) : Prop := readE S = out ++ (S.take i).drop last ++ readE (S.drop i)
theorem RdAt.skip {S out : Bs} {last i : Nat} {c : UInt8} (h : RdAt S out last i) (hc : S[i]? = some c) (hl : last ≤ i) (hf : first1 c (S.drop (i + 1)) = (c, 0)) : RdAt S out last (i + 1) := by
  have hlt := (List.getElem?_eq_some_iff.1 hc).1
  have hd : S.drop i = c :: S.drop (i + 1) := by rw [List.drop_eq_getElem_cons hlt, (List.getElem?_eq_some_iff.1 hc).2]
  unfold RdAt at h ⊢
  rw [h, hd, readE_cons, hf, List.take_add_one, hc, List.drop_append_of_le_length (by simp; omega)]
  simp
theorem RdAt.hit {S out : Bs} {last i : Nat} (h : RdAt S out last i) (hc : S[i]? = some 38) (k : Nat) (hk : (first1 38 (S.drop (i + 1))).2 = k) : RdAt S (out ++ (S.take i).drop last ++ [(first1 38 (S.drop (i + 1))).1]) (i + (k + 1)) (i + (k + 1)) := by
  have hlt := (List.getElem?_eq_some_iff.1 hc).1
  have hd : S.drop i = 38 :: S.drop (i + 1) := by rw [List.drop_eq_getElem_cons hlt, (List.getElem?_eq_some_iff.1 hc).2]
  unfold RdAt at h ⊢
  rw [h, hd, readE_cons, hk, List.drop_drop]
  have e : (S.take (i + (k + 1))).drop (i + (k + 1)) = [] := List.drop_eq_nil_of_le (by simp; omega)
  rw [e, show i + 1 + k = i + (k + 1) by omega]
  simp
theorem read_len (S : Bs) : (readE S).length ≤ S.length := by
  suffices H : ∀ (S : Bs) k, (readS k S).length ≤ S.length from H S 0
  intro S
  induction S with
  | nil => intro k; cases k <;> simp [readS]
  | cons c r ih => intro k; cases k with
    | zero => have := ih (first1 c r).2; simp only [readS, List.length_cons]; omega
    | succ k => have := ih k; simp only [readS, List.length_cons]; omega
theorem RdAt.out_len {S out : Bs} {last i : Nat} (h : RdAt S out last i) : out.length ≤ S.length := by
  have h1 : (readE S).length = out.length + ((S.take i).drop last).length + (readE (S.drop i)).length := by unfold RdAt at h; rw [h]; simp only [List.length_append]
  have := read_len S
  omega
theorem RdAt.past {S out : Bs} {last : Nat} (h : RdAt S out last S.length) : RdAt S out last (S.length + 1) := by
  unfold RdAt at h ⊢
  rw [h, List.take_of_length_le (Nat.le_refl _), List.take_of_length_le (Nat.le_succ _), List.drop_eq_nil_of_le (Nat.le_refl _), List.drop_eq_nil_of_le (Nat.le_succ _)]
theorem RdAt.done {S out : Bs} {last : Nat} (h : RdAt S out last (S.length + 1)) : readE S = out ++ S.drop last := by
  unfold RdAt at h
  rw [h, List.take_of_length_le (Nat.le_succ _), List.drop_eq_nil_of_le (Nat.le_succ _)]
  simp [readE, readS]
end Go.Mh
namespace Go.Proofs.YteikncnldbdfmaaGreatDoor
open Go.RowKit Go.Mh

theorem nilW (n b : Nat) (w : World) : Sem.run Tryz.prog (nilAhead (n + 1) 357 (ptr b) "WriteString") w = .ok (some false) w := by kernel_rfl
theorem methodW (n b : Nat) (w : World) : Sem.run Tryz.prog (method (n + 1) 357 (ptr b) "WriteString") w = .ok (311, ptr b) w := by kernel_rfl
theorem asw_str (B gb : Nat) (out D : Bs) (w : World) (h : BufAt B gb w out) (hlen : out.length + D.length ≤ 140737488355328) (hB : B ≤ w.heap.size) (hgb : B ≤ gb) :
    Calls Tryz.prog 311 #[ptr gb, str D] w fun e w' => e = .returned (.tuple #[.int .i64 D.length, .nilIface]) ∧ BufAt B gb w' (out ++ D) ∧ Below B w w' := by
  have hs : (⟨D.toArray⟩ : ByteArray).size = D.length := by simp [ByteArray.size]
  have := asw_any B gb out ⟨D.toArray⟩ w h (by rw [hs]; exact hlen) hB hgb
  rw [hs] at this
  exact this
theorem BufAt.drew {B gb : Nat} {out : Bs} {w : World} (h : BufAt B gb w out) : BufAt B gb w.drew out := h.below ((brf w).drew)
abbrev ifaceW (gb : Nat) : Value := .iface 357 (ptr gb)
set_option maxRecDepth 1000000 in
set_option maxHeartbeats 16000000 in
theorem genWrite_any (B gr gb : Nat) (S : Bs) (w : World) (hS : S.length ≤ 120000) (hT : ∀ w', Below B w w' → Built w' gr) (hB : B ≤ w.heap.size) (hgb : B ≤ gb) (hbuf : BufAt B gb w []) :
    Calls Tryz.prog 302 #[ptr gr, ifaceW gb, str S] w fun e w' => (∃ z, e = .returned (.tuple #[.int .i64 z, .nilIface])) ∧ BufAt B gb w' (readE S) ∧ Below B w w' := by
  have HT := Lib.hid hT
  clear hT
  have GS := Lib.hid (getSw_any gb)
  go_enter Tryz.func302, Tryz.ntmps302
  go_wp2_with fail
  refine (GS.out _).mono ?_
  rintro e w1 ⟨rfl, rfl⟩
  go_wp2
  go_loopw [6, 7, 9, 11, 12] (fun nv ev lv pv iv wr => ∃ (z : Int) (last i : Nat) (out : Bs), nv = .int .i64 z ∧ ev = .nilIface ∧ lv = .int .i64 last ∧ pv = .bool false ∧ iv = .int .i64 i ∧ last ≤ i ∧ last ≤ S.length ∧ i ≤ S.length + 1 ∧ Hid (RdAt S out last i) ∧ Hid (BufAt B gb wr out) ∧ Below B w1 wr) (fun _ _ _ _ iv _ => S.length + 1 - (intOf iv).toNat)
  case atStart => exact ⟨0, 0, 0, [], rfl, rfl, rfl, rfl, rfl, Nat.le_refl _, Nat.zero_le _, Nat.zero_le _, Lib.hid (by simp [RdAt]), Lib.hid hbuf, Below.refl _ _⟩
  case round =>
    clear hbuf
    obtain ⟨z, last, i, out, rfl, rfl, rfl, rfl, rfl, hl, hlS, hi, hrd, hbf, hb⟩ := hrel
    have hBt := HT.out _ hb
    have hol := hrd.out.out_len
    have hws := hb.size
    obtain ⟨T0, hg, ht⟩ := hBt.ex
    have r1 := hg.lo (i := 1) (v := .int .i64 0) (by decide) rfl
    have r4 := hg.lo (i := 4) (v := tab T0) (by decide) rfl
    have r5 := hg.lo (i := 5) (v := .int .i64 11) (by decide) rfl
    by_cases hlt : i < S.length
    · obtain ⟨c, hc⟩ : ∃ c, S[i]? = some c := ⟨_, List.getElem?_eq_getElem hlt⟩
      have u0 := str_get hc (by exact hlt)
      have b0 : (c.toNat : Int) < 256 := by have := c.toNat_lt; omega
      have rm := hg.cell c.toNat_lt
      have i1 : (i : Int) ≤ (S.length : Int) := by omega
      have i2 : ((i : Int) == (S.length : Int)) = false := by rw [beq_eq_false_iff_ne]; omega
      have i3 : (i == S.length) = false := by rw [beq_eq_false_iff_ne]; omega
      obtain ⟨A, hTA⟩ : ∃ A, w1 = w1 ∧ TabAt wr (gr + 1) T0 (ts1 A) := by
        obtain ⟨A, _, _, _, _, _, h, _⟩ := ht
        exact ⟨A, rfl, h⟩
      by_cases hc38 : c = 38
      · have hd : S.drop i = c :: S.drop (i + 1) := by rw [List.drop_eq_getElem_cons hlt, (List.getElem?_eq_some_iff.1 hc).2]
        have s0 := str_from S i
        rw [hd] at s0
        have hlook := look_any gr (S.drop (i + 1)) wr hBt (by simp; omega)
        have n38 : numK c.toNat = 0 := by rw [hc38]; exact num38.1
        have t0 := cellAt' (i := 0) (v := ptr A) hTA.2.1 rfl
        rw [n38] at rm
        have HC := Lib.hid hc
        have HR := Lib.hid hrd.out
        have h38 := Lib.hid hc38
        rw [← hc38] at hlook
        clear hlook
        obtain ⟨k, hk⟩ : ∃ k, (first1 c (S.drop (i + 1))).2 = k := ⟨_, rfl⟩
        have rm0 : wr.cell? ⟨gr, 6 + c.toNat, none⟩ = some (.int .u8 0) := rm
        have hkl : k ≤ S.length - (i + 1) := by
          have := first1_len (S.drop (i + 1))
          rw [← hc38, hk] at this
          simpa using this
        obtain ⟨x, hx⟩ : ∃ x, (first1 c (S.drop (i + 1))).1 = x := ⟨_, rfl⟩
        have h38 := Lib.hid hc38
        have hBn : Hid (∀ n, Built (wr.drewN n) gr) := Lib.hid fun n => hBt.below (bdrewN (brf wr) n)
        by_cases hk0 : k = 0
        · have hres : ∀ n, Calls Tryz.prog 304 #[ptr gr, str (c :: S.drop (i + 1)), .bool false] (wr.drewN n) fun e w' => e = .returned (.tuple #[str [], .int .i64 0, .bool false]) ∧ Below wr.heap.size wr w' := fun n => by
            refine (show Calls _ _ _ _ _ from ?_)
            have := look_any gr (S.drop (i + 1)) (wr.drewN n) (hBn.out n) (by simp; omega)
            rw [← hc38] at this
            refine this.mono ?_
            rintro e w' ⟨rfl, hb'⟩
            have hl0 : lookR (S.drop (i + 1)) = ([], 0, false) := by unfold lookR; rw [← hc38, hk, if_pos hk0]
            rw [hl0]
            exact ⟨rfl, (bdrewN (brf wr) n).trans hb'⟩
          have hf : first1 c (S.drop (i + 1)) = (c, 0) := by
            rw [hk0] at hk
            have h1 := first1_zero (S.drop (i + 1)) (by rw [← hc38]; exact hk)
            rw [← hc38] at h1
            exact Prod.ext h1 hk
          have hnx := Lib.hid (hrd.out.skip hc hl hf)
          have HL := Lib.hid hres
          clear hres hc38 hc n38 hd hBt hTA hrd hg ht hk hx hf hk0 rm
          go_upto_region 7 with fail
          go_quiet (fail)
          go_wp2_with fail
          refine (HL.out _).mono ?_
          rintro e w2 ⟨rfl, hb2⟩
          go_wp2
          exact ⟨⟨z, last, i + 1, out, rfl, rfl, rfl, rfl, by go_num, by omega, hlS, by omega, hnx, Lib.hid (hbf.out.below hb2), hb.trans (hb2.mono (by omega))⟩, by simp only [intOf]; omega⟩
        · have hres : ∀ n, Calls Tryz.prog 304 #[ptr gr, str (c :: S.drop (i + 1)), .bool false] (wr.drewN n) fun e w' => e = .returned (.tuple #[str [x], .int .i64 (k + 1 : Nat), .bool true]) ∧ Below wr.heap.size wr w' := fun n => by
            have := look_any gr (S.drop (i + 1)) (wr.drewN n) (hBn.out n) (by simp; omega)
            rw [← hc38] at this
            refine this.mono ?_
            rintro e w' ⟨rfl, hb'⟩
            have hl0 : lookR (S.drop (i + 1)) = ([x], k + 1, true) := by unfold lookR; rw [← hc38, hk, hx, if_neg hk0]
            rw [hl0]
            exact ⟨rfl, (bdrewN (brf wr) n).trans hb'⟩
          have hnx := Lib.hid (hrd.out.hit (by rw [← hc38]; exact hc) k (by rw [← hc38]; exact hk))
          rw [← hc38, hx] at hnx
          have HL := Lib.hid hres
          have hk1 : ((k : Int) + 1 == 0) = false := by rw [beq_eq_false_iff_ne]; omega
          obtain ⟨D, hD⟩ : ∃ D, (S.take i).drop last = D := ⟨_, rfl⟩
          have hDl : out.length + D.length ≤ 240000 := by rw [← hD]; simp; omega
          have hA : ∀ w', BufAt B gb w' out → B ≤ w'.heap.size → Calls Tryz.prog 311 #[ptr gb, .string ((⟨S.toArray⟩ : ByteArray).extract last i)] w' fun e w'' => e = .returned (.tuple #[.int .i64 D.length, .nilIface]) ∧ BufAt B gb w'' (out ++ D) ∧ Below B w' w'' := fun w' h1 h2 => by
            rw [ext_str, hD]
            exact asw_str B gb out D w' h1 (by omega) h2 hgb
          have hX : ∀ w', BufAt B gb w' (out ++ D) → B ≤ w'.heap.size → Calls Tryz.prog 311 #[ptr gb, str [x]] w' fun e w'' => e = .returned (.tuple #[.int .i64 1, .nilIface]) ∧ BufAt B gb w'' (out ++ D ++ [x]) ∧ Below B w' w'' := fun w' h1 h2 =>
            asw_str B gb (out ++ D) [x] w' h1 (by simp only [List.length_append, List.length_cons, List.length_nil]; omega) h2 hgb
          rw [hD] at hnx
          have HA := Lib.hid hA
          have HX := Lib.hid hX
          clear hres hc38 hc n38 hd hBt hTA hrd hg ht hk hx rm hA hX hD
          go_upto_region 7 with fail
          go_quiet (fail)
          go_wp2_with fail
          refine (HL.out _).mono ?_
          rintro e w2 ⟨rfl, hb2⟩
          have hws2 := hb2.size
          go_upto_region 13 with fail
          refine wp_region_held (S := fun _ => True) (by kernel_rfl) ?_
          refine wpAnyH_takeD 0 80 (v := ?_) rfl rfl (by kernel_rfl) (by kernel_rfl) (by kernel_rfl) (fun _ _ _ h => h) (Or.inl ⟨by rfl, ?_⟩) trivial ?_
          rotate_left
          · (intro w' hw'; (try dsimp only at hw'); go_simp; try with_reducible rfl)
          simp only [List.set_cons_zero, List.set_cons_succ]
          refine wpAnyH_takeD 1 81 (v := ?_) rfl rfl (by kernel_rfl) (by kernel_rfl) (by kernel_rfl) (fun _ _ _ h => h) (Or.inl ⟨by rfl, ?_⟩) trivial ?_
          rotate_left
          · (intro w' hw'; (try dsimp only at hw'); go_simp; try with_reducible rfl)
          simp only [List.set_cons_zero, List.set_cons_succ]
          refine wpAnyH_takeD 2 82 (v := ?_) rfl rfl (by kernel_rfl) (by kernel_rfl) (by kernel_rfl) (fun _ _ _ h => h) (Or.inl ⟨by rfl, ?_⟩) trivial ?_
          rotate_left
          · (intro w' hw'; (try dsimp only at hw'); go_simp; try with_reducible rfl)
          simp only [List.set_cons_zero, List.set_cons_succ]
          refine wpAnyH_takeD 3 83 (v := ?_) rfl rfl (by kernel_rfl) (by kernel_rfl) (by kernel_rfl) (fun _ _ _ h => h) (Or.inl ⟨by rfl, ?_⟩) trivial ?_
          rotate_left
          · (intro w' hw'; (try dsimp only at hw'); go_simp; try with_reducible rfl)
          simp only [List.set_cons_zero, List.set_cons_succ]
          refine wpAnyH_takeD 4 84 (v := ?_) rfl rfl (by kernel_rfl) (by kernel_rfl) (by kernel_rfl) (fun _ _ _ h => h) (Or.inl ⟨by rfl, ?_⟩) trivial ?_
          rotate_left
          · (intro w' hw'; (try dsimp only at hw'); go_simp; try with_reducible rfl)
          simp only [List.set_cons_zero, List.set_cons_succ]
          refine wpAnyH_takeD 5 85 (v := ?_) rfl rfl (by kernel_rfl) (by kernel_rfl) (by kernel_rfl) (fun _ _ _ h => h) (Or.inl ⟨by rfl, ?_⟩) trivial ?_
          rotate_left
          · (intro w' hw'; (try dsimp only at hw'); go_simp; try with_reducible rfl)
          simp only [List.set_cons_zero, List.set_cons_succ]
          refine wpAnyH_takeD 6 86 (v := ?_) rfl rfl (by kernel_rfl) (by kernel_rfl) (by kernel_rfl) (fun _ _ _ h => h) (Or.inl ⟨by rfl, ?_⟩) trivial ?_
          rotate_left
          · (intro w' hw'; (try dsimp only at hw'); go_simp; rw [nilW]; rfl)
          simp only [List.set_cons_zero, List.set_cons_succ]
          refine wpAnyH_takeD 7 87 (v := ?_) rfl rfl (by kernel_rfl) (by kernel_rfl) (by kernel_rfl) (fun _ _ _ h => h) (Or.inl ⟨by rfl, ?_⟩) trivial ?_
          rotate_left
          · (intro w' hw'; (try dsimp only at hw'); go_simp; try with_reducible rfl)
          simp only [List.set_cons_zero, List.set_cons_succ]
          refine wpAnyH_step 8 rfl (by kernel_rfl) (fun K' hK' => ?_)
          rw [if_pos (by rfl)]
          go_simp
          rw [methodW]
          go_simp
          refine (HA.out _ (hbf.out.below hb2).drew (show B ≤ w2.heap.size by omega)).mono ?_
          rintro e w3 ⟨rfl, hbf3, hb3⟩
          have hws3 : w2.heap.size ≤ w3.heap.size := hb3.size
          dsimp only
          clear HA hbf
          refine hK'.out _ _ trivial ?_
          clear hK' K'
          refine wpAnyH_takeD 9 79 (v := ?_) rfl rfl (by kernel_rfl) (by kernel_rfl) (by kernel_rfl) (fun _ _ _ h => h) (Or.inl ⟨by rfl, ?_⟩) trivial ?_
          rotate_left
          · (intro w' hw'; (try dsimp only at hw'); go_simp; try with_reducible rfl)
          simp only [List.set_cons_zero, List.set_cons_succ]
          refine wpAnyH_takeD 10 89 (v := ?_) rfl rfl (by kernel_rfl) (by kernel_rfl) (by kernel_rfl) (fun _ _ _ h => h) (Or.inl ⟨by rfl, ?_⟩) trivial ?_
          rotate_left
          · (intro w' hw'; (try dsimp only at hw'); go_simp; try with_reducible rfl)
          simp only [List.set_cons_zero, List.set_cons_succ]
          refine wpAnyH_takeD 11 90 (v := ?_) rfl rfl (by kernel_rfl) (by kernel_rfl) (by kernel_rfl) (fun _ _ _ h => h) (Or.inl ⟨by rfl, ?_⟩) trivial ?_
          rotate_left
          · (intro w' hw'; (try dsimp only at hw'); go_simp; try with_reducible rfl)
          simp only [List.set_cons_zero, List.set_cons_succ]
          refine wpAnyH_takeD 12 10 (v := ?_) rfl rfl (by kernel_rfl) (by kernel_rfl) (by kernel_rfl) (fun _ _ _ h => h) (Or.inl ⟨by rfl, ?_⟩) trivial ?_
          rotate_left
          · (intro w' hw'; (try dsimp only at hw'); go_simp; try with_reducible rfl)
          simp only [List.set_cons_zero, List.set_cons_succ]
          refine wpAnyH_takeD 13 7 (v := ?_) rfl rfl (by kernel_rfl) (by kernel_rfl) (by kernel_rfl) (fun _ _ _ h => h) (Or.inl ⟨by rfl, ?_⟩) trivial ?_
          rotate_left
          · (intro w' hw'; (try dsimp only at hw'); go_simp; try with_reducible rfl)
          simp only [List.set_cons_zero, List.set_cons_succ]
          refine wpAnyH_done (by kernel_rfl) ?_ _
          have HB3 := Lib.hid hbf3
          clear hbf3
          go_upto_region 16 with fail
          go_wp2_with (first | rw [methodW] | fail)
          refine (HX.out _ HB3.out (show B ≤ w3.heap.size by omega)).mono ?_
          rintro e w4 ⟨rfl, hbf4, hb4⟩
          dsimp only
          clear HX HB3
          go_wp2
          exact ⟨⟨_, i + (k + 1), i + (k + 1), out ++ D ++ [x], rfl, rfl, by go_num, rfl, by go_num, Nat.le_refl _, by omega, by omega, hnx, Lib.hid hbf4, ((hb.trans (hb2.mono (by omega))).drew.trans hb3).trans hb4⟩, by simp only [intOf]; omega⟩
      · have hnx := Lib.hid (hrd.out.skip hc hl (first1_other c _ hc38))
        have hnum := numK_root c hc38
        have hTab := Lib.hid hTA.2
        obtain ⟨m, hm⟩ : ∃ m, numK c.toNat = m := ⟨_, rfl⟩
        rw [hm] at rm hnum
        clear hm hc hc38 hg ht hBt hTA hrd
        rcases hnum with rfl | ⟨h1, h2⟩
        · go_upto_region 7 with fail
          go_quiet (fail)
          go_wp2
          exact ⟨⟨z, last, i + 1, out, rfl, rfl, rfl, rfl, by go_num, by omega, hlS, by omega, hnx, Lib.hid (hbf.out.below (bdrewN (brf wr) _)), bdrewN hb _⟩, by simp only [intOf]; omega⟩
        · have tm := cellAt' (i := m) (v := nilP) hTab.out.1 (by rcases (by omega : m = 1 ∨ m = 2 ∨ m = 3 ∨ m = 4 ∨ m = 5 ∨ m = 6 ∨ m = 7 ∨ m = 8 ∨ m = 9 ∨ m = 10) with rfl | rfl | rfl | rfl | rfl | rfl | rfl | rfl | rfl | rfl <;> rfl)
          have h3 : (m : Int) < 11 := by omega
          have h4 : ((m : Int) == 11) = false := by rw [beq_eq_false_iff_ne]; omega
          go_upto_region 7 with fail
          go_quiet (fail)
          go_wp2
          exact ⟨⟨z, last, i + 1, out, rfl, rfl, rfl, rfl, by go_num, by omega, hlS, by omega, hnx, Lib.hid (hbf.out.below (bdrewN (brf wr) _)), bdrewN hb _⟩, by simp only [intOf]; omega⟩
    · rcases (show i = S.length ∨ i = S.length + 1 by omega) with rfl | rfl
      · have hnx := Lib.hid hrd.out.past
        have HN := Lib.hid fun n => lookNil_any gr (wr.drewN n) (hBt.below (bdrewN (brf wr) n))
        have HI := Lib.hid hrd
        clear hrd hBt hg ht
        go_wp2_with fail
        refine (HN.out 0).mono ?_
        rintro e w2 ⟨rfl, hb2⟩
        go_wp2
        exact ⟨⟨z, last, S.length + 1, out, rfl, rfl, rfl, rfl, by go_num, by omega, hlS, by omega, hnx, Lib.hid (hbf.out.below hb2), hb.trans (hb2.mono (show B ≤ wr.heap.size by omega))⟩, by simp only [intOf]; omega⟩
      · have hfin := Lib.hid hrd.out.done
        clear hrd hBt hg ht
        have i1 : ¬ ((S.length : Int) + 1 ≤ (S.length : Int)) := by omega
        by_cases hll : last = S.length
        · have l1 : ((last : Int) != (S.length : Int)) = false := by rw [hll]; simp
          go_wp2
          refine bodyPost_ret (v := .tuple #[.int .i64 z, .nilIface]) (by simp [results, Tryz.results302, go_sem]) rfl ⟨⟨z, rfl⟩, ?_, hb⟩
          have e := hfin.out
          rw [hll, List.drop_length, List.append_nil] at e
          rw [e]
          exact hbf.out
        · have l1 : ((last : Int) != (S.length : Int)) = true := by rw [bne_iff_ne]; omega
          have hA : ∀ w', BufAt B gb w' out → B ≤ w'.heap.size → Calls Tryz.prog 311 #[ptr gb, .string ((⟨S.toArray⟩ : ByteArray).extract last S.length)] w' fun e w'' => e = .returned (.tuple #[.int .i64 (S.drop last).length, .nilIface]) ∧ BufAt B gb w'' (readE S) ∧ Below B w' w'' := fun w' h1 h2 => by
            rw [show (⟨S.toArray⟩ : ByteArray).extract last S.length = ⟨(S.drop last).toArray⟩ by rw [ext_str, List.take_length], hfin.out]
            exact asw_str B gb out (S.drop last) w' h1 (by simp; omega) h2 hgb
          obtain ⟨m, hm⟩ : ∃ m, (S.drop last).length = m := ⟨_, rfl⟩
          rw [hm] at hA
          have HA := Lib.hid hA
          clear hA hm
          go_upto_region 23 with fail
          refine wp_region_held (S := fun _ => True) (by kernel_rfl) ?_
          refine wpAnyH_takeD 0 118 (v := ?_) rfl rfl (by kernel_rfl) (by kernel_rfl) (by kernel_rfl) (fun _ _ _ h => h) (Or.inl ⟨by rfl, ?_⟩) trivial ?_
          rotate_left
          · (intro w' hw'; (try dsimp only at hw'); go_simp; try with_reducible rfl)
          simp only [List.set_cons_zero, List.set_cons_succ]
          refine wpAnyH_takeD 1 119 (v := ?_) rfl rfl (by kernel_rfl) (by kernel_rfl) (by kernel_rfl) (fun _ _ _ h => h) (Or.inl ⟨by rfl, ?_⟩) trivial ?_
          rotate_left
          · (intro w' hw'; (try dsimp only at hw'); go_simp; try with_reducible rfl)
          simp only [List.set_cons_zero, List.set_cons_succ]
          refine wpAnyH_takeD 2 120 (v := ?_) rfl rfl (by kernel_rfl) (by kernel_rfl) (by kernel_rfl) (fun _ _ _ h => h) (Or.inl ⟨by rfl, ?_⟩) trivial ?_
          rotate_left
          · (intro w' hw'; (try dsimp only at hw'); go_simp; try with_reducible rfl)
          simp only [List.set_cons_zero, List.set_cons_succ]
          refine wpAnyH_takeD 3 121 (v := ?_) rfl rfl (by kernel_rfl) (by kernel_rfl) (by kernel_rfl) (fun _ _ _ h => h) (Or.inl ⟨by rfl, ?_⟩) trivial ?_
          rotate_left
          · (intro w' hw'; (try dsimp only at hw'); go_simp; try with_reducible rfl)
          simp only [List.set_cons_zero, List.set_cons_succ]
          refine wpAnyH_takeD 4 122 (v := ?_) rfl rfl (by kernel_rfl) (by kernel_rfl) (by kernel_rfl) (fun _ _ _ h => h) (Or.inl ⟨by rfl, ?_⟩) trivial ?_
          rotate_left
          · (intro w' hw'; (try dsimp only at hw'); go_simp; try with_reducible rfl)
          simp only [List.set_cons_zero, List.set_cons_succ]
          refine wpAnyH_takeD 5 123 (v := ?_) rfl rfl (by kernel_rfl) (by kernel_rfl) (by kernel_rfl) (fun _ _ _ h => h) (Or.inl ⟨by rfl, ?_⟩) trivial ?_
          rotate_left
          · (intro w' hw'; (try dsimp only at hw'); go_simp; rw [nilW]; rfl)
          simp only [List.set_cons_zero, List.set_cons_succ]
          refine wpAnyH_takeD 6 124 (v := ?_) rfl rfl (by kernel_rfl) (by kernel_rfl) (by kernel_rfl) (fun _ _ _ h => h) (Or.inl ⟨by rfl, ?_⟩) trivial ?_
          rotate_left
          · (intro w' hw'; (try dsimp only at hw'); go_simp; try with_reducible rfl)
          simp only [List.set_cons_zero, List.set_cons_succ]
          refine wpAnyH_step 7 rfl (by kernel_rfl) (fun K' hK' => ?_)
          rw [if_pos (by rfl)]
          go_simp
          rw [methodW]
          go_simp
          refine (HA.out _ hbf.out.drew (show B ≤ wr.heap.size by omega)).mono ?_
          rintro e w3 ⟨rfl, hbf3, hb3⟩
          dsimp only
          refine hK'.out _ _ trivial ?_
          clear hK' K'
          refine wpAnyH_takeD 8 117 (v := ?_) rfl rfl (by kernel_rfl) (by kernel_rfl) (by kernel_rfl) (fun _ _ _ h => h) (Or.inl ⟨by rfl, ?_⟩) trivial ?_
          rotate_left
          · (intro w' hw'; (try dsimp only at hw'); go_simp; try with_reducible rfl)
          simp only [List.set_cons_zero, List.set_cons_succ]
          refine wpAnyH_takeD 9 126 (v := ?_) rfl rfl (by kernel_rfl) (by kernel_rfl) (by kernel_rfl) (fun _ _ _ h => h) (Or.inl ⟨by rfl, ?_⟩) trivial ?_
          rotate_left
          · (intro w' hw'; (try dsimp only at hw'); go_simp; try with_reducible rfl)
          simp only [List.set_cons_zero, List.set_cons_succ]
          refine wpAnyH_takeD 10 127 (v := ?_) rfl rfl (by kernel_rfl) (by kernel_rfl) (by kernel_rfl) (fun _ _ _ h => h) (Or.inl ⟨by rfl, ?_⟩) trivial ?_
          rotate_left
          · (intro w' hw'; (try dsimp only at hw'); go_simp; try with_reducible rfl)
          simp only [List.set_cons_zero, List.set_cons_succ]
          refine wpAnyH_takeD 11 10 (v := ?_) rfl rfl (by kernel_rfl) (by kernel_rfl) (by kernel_rfl) (fun _ _ _ h => h) (Or.inl ⟨by rfl, ?_⟩) trivial ?_
          rotate_left
          · (intro w' hw'; (try dsimp only at hw'); go_simp; try with_reducible rfl)
          simp only [List.set_cons_zero, List.set_cons_succ]
          refine wpAnyH_takeD 12 7 (v := ?_) rfl rfl (by kernel_rfl) (by kernel_rfl) (by kernel_rfl) (fun _ _ _ h => h) (Or.inl ⟨by rfl, ?_⟩) trivial ?_
          rotate_left
          · (intro w' hw'; (try dsimp only at hw'); go_simp; try with_reducible rfl)
          simp only [List.set_cons_zero, List.set_cons_succ]
          refine wpAnyH_done (by kernel_rfl) ?_ _
          go_wp2
          exact bodyPost_ret (v := .tuple #[.int .i64 (wrap64 (z + m)), .nilIface]) (by simp [results, Tryz.results302, go_sem]) rfl ⟨⟨_, rfl⟩, hbf3, hb.drew.trans hb3⟩
end Go.Proofs.YteikncnldbdfmaaGreatDoor
/- strings.Replacer.Replace and the reference ReadSo. -/
namespace Go.Proofs.YteikncnldbdfmaaGreatDoor
open Go.RowKit Go.Mh

theorem conv_nil (w : World) : (convert 356 9 (.slice none 0 0)).run Tryz.prog w = .ok (str []) w := by kernel_rfl
/-- What the writer holds, as a string. -/
theorem conv_buf {B n : Nat} {w : World} {bv : Value} {out : Bs} (h : w.ownsRow B 5 1 bv n (Lib.byteCells out)) (hn : n = out.length) : (convert 356 9 bv).run Tryz.prog w = .ok (str out) w := by
  subst hn
  have hc := @World.ownsRow.cells _ _ _ _ _ _ _ h
  rcases h.2 with ⟨rfl, h0⟩ | ⟨g, cap, cur, rfl, _⟩
  · have : out = [] := List.length_eq_zero_iff.1 h0
    subst this
    exact conv_nil w
  · refine run_convert_bytes_back w 356 9 5 ⟨g, 0, none⟩ cap out Tryz.underlying356 Tryz.underlying5 Tryz.underlying9 fun j hj => ?_
    exact hc rfl j _ (by simp [Lib.byteCells, hj])

set_option maxRecDepth 1000000 in
set_option maxHeartbeats 4000000 in
theorem genReplace_any (gr : Nat) (S : Bs) (w : World) (hS : S.length ≤ 120000) (h : Built w gr) :
    Calls Tryz.prog 301 #[ptr gr, str S] w fun e w' => e = .returned (str (readE S)) ∧ Below w.heap.size w w' := by
  obtain ⟨i0, hi, hz0, hz1, hz2⟩ := info_parts aswInfo
  obtain ⟨w1, hmk, hown, hgrow⟩ := run_makeSlice_owned (w := w) w.heap.size 356 5 i0 _ 1 Tryz.underlying356 hi hz0 hz1 .i64 .i64 S.length (by omega) (by rw [hz2]; omega) (by unfold maxLen; omega) (Nat.le_refl _)
  have hb1 : Below w.heap.size w w1 := (Below.refl _ _).grown hgrow (Nat.le_refl _) (fun k hk => by cases hk)
  have hlt : w.heap.size < w1.heap.size := (hown.lt _ rfl).2
  have HO := Lib.hid hown
  have HB := Lib.hid h
  clear hown hgrow h hi hz0 hz1 hz2
  go_enter Tryz.func301, Tryz.ntmps301
  go_wp2_with fail
  have hA2 : Below w.heap.size w (w1.alloc (.cells #[.slice (some ⟨w.heap.size, 0, none⟩) 0 S.length] 356)) := hb1.alloc (Nat.le_of_lt hlt) _
  have hbuf : BufAt w.heap.size w1.heap.size (w1.alloc (.cells #[.slice (some ⟨w.heap.size, 0, none⟩) 0 S.length] 356)) [] := by
    refine ⟨_, heap_new _ _, owns_below HO.out ((brf w1).alloc (Nat.le_refl _) _), ?_⟩
    intro e
    simp [Value.ownBlock] at e
    omega
  refine (genWrite_any w.heap.size gr w1.heap.size S _ hS (fun w' hw => HB.out.below (hA2.trans hw)) hA2.size (Nat.le_of_lt hlt) hbuf).mono ?_
  rintro e w3 ⟨⟨z, rfl⟩, ⟨bv, hbk, hown, _⟩, hb3⟩
  have c0 := cellAt' (i := 0) (v := bv) hbk rfl
  have cv := conv_buf hown rfl
  have hb3' := hA2.trans hb3
  clear hbuf hb3 hown hmk hA2
  go_wp2
  go_ret
  exact ⟨rfl, hb3'⟩

theorem methodR (n b : Nat) (w : World) : Sem.run Tryz.prog (method (n + 1) 303 (ptr b) "Replace") w = .ok (301, ptr b) w := by kernel_rfl
set_option maxRecDepth 1000000 in
set_option maxHeartbeats 4000000 in
theorem replReplace_any (rb b cap : Nat) (S : Bs) (w : World) (hS : S.length ≤ 120000) (h : ReplAt w rb 0 0 .nilIface (.slice (some ⟨b, 0, none⟩) 8 cap)) (hb : b < w.heap.size) (hp : Pairs w b) (hrb : b ≠ rb) :
    Calls Tryz.prog 188 #[ptr rb, str S] w fun e w' => e = .returned (str (readE S)) ∧ Stays rb w w' := by
  have C := Lib.hid (replDo_any rb b cap w h hb hp hrb)
  have mR := methodR
  clear h hp
  go_enter Tryz.func188, Tryz.ntmps188
  go_wp2_with fail
  refine C.out.mono ?_
  rintro e w2 ⟨rfl, gr, hR, hlt, hB, hst⟩
  have c1 := cellAt' (i := 3) (v := ifaceR gr) hR rfl
  go_wp2_with (first | rw [methodR] | fail)
  refine (genReplace_any gr S w2 hS hB).mono ?_
  rintro e w3 ⟨rfl, hb3⟩
  go_wp2
  go_ret
  exact ⟨rfl, hst.trans (Stays.of hb3 (Nat.le_of_lt (lt_of_heap hR)))⟩

set_option maxRecDepth 1000000 in
set_option maxHeartbeats 4000000 in
theorem readSo_any (S : Bs) (w : World) (hS : S.length ≤ 120000) :
    Calls Tryz.prog 134 #[str S] w fun e w' => e = .returned (str (readE S)) ∧ Below w.heap.size w w' := by
  go_enter Tryz.func134, Tryz.ntmps134
  go_wp2_with fail
  refine (newRepl_any (· = w.heap.size) _ _ (rs_lit (heap_new _ _))).mono ?_
  rintro e w2 ⟨rb, b, cap, rfl, hR, hp, hne, hrb, hb2⟩
  have hws : w.heap.size + 1 ≤ rb := by simpa using hrb
  have hb2' : Below w.heap.size w w2 := (bal (brf w) _).trans (hb2.mono (by simp))
  have C := Lib.hid (fun hbl => replReplace_any rb b cap S w2 hS hR hbl hp hne)
  clear hb2 hrb
  have hbl : b < w2.heap.size := by
    obtain ⟨h1, _⟩ := hp 0 eAmp [38] rfl rfl
    exact lt_of_cell h1
  go_wp2_with fail
  refine (C.out hbl).mono ?_
  rintro e w3 ⟨rfl, hst⟩
  go_wp2
  go_ret
  exact ⟨rfl, hb2'.trans (hst.bel.mono (by omega))⟩
end Go.Proofs.YteikncnldbdfmaaGreatDoor
