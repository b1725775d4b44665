/- strings.genericReplacer.lookup: what stands ahead. -/
import Derived.Test.YtkekjddkbmmckaaGreatReplN
import Derived.Test.YtkekjddkbmmckaaGreatTok
namespace Go.Mh
open Go.RowKit
def lookR (r : Bs) : Bs × Nat × Bool := if (first1 38 r).2 = 0 then ([], 0, false) else ([(first1 38 r).1], (first1 38 r).2 + 1, true)
theorem numK_else_fin : ∀ n : Fin 256, n.val ≠ 97 → n.val ≠ 103 → n.val ≠ 108 → n.val ≠ 113 → numK n.val = 11 ∨ numK n.val ∈ [0, 1, 5, 6, 7, 9, 10] := by decide +kernel
theorem numK_else (d : UInt8) (h1 : d ≠ 97) (h2 : d ≠ 103) (h3 : d ≠ 108) (h4 : d ≠ 113) : numK d.toNat = 11 ∨ numK d.toNat ∈ [0, 1, 5, 6, 7, 9, 10] := by
  have n : ∀ c : UInt8, d ≠ c → d.toNat ≠ c.toNat := fun c h e => h (UInt8.toNat_inj.1 e)
  exact numK_else_fin ⟨d.toNat, d.toNat_lt⟩ (n 97 h1) (n 103 h2) (n 108 h3) (n 113 h4)
theorem first1_else (d : UInt8) (r : Bs) (h1 : d ≠ 97) (h2 : d ≠ 103) (h3 : d ≠ 108) (h4 : d ≠ 113) : first1 38 (d :: r) = (38, 0) := by
  have e : ∀ c : UInt8, d ≠ c → (c == d) = false := fun c h => by simpa using fun e => h e.symm
  simp [first1, eAmp, eLt, eGt, eQuot, List.isPrefixOf, e 97 h1, e 103 h2, e 108 h3, e 113 h4]
theorem first1_nil : first1 38 [] = (38, 0) := rfl
theorem first1_a (r : Bs) : first1 38 (97 :: r) = if List.isPrefixOf [109, 112, 59] r = true then (38, 4) else (38, 0) := by
  simp [first1, eAmp, eLt, eGt, eQuot, List.isPrefixOf]
theorem first1_l (r : Bs) : first1 38 (108 :: r) = if List.isPrefixOf [116, 59] r = true then (60, 3) else (38, 0) := by
  simp [first1, eAmp, eLt, eGt, eQuot, List.isPrefixOf]
theorem first1_g (r : Bs) : first1 38 (103 :: r) = if List.isPrefixOf [116, 59] r = true then (62, 3) else (38, 0) := by
  simp [first1, eAmp, eLt, eGt, eQuot, List.isPrefixOf]
theorem first1_q (r : Bs) : first1 38 (113 :: r) = if List.isPrefixOf [117, 111, 116, 59] r = true then (34, 5) else (38, 0) := by
  simp [first1, eAmp, eLt, eGt, eQuot, List.isPrefixOf]
end Go.Mh
namespace Go.Proofs.YtkekjddkbmmckaaGreat
open Go.RowKit Go.Mh

set_option maxRecDepth 1000000 in
set_option maxHeartbeats 8000000 in
theorem lookNil_any (gr : Nat) (w : World) (h : Built w gr) :
    Calls Tryz.prog 109 #[ptr gr, str [], .bool false] w fun e w' => e = .returned (.tuple #[str [], .int .i64 0, .bool false]) ∧ Below w.heap.size w w' := by
  obtain ⟨T0, hg, ht⟩ := h.ex
  have r1 := hg.lo (i := 1) (v := .int .i64 0) (by decide) rfl
  clear h hg ht
  go_enter Tryz.func109, Tryz.ntmps109
  go_upto_region 4 with fail
  refine wp_loop_rounds 2 ?_
  rw [rounds_succ]
  go_wp2
  exact bodyPost_ret (v := .tuple #[str [], .int .i64 0, .bool false]) (by simp [results, Tryz.results109, go_sem]) rfl ⟨rfl, Below.refl _ _⟩

/-- What follows a node that has one way on. -/
theorem look3 {B X : Nat} {k v : Bs} {p : Int} {w : World} (h : Leaf w B X k v p) : w.cell? ⟨X, 1, none⟩ = some (.int .i64 0) ∧ w.cell? ⟨X, 2, none⟩ = some (str k) ∧ w.cell? ⟨X, 4, none⟩ = some nilS ∧ ∃ N, w.cell? ⟨X, 3, none⟩ = some (ptr N) ∧ w.cell? ⟨N, 0, none⟩ = some (str v) ∧ w.cell? ⟨N, 1, none⟩ = some (.int .i64 p) ∧ w.cell? ⟨N, 2, none⟩ = some (str []) ∧ w.cell? ⟨N, 4, none⟩ = some nilS := by
  obtain ⟨N, h1, h2, _, _⟩ := h
  exact ⟨cellAt' h1 rfl, cellAt' h1 rfl, cellAt' h1 rfl, N, cellAt' h1 rfl, cellAt' h2 rfl, cellAt' h2 rfl, cellAt' h2 rfl, cellAt' h2 rfl⟩

set_option maxRecDepth 1000000 in
set_option maxHeartbeats 8000000 in
theorem look_any (gr : Nat) (r : Bs) (w : World) (h : Built w gr) (hr : r.length ≤ 140737488355328) :
    Calls Tryz.prog 109 #[ptr gr, str (38 :: r), .bool false] w fun e w' => e = .returned (.tuple #[str (lookR r).1, .int .i64 (lookR r).2.1, .bool (lookR r).2.2]) ∧ Below w.heap.size w w' := by
  obtain ⟨T0, hg, ht⟩ := h.ex
  have r1 := hg.lo (i := 1) (v := .int .i64 0) (by decide) rfl
  have r4 := hg.lo (i := 4) (v := tab T0) (by decide) rfl
  have r5 := hg.lo (i := 5) (v := .int .i64 11) (by decide) rfl
  have rm : ∀ c : UInt8, w.cell? ⟨gr, 6 + c.toNat, none⟩ = some (.int .u8 (numK c.toNat)) := fun c => hg.cell c.toNat_lt
  have m38 := rm 38
  have n38 : numK ((38 : UInt8).toNat) = 0 := num38.1
  rw [n38] at m38
  obtain ⟨A, T, P, K, G, Q, hT0, hA, bA, hT, lP, lK, lG, lQ⟩ := ht
  have t0 := cellAt' (i := 0) (v := ptr A) hT0.1 rfl
  have a1 := cellAt' (i := 1) (v := .int .i64 0) hA rfl
  have a4 := cellAt' (i := 4) (v := tab T) hA rfl
  obtain ⟨c0, hc0⟩ : ∃ c0 : UInt8, (38 : UInt8) = c0 := ⟨_, rfl⟩
  rw [hc0] at m38 ⊢
  clear hc0
  have u0 := str_get (l := c0 :: r) (k := 0) (c := c0) rfl
  have b0 : (c0.toNat : Int) < 256 := by have := c0.toNat_lt; omega
  have s0 : Value.string ((⟨(c0 :: r).toArray⟩ : ByteArray).extract 1 (r.length + 1)) = str r := str_tail c0 r
  have way : ∀ d r2, r = d :: r2 → (∃ (m X : Nat) (k v : Bs) (p : Int), w.cell? ⟨gr, 6 + d.toNat, none⟩ = some (.int .u8 m) ∧ m < 11 ∧ w.cell? ⟨T, m, none⟩ = some (ptr X) ∧ Leaf w (gr + 1) X k v p ∧ 0 < p ∧ k ≠ [] ∧ k.length ≤ 5 ∧ lookR r = if k.isPrefixOf r2 = true then (v, 2 + k.length, true) else ([], 0, false)) ∨
      (w.cell? ⟨gr, 6 + d.toNat, none⟩ = some (.int .u8 11) ∧ lookR r = ([], 0, false)) ∨ (∃ m : Nat, w.cell? ⟨gr, 6 + d.toNat, none⟩ = some (.int .u8 m) ∧ m < 11 ∧ w.cell? ⟨T, m, none⟩ = some nilP ∧ lookR r = ([], 0, false)) := fun d r2 hr2 => by
    subst hr2
    by_cases h1 : d = 97
    · subst h1
      refine Or.inl ⟨2, P, _, _, _, (rm 97).trans (congrArg (fun n : Nat => some (Value.int .u8 (n : Int))) (show numK 97 = 2 from num38.2.1)), by decide, cellAt' hT.1 rfl, lP, by decide, by simp, by decide, ?_⟩
      unfold lookR; rw [first1_a]; split <;> simp
    by_cases h2 : d = 103
    · subst h2
      refine Or.inl ⟨3, G, _, _, _, (rm 103).trans (congrArg (fun n : Nat => some (Value.int .u8 (n : Int))) (show numK 103 = 3 from num38.2.2.1)), by decide, cellAt' hT.1 rfl, lG, by decide, by simp, by decide, ?_⟩
      unfold lookR; rw [first1_g]; split <;> simp
    by_cases h3 : d = 108
    · subst h3
      refine Or.inl ⟨4, K, _, _, _, (rm 108).trans (congrArg (fun n : Nat => some (Value.int .u8 (n : Int))) (show numK 108 = 4 from num38.2.2.2.1)), by decide, cellAt' hT.1 rfl, lK, by decide, by simp, by decide, ?_⟩
      unfold lookR; rw [first1_l]; split <;> simp
    by_cases h4 : d = 113
    · subst h4
      refine Or.inl ⟨8, Q, _, _, _, (rm 113).trans (congrArg (fun n : Nat => some (Value.int .u8 (n : Int))) (show numK 113 = 8 from num38.2.2.2.2)), by decide, cellAt' hT.1 rfl, lQ, by decide, by simp, by decide, ?_⟩
      unfold lookR; rw [first1_q]; split <;> simp
    have hl : lookR (d :: r2) = ([], 0, false) := by unfold lookR; rw [first1_else d r2 h1 h2 h3 h4]; rfl
    rcases numK_else d h1 h2 h3 h4 with e | e
    · exact Or.inr (Or.inl ⟨(rm d).trans (by rw [e]; rfl), hl⟩)
    · refine Or.inr (Or.inr ⟨numK d.toNat, rm d, ?_, ?_, hl⟩)
      · simp at e; omega
      · simp at e
        rcases e with e | e | e | e | e | e | e <;> rw [e] <;> exact cellAt' hT.1 rfl
  have hway := Lib.hid way
  clear way rm hg h hT0 hA bA hT lP lK lG lQ
  have k1 : (1 : Int) ≤ (r.length : Int) + 1 := by omega
  go_enter Tryz.func109, Tryz.ntmps109
  go_upto_region 4 with fail
  refine wp_loop_rounds 5 ?_
  rw [rounds_succ]
  go_upto_region 12 with fail
  go_quiet (fail)
  go_wp2
  cases r with
  | nil =>
    rw [rounds_succ]
    go_wp2
    exact bodyPost_ret (v := .tuple #[str [], .int .i64 0, .bool false]) (by simp [results, Tryz.results109, go_sem]) rfl ⟨rfl, bdrewN (brf w) _⟩
  | cons d r2 =>
    have u1 := str_get (l := d :: r2) (k := 0) (c := d) rfl
    have b1 : (d.toNat : Int) < 256 := by have := d.toNat_lt; omega
    have s1 : Value.string ((⟨(d :: r2).toArray⟩ : ByteArray).extract 1 (r2.length + 1)) = str r2 := str_tail d r2
    have k2 : (1 : Int) ≤ (r2.length : Int) + 1 := by omega
    rcases hway.out d r2 rfl with ⟨m, X, k, v, p, g1, g2, g3, g4, g5, g6, g7, g8⟩ | ⟨g1, g8⟩ | ⟨m, g1, g2, g3, g8⟩
    · have hl := Lib.hid g8
      clear g8 hway
      have g2' : (m : Int) < 11 := by omega
      have g2'' : ((m : Int) == 11) = false := by rw [beq_eq_false_iff_ne]; omega
      obtain ⟨x1, x2, x4, N, x3, y0, y1, y2, y4⟩ := look3 g4
      clear g4
      rw [rounds_succ]
      go_upto_region 12 with fail
      go_quiet (fail)
      go_wp2
      rw [rounds_succ]
      have kE : k.isEmpty = false := by cases k with
        | nil => exact absurd rfl g6
        | cons _ _ => rfl
      have hp := Lib.hid (fun w' => Tryz.strings_HasPrefix ⟨r2.toArray⟩ ⟨k.toArray⟩ w')
      have p0 : decide ((0 : Int) < p) = true := by simpa using g5
      cases hpx : k.isPrefixOf r2 with
      | false =>
        rw [hpx, if_neg (by simp)] at hl
        cases hr2 : r2.isEmpty with
        | true =>
          obtain rfl : r2 = [] := by simpa using hr2
          go_wp2
          rw [hl.out]
          exact bodyPost_ret (v := .tuple #[str [], .int .i64 0, .bool false]) (by simp [results, Tryz.results109, go_sem]) rfl ⟨rfl, bdrewN (brf w) _⟩
        | false =>
          have hpb : Lib.hasPrefix (⟨r2.toArray⟩ : ByteArray).data.toList (⟨k.toArray⟩ : ByteArray).data.toList = false := hpx
          rw [hpb] at hp
          go_wp2_with fail
          refine (hp.out _).mono ?_
          rintro e w1 ⟨rfl, rfl⟩
          go_wp2
          rw [hl.out]
          exact bodyPost_ret (v := .tuple #[str [], .int .i64 0, .bool false]) (by simp [results, Tryz.results109, go_sem]) rfl ⟨rfl, bdrewN (brf w) _⟩
      | true =>
        rw [hpx, if_pos rfl] at hl
        have hpb : Lib.hasPrefix (⟨r2.toArray⟩ : ByteArray).data.toList (⟨k.toArray⟩ : ByteArray).data.toList = true := hpx
        rw [hpb] at hp
        obtain ⟨rest, hrest⟩ := List.isPrefixOf_iff_prefix.1 hpx
        have hne : r2.isEmpty = false := by
          rw [← hrest]; cases k with
          | nil => exact absurd rfl g6
          | cons _ _ => rfl
        have hlen : k.length ≤ r2.length := by rw [← hrest]; simp
        have hdrop : Value.string ((⟨r2.toArray⟩ : ByteArray).extract k.length r2.length) = str rest := by rw [str_from, ← hrest, List.drop_left]
        have hlen' : (k.length : Int) ≤ (r2.length : Int) := by omega
        have hR := Lib.hid hrest
        clear hrest hpx hpb
        go_wp2_with fail
        refine (hp.out _).mono ?_
        rintro e w1 ⟨rfl, rfl⟩
        go_wp2
        rw [rounds_succ]
        have hcast : ((2 + k.length : Nat) : Int) = 2 + (k.length : Int) := by omega
        cases rest with
        | nil =>
          go_wp2
          rw [hl.out]
          simp only [hcast]
          exact bodyPost_ret (v := .tuple #[str v, .int .i64 (2 + (k.length : Int)), .bool true]) (by simp [results, Tryz.results109, go_sem]) rfl ⟨rfl, bdrewN (brf w) _⟩
        | cons z rest =>
          go_wp2
          rw [hl.out]
          simp only [hcast]
          exact bodyPost_ret (v := .tuple #[str v, .int .i64 (2 + (k.length : Int)), .bool true]) (by simp [results, Tryz.results109, go_sem]) rfl ⟨rfl, bdrewN (brf w) _⟩
    · have hl := Lib.hid g8
      clear g8 hway
      rw [rounds_succ]
      go_upto_region 12 with fail
      go_quiet (fail)
      go_wp2
      rw [hl.out]
      exact bodyPost_ret (v := .tuple #[str [], .int .i64 0, .bool false]) (by simp [results, Tryz.results109, go_sem]) rfl ⟨rfl, bdrewN (brf w) _⟩
    · have hl := Lib.hid g8
      have g2' : (m : Int) < 11 := by omega
      have g2'' : ((m : Int) == 11) = false := by rw [beq_eq_false_iff_ne]; omega
      clear g8 hway
      rw [rounds_succ]
      go_upto_region 12 with fail
      go_quiet (fail)
      go_wp2
      rw [rounds_succ]
      go_wp2
      rw [hl.out]
      exact bodyPost_ret (v := .tuple #[str [], .int .i64 0, .bool false]) (by simp [results, Tryz.results109, go_sem]) rfl ⟨rfl, bdrewN (brf w) _⟩
end Go.Proofs.YtkekjddkbmmckaaGreat
