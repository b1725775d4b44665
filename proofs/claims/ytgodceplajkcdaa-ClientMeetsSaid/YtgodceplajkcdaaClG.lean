/- Package client: New; the laws' puts; the closed fact 'heard'. -/
import Derived.Test.YtgodceplajkcdaaClF
import Derived.Test.YtgodceplajkcdaaOpened
import Derived.Deep.RegionWith
namespace Go.Mh
open Go.RowKit
def putsP (c : UInt8) (k n : Int) : List Pt := [⟨1, k, [], 0, 0, false, []⟩, ⟨2, 0, [⟨c, 0, []⟩], 0, 0, false, []⟩, ⟨1, n - k, [], 0, 0, false, []⟩]
def newC (d : List It) : Cl × Int := if chkDoc d ≠ 0 then (cl0, chkDoc d) else (⟨0, d, d, 0, [], [], true⟩, 0)
end Go.Mh
namespace Go.Proofs.Ytgodceplajkcdaa
open Go.RowKit Go.Mh

set_option maxRecDepth 100000 in
set_option maxHeartbeats 2000000 in
theorem puts_any (c : UInt8) (k n : Int) (hn : IntKind.i64.wrap (n - k) = n - k) (w : World) :
    Calls Try.prog 110 #[.int .u8 c.toNat, .int .i64 k, .int .i64 n] w fun e w' => ∃ r, e = .returned r ∧ ROp (w.heap.size ≤ ·) w' r (putsP c k n) ∧ Below w.heap.size w w' := by
  go_enter Try.func110, Try.ntmps110
  go_wp2
  go_ret
  refine ⟨_, rfl, ?_, (bal (brf w) _).alloc (by simp) _⟩
  have hg := heap_new (w.alloc (.cells #[.int .u8 c.toNat, .int .i64 0, .string ⟨#[]⟩] 42)) (.cells #[.int .i64 1, .int .i64 k, .slice none 0 0, .int .i64 0, .int .i64 0, .bool false, .string ⟨#[]⟩, .int .i64 2, .int .i64 0, .slice (some ⟨w.heap.size, 0, none⟩) 1 1, .int .i64 0, .int .i64 0, .bool false, .string ⟨#[]⟩, .int .i64 1, .int .i64 (n - k), .slice none 0 0, .int .i64 0, .int .i64 0, .bool false, .string ⟨#[]⟩] 57)
  have hz : (w.alloc (.cells #[.int .u8 c.toNat, .int .i64 0, .string ⟨#[]⟩] 42)).heap.size = w.heap.size + 1 := by simp
  rw [hz] at hg
  refine ROp.lit hg rfl (by decide) (by decide) (Nat.le_succ _) (fun i x hi => ?_)
  match i, hi with
  | 0, hi => simp [putsP] at hi; subst hi; exact ⟨_, RdS.nil, rfl, rfl, rfl, rfl, rfl, rfl, rfl⟩
  | 1, hi =>
    simp [putsP] at hi; subst hi
    refine ⟨_, ?_, rfl, rfl, rfl, rfl, rfl, rfl, rfl⟩
    refine RItems.lit (((bal (brf _) _).block _ (by simp)).trans (heap_new w _)) rfl (by decide) (by decide) (Nat.le_refl _) (fun i x hi => ?_)
    match i, hi with
    | 0, hi => simp at hi; subst hi; exact ⟨rfl, rfl, rfl⟩
    | n + 1, hi => simp at hi
  | 2, hi => simp [putsP] at hi; subst hi; exact ⟨_, RdS.nil, rfl, rfl, rfl, rfl, rfl, rfl, rfl⟩
  | n + 3, hi => simp [putsP] at hi

set_option maxRecDepth 100000 in
set_option maxHeartbeats 2000000 in
theorem clNew_any (F : Nat → Prop) (v : Value) (d : List It) (w : World) (h : RItems F w v d) :
    Calls Try.prog 66 #[v] w fun e w' => ∃ v', e = .returned (.tuple #[v', .int .i64 (newC d).2]) ∧ RCl (fun _ => True) w' v' (newC d).1 ∧ Below w.heap.size w w' := by
  have h := RItems.to h (Kp.lt w)
  obtain ⟨a, cc, rfl, _⟩ := RdS.len h
  obtain ⟨w1, hw1⟩ : ∃ w1, w1 = w.alloc clZero := ⟨_, rfl⟩
  have hb1 : Below w.heap.size w w1 := by rw [hw1]; exact bal (brf w) _
  have hG := Lib.hid (by rw [hw1]; exact heap_at rfl : w1.heap[w.heap.size]? = some clZero)
  have H := Lib.hid h
  clear h
  have hres : ∃ r, Hid (newC d = r) := ⟨_, Lib.hid rfl⟩
  obtain ⟨⟨R1, R2⟩, hres⟩ := hres
  rw [hres.out]
  go_enter Try.func66, Try.ntmps66
  go_upto_region 1 with fail
  rw [← hw1]
  clear hw1
  go_wp2_with fail
  refine (check_any _ _ d w1 (RItems.to H.out (Kp.below hb1))).mono ?_
  rintro e w2 ⟨rfl, hb2⟩
  have hz := lt_of_heap hG.out
  have hB2 := hb1.trans (hb2.mono hb1.size)
  have hG2 := Lib.hid ((hb2.block _ hz).trans hG.out)
  clear hG hb1 hb2 hz
  by_cases hk : chkDoc d = 0
  · have hr := hres.out
    rw [newC, if_neg (by simpa using hk)] at hr
    cases hr
    have hl : d.length ≤ 100000 := by have := (chkDoc_ok hk).2; omega
    rw [hk]
    clear hk hres
    go_wp2_with fail
    refine (cloneDoc_any _ _ d w2 (RItems.to H.out (Kp.below hB2)) hl).mono ?_
    rintro e w3 ⟨u3, rfl, hu3, hb3⟩
    have hB3 := hB2.trans (hb3.mono hB2.size)
    have hz2 := lt_of_heap hG2.out
    have hG3 := Lib.hid ((hb3.block _ hz2).trans hG2.out)
    have U3 := Lib.hid hu3.rd
    clear hu3 hG2
    go_wp2_with fail
    refine (cloneDoc_any _ _ d w3 (RItems.to H.out (Kp.below hB3)) hl).mono ?_
    rintro e w4 ⟨u4, rfl, hu4, hb4⟩
    have hB4 := hB3.trans (hb4.mono hB3.size)
    have hz3 := lt_of_heap hG3.out
    have hG4 := Lib.hid ((hb4.block _ hz3).trans hG3.out)
    have U4 := Lib.hid hu4.rd
    have U3' := Lib.hid (RItems.to U3.out (Kp.below hb4))
    obtain ⟨a3, c3, rfl, _⟩ := RdS.len U3.out
    obtain ⟨a4, c4, rfl, _⟩ := RdS.len U4.out
    have hfz2 : ∀ i, w4.frozen? ⟨w.heap.size, i, none⟩ = false := fun i => Lib.frozen_of_heap hG4.out _
    have hz4 := lt_of_heap hG4.out
    obtain ⟨y0, y1, y2, y3, y4, y5, y6⟩ := P7.of hG4.out
    clear hu4 U3 hG3 hB2 hB3
    go_wp2
    obtain ⟨q1, q2⟩ := set7z hG4.out (.int .i64 0) (.slice a3 d.length c3) (.slice a4 d.length c4) (.int .i64 0) (.slice none 0 0) (.slice none 0 0) (.bool true)
    generalize hwz : (((((((w4.setCell ⟨w.heap.size, 0, none⟩ _).setCell ⟨w.heap.size, 1, none⟩ _).setCell ⟨w.heap.size, 2, none⟩ _).setCell ⟨w.heap.size, 3, none⟩ _).setCell ⟨w.heap.size, 4, none⟩ _).setCell ⟨w.heap.size, 5, none⟩ _).setCell ⟨w.heap.size, 6, none⟩ _) = wz at *
    obtain ⟨z0, z1, z2, z3, z4, z5, z6⟩ := P7.of q1
    exact bodyPost_ret (v := .tuple #[.agg #[.int .i64 0, .slice a3 d.length c3, .slice a4 d.length c4, .int .i64 0, .slice none 0 0, .slice none 0 0, .bool true], .int .i64 0]) (by simp [results, Try.results66, go_sem, z0, z1, z2, z3, z4, z5, z6]) rfl ⟨_, rfl, ⟨_, _, _, _, rfl, RItems.to U3'.out (fun i hi hl' => ⟨trivial, q2.same i hl' (by omega)⟩), RItems.to U4.out (fun i hi hl' => ⟨trivial, q2.same i hl' (by omega)⟩), RdS.nil, RdS.nil⟩, hB4.trans (q2.bel.mono (Nat.le_refl _))⟩
  · have hr := hres.out
    rw [newC, if_pos hk] at hr
    cases hr
    have hk' : (chkDoc d != 0) = true := by simpa using hk
    have hfz2 : ∀ i, w2.frozen? ⟨w.heap.size, i, none⟩ = false := fun i => Lib.frozen_of_heap hG2.out _
    have hz2 := lt_of_heap hG2.out
    obtain ⟨y0, y1, y2, y3, y4, y5, y6⟩ := P7.of hG2.out
    clear hk hres
    go_wp2
    obtain ⟨q1, q2⟩ := set7z hG2.out (.int .i64 0) (.slice none 0 0) (.slice none 0 0) (.int .i64 0) (.slice none 0 0) (.slice none 0 0) (.bool false)
    generalize hwz : (((((((w2.setCell ⟨w.heap.size, 0, none⟩ _).setCell ⟨w.heap.size, 1, none⟩ _).setCell ⟨w.heap.size, 2, none⟩ _).setCell ⟨w.heap.size, 3, none⟩ _).setCell ⟨w.heap.size, 4, none⟩ _).setCell ⟨w.heap.size, 5, none⟩ _).setCell ⟨w.heap.size, 6, none⟩ _) = wz at *
    obtain ⟨z0, z1, z2, z3, z4, z5, z6⟩ := P7.of q1
    exact bodyPost_ret (v := .tuple #[.agg #[.int .i64 0, .slice none 0 0, .slice none 0 0, .int .i64 0, .slice none 0 0, .slice none 0 0, .bool false], .int .i64 (chkDoc d)]) (by simp [results, Try.results66, go_sem, z0, z1, z2, z3, z4, z5, z6]) rfl ⟨_, rfl, RCl.zero, hB2.trans (q2.bel.mono (Nat.le_refl _))⟩
end Go.Proofs.Ytgodceplajkcdaa
