/- The law OpNothing, walked. -/
import Derived.Test.YtgodceplajkcdaaOpened
import Derived.Test.YtgodceplajkcdaaLDocSays
namespace Go.Mh
theorem apply_ok {d : List It} {o : List Pt} (h : (applyP d o).2 = 0) : chkDoc d = 0 ∧ chkDoc (applyP d o).1 = 0 := by
  unfold applyP at h
  split at h
  · rename_i h1; exact absurd h h1
  · rename_i h1
    split at h
    · rename_i h2; exact absurd h h2
    · rename_i h2
      split at h
      · exact absurd h (by decide)
      · rename_i h3
        split at h
        · exact absurd h (by decide)
        · rename_i h4
          have ha : Applies d o := ⟨by simpa using h1, by simpa using h2, by simpa using h3, by omega⟩
          rw [ha.eq]
          exact ⟨by simpa using h1, ha.res.1⟩
end Go.Mh
namespace Go.Proofs.Ytgodceplajkcdaa
open Go.RowKit Go.Mh

/-- A literal operation that keeps n. -/
theorem rop_keep (n : Nat) (w : World) : ROp (w.heap.size ≤ ·) (w.alloc (.cells #[.int .i64 1, .int .i64 n, .slice none 0 0, .int .i64 0, .int .i64 0, .bool false, .string ⟨#[]⟩] 57)) (.slice (some ⟨w.heap.size, 0, none⟩) 1 1) (keepAll n) := by
  refine ROp.lit (heap_new w _) rfl (by decide) (by decide) (Nat.le_refl _) (fun i x hi => ?_)
  match i, hi with
  | 0, hi => simp [keepAll] at hi; subst hi; exact ⟨_, RdS.nil, rfl, rfl, rfl, rfl, rfl, rfl, rfl⟩
  | n + 1, hi => simp [keepAll] at hi

set_option maxRecDepth 100000 in
set_option maxHeartbeats 2000000 in
theorem opNothing_walk (F G : Nat → Prop) (v u : Value) (D : List It) (L : List Pt) (w : World) (h : RItems F w v D) (g : ROp G w u L) :
    Calls Try.prog 7 #[v, u] w fun e w' => e = .returned (.bool true) ∧ Below w.heap.size w w' := by
  have C1 := Lib.hid (opApply_any F G v u D L w h g)
  obtain ⟨a, cap, rfl, hn⟩ := RdS.len h
  have H := Lib.hid h; clear h g
  by_cases hap : (applyP D L).2 = 0
  · have hok := Lib.hid (apply_ok hap)
    rw [hap] at C1
    clear hap
    generalize (applyP D L).1 = E at *
    go_enter Try.func7, Try.ntmps7
    go_wp2_with fail
    refine C1.out.mono ?_
    rintro e w1 ⟨r1, rfl, hr1, hb1⟩
    obtain ⟨a1, c1, rfl, _⟩ := RdS.len hr1
    have hE := Lib.hid hr1
    clear hr1 C1
    go_wp2_with fail
    refine (opened_any w1).mono ?_
    rintro e w2 ⟨rfl, hb2⟩
    have hB2 := hb1.trans (hb2.mono hb1.size)
    go_wp2_with fail
    have hb3 : Below w2.heap.size w2 (w2.alloc (.cells #[.int .i64 1, .int .i64 D.length, .slice none 0 0, .int .i64 0, .int .i64 0, .bool false, .string ⟨#[]⟩] 57)) := bal (brf w2) _
    have C2 := Lib.hid (opApply_any F _ _ _ D (keepAll D.length) _ (H.out.to (Kp.below (hB2.trans (hb3.mono hB2.size)))) (rop_keep D.length w2))
    rw [law_nothing hok.out.1] at C2
    refine C2.out.mono ?_
    rintro e w4 ⟨r4, rfl, hr4, hb4⟩
    obtain ⟨a4, c4, rfl, _⟩ := RdS.len hr4
    have hB4 := (hB2.trans (hb3.mono hB2.size)).trans (hb4.mono (hB2.trans (hb3.mono hB2.size)).size)
    have hr4' := Lib.hid hr4
    clear hr4 C2
    go_wp2_with fail
    have hb5 : Below w4.heap.size w4 (w4.alloc (.cells #[.int .i64 1, .int .i64 E.length, .slice none 0 0, .int .i64 0, .int .i64 0, .bool false, .string ⟨#[]⟩] 57)) := bal (brf w4) _
    have hb14 : Below w1.heap.size w1 w4 := (hb2.trans (hb3.mono hb2.size)).trans (hb4.mono (hb2.trans (hb3.mono hb2.size)).size)
    have C3 := Lib.hid (opApply_any _ _ _ _ E (keepAll E.length) _ (hE.out.to (Kp.below (hb14.trans (hb5.mono hb14.size)))) (rop_keep E.length w4))
    rw [law_nothing hok.out.2] at C3
    refine C3.out.mono ?_
    rintro e w6 ⟨r6, rfl, hr6, hb6⟩
    obtain ⟨a6, c6, rfl, _⟩ := RdS.len hr6
    have hb46 := hb5.trans (hb6.mono hb5.size)
    have hB6 := hB4.trans (hb46.mono hB4.size)
    have hb16 := hb14.trans (hb46.mono hb14.size)
    have hr6' := Lib.hid hr6
    clear hr6 C3
    go_wp2_with fail
    refine (same_any _ _ _ _ D D _ (hr4'.out.to (Kp.below hb46)) (H.out.to (Kp.below hB6))).mono ?_
    rintro e w7 ⟨rfl, hb7⟩
    have hB7 := hB6.trans (hb7.mono hB6.size)
    have hb17 := hb16.trans (hb7.mono hb16.size)
    rw [decide_eq_true rfl]
    go_wp2_with fail
    refine (same_any _ _ _ _ E E _ (hr6'.out.to (Kp.below hb7)) (hE.out.to (Kp.below hb17))).mono ?_
    rintro e w8 ⟨rfl, hb8⟩
    have hB8 := hB7.trans (hb8.mono hB7.size)
    rw [decide_eq_true rfl]
    go_wp2
    go_ret
    exact ⟨rfl, hB8⟩
  · have hap' : ((applyP D L).2 != 0) = true := by simpa using hap
    clear hap
    generalize (applyP D L).2 = c at *
    generalize (applyP D L).1 = E at *
    go_enter Try.func7, Try.ntmps7
    go_wp2_with fail
    refine C1.out.mono ?_
    rintro e w1 ⟨r1, rfl, hr1, hb1⟩
    clear hr1 C1
    go_wp2_with fail
    refine (opened_any w1).mono ?_
    rintro e w2 ⟨rfl, hb2⟩
    have hB2 := hb1.trans (hb2.mono hb1.size)
    go_wp2_with fail
    refine (opened_any w2).mono ?_
    rintro e w3 ⟨rfl, hb3⟩
    have hB3 := hB2.trans (hb3.mono hB2.size)
    go_wp2
    go_ret
    exact ⟨rfl, hB3⟩
end Go.Proofs.Ytgodceplajkcdaa
