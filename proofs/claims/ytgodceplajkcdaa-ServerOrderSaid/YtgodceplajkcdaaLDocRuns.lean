/- The law DocRuns: whatever is handed in, it returns true and writes nothing that was there. No condition. -/
import Derived.Test.YtgodceplajkcdaaKept
namespace Go.Proofs.Ytgodceplajkcdaa
open Go.RowKit Go.Mh

set_option maxHeartbeats 400000 in
theorem runs_bad (F : Nat → Prop) (v : Value) (L : List It) (w : World) (h : RItems F w v L) (hc : chkDoc L ≠ 0) :
    Calls Try.prog 26 #[v] w fun e w' => e = .returned (.tuple #[.slice none 0 0, .int .i64 (chkDoc L)]) ∧ Below w.heap.size w w' := by
  have hchk := Lib.hid (check_any F v L w h)
  have hc' : (chkDoc L != 0) = true := by simpa using hc
  clear hc h
  go_enter Try.func26, Try.ntmps26
  go_wp2_with (go_at_call 30; refine hchk.out.mono ?_; rintro e w1 ⟨rfl, hb1⟩)
  go_ret2
  exact ⟨rfl, hb1⟩

set_option maxRecDepth 100000 in
set_option maxHeartbeats 2000000 in
theorem docRuns_walk (F : Nat → Prop) (v : Value) (L : List It) (w : World) (h : RItems F w v L) :
    Calls Try.prog 5 #[v] w fun e w' => e = .returned (.bool true) ∧ Below w.heap.size w w' := by
  by_cases hc : chkDoc L = 0
  · obtain ⟨hne, hl80⟩ := chkDoc_ok hc
    have hruns := Lib.hid (runs_ok F v L w h hc hl80)
    obtain ⟨a, cap, rfl, hn⟩ := RdS.len h
    have hlc := h.capLe
    have hr0 := Lib.hid (runs_zero hne)
    have hlen : (runs L).length ≤ 80 := Nat.le_trans (runs_len L L.length) hl80
    have hpos : 0 < (runs L).length := (List.getElem?_eq_some_iff.1 hr0.out).1
    have H := Lib.hid h; clear h hc hne
    go_enter Try.func5, Try.ntmps5
    go_wp2_with fail
    refine hruns.out.mono ?_
    rintro e w1 ⟨u, rfl, hr, hb1⟩
    go_wp2_with fail
    refine (kept_any _).mono ?_
    rintro e w2 ⟨rfl, hb2⟩
    have hB2 := hb1.trans (hb2.mono hb1.size)
    have hr2 := hr.to (Kp.below hb2)
    clear hr
    obtain ⟨au, cu, rfl, _⟩ := RdS.len hr2
    obtain ⟨b1, o1, rfl, c0⟩ := RInts.at hr2 (Below.refl _ _) hr0.out
    have HR := Lib.hid hr2; clear hr2
    have hp1 : ((runs L).length : Int) ≠ 0 := by omega
    have hp2 : (((runs L).length : Int) == 0) = false := by simpa using hp1
    simp only [Nat.add_zero] at c0
    clear hp1
    go_wp2
    clear c0
    go_loopw [34] (fun i wr => ∃ k : Nat, k ≤ (runs L).length ∧ i = .int .i64 k ∧ Below w2.heap.size w2 wr) (fun i _ => (runs L).length - (intOf i).toNat)
    case atStart => exact ⟨0, Nat.zero_le _, rfl, Below.refl _ _⟩
    case round =>
      obtain ⟨k, hk, rfl, hbr⟩ := hrel
      by_cases hlt : k < (runs L).length
      · obtain ⟨vk, hvk⟩ : ∃ x, (runs L)[k]? = some x := ⟨_, List.getElem?_eq_getElem hlt⟩
        obtain ⟨f, t, rfl, hft, htn, hnext, hall⟩ := runs_facts hvk
        obtain ⟨b', o', e', d0⟩ := RInts.at HR.out hbr hvk
        cases e'
        have hal := Lib.hid hall; clear hall
        have hvk' := Lib.hid hvk; clear hvk
        obtain ⟨y, hy⟩ : ∃ y, L[f]? = some y := ⟨_, List.getElem?_eq_getElem (by omega)⟩
        obtain ⟨b, o, rfl, _⟩ := RItems.at H.out (Below.refl _ _) hy
        have hy' := Lib.hid hy; clear hy
        have hcf : ¬ cap = f := by omega
        rcases hnext with ⟨tt, hu, rfl⟩ | ⟨hlast, rfl⟩
        · obtain ⟨b', o', e', d1⟩ := RInts.at HR.out hbr hu
          cases e'
          have hk1 : k + 1 < (runs L).length := (List.getElem?_eq_some_iff.1 hu).1
          have hu' := Lib.hid hu; clear hu
          go_wp2
          obtain ⟨wo, rfl⟩ : ∃ wo : World, wo = wr := ⟨_, rfl⟩
          go_loopw [65] (fun i ws => ∃ j : Nat, j ≤ t - f ∧ i = .int .i64 j ∧ Below w2.heap.size w2 ws) (fun i _ => (t - f) - (intOf i).toNat)
          case atStart => exact ⟨0, Nat.zero_le _, rfl, hbr⟩
          case round =>
            obtain ⟨j, hj, rfl, hbs⟩ := hrel
            by_cases hjl : j < t - f
            · obtain ⟨x, hx⟩ : ∃ x, L[f + j]? = some x := ⟨_, List.getElem?_eq_getElem (by omega)⟩
              have hbw := hB2.trans (hbs.mono hB2.size)
              obtain ⟨b', o', e', x0, x1, x2⟩ := RItems.at H.out hbw hx
              cases e'
              obtain ⟨b', o', e', y0, y1, y2⟩ := RItems.at H.out hbw hy'.out
              cases e'
              obtain ⟨hm, hll, h10⟩ := hal.out (f + j) x y (by omega) (by omega) hx hy'.out
              have hbs' : b < wr.heap.size := lt_of_cell x0
              rw [show o + (f + j) * 3 = o + f * 3 + j * 3 by omega] at x0 x1 x2
              obtain ⟨c, m, l⟩ := x
              obtain ⟨c', m', l'⟩ := y
              simp only at hm hll h10
              subst hm hll
              clear hx
              by_cases hc : (c.toNat : Int) = 10
              · have h1 : (t : Int) - (f : Int) ≤ 1 := by have := h10 hc; omega
                have hcb : ((c.toNat : Int) == 10) = true := by simpa using hc
                clear h10 hc
                go_wp2
                go_roundw
                case rel => exact ⟨j + 1, by omega, by go_num, (hbs.alloc hbs.size _).alloc (by have := hbs.size; simp; omega) _⟩
                case measure => simp [intOf]; omega
              · have hcb : ((c.toNat : Int) == 10) = false := by simpa using hc
                clear h10 hc
                go_wp2
                go_roundw
                case rel => exact ⟨j + 1, by omega, by go_num, (hbs.alloc hbs.size _).alloc (by have := hbs.size; simp; omega) _⟩
                case measure => simp [intOf]; omega
            · obtain rfl : j = t - f := by omega
              go_wp2
              go_roundw
              case rel => exact ⟨k + 1, by omega, by go_num, hbs⟩
              case measure => simp [intOf]; omega
        · have hk1 : ¬ k + 1 < (runs L).length := by omega
          clear hlast
          go_wp2
          obtain ⟨wo, rfl⟩ : ∃ wo : World, wo = wr := ⟨_, rfl⟩
          go_loopw [65] (fun i ws => ∃ j : Nat, j ≤ L.length - f ∧ i = .int .i64 j ∧ Below w2.heap.size w2 ws) (fun i _ => (L.length - f) - (intOf i).toNat)
          case atStart => exact ⟨0, Nat.zero_le _, rfl, hbr⟩
          case round =>
            obtain ⟨j, hj, rfl, hbs⟩ := hrel
            by_cases hjl : j < L.length - f
            · obtain ⟨x, hx⟩ : ∃ x, L[f + j]? = some x := ⟨_, List.getElem?_eq_getElem (by omega)⟩
              have hbw := hB2.trans (hbs.mono hB2.size)
              obtain ⟨b', o', e', x0, x1, x2⟩ := RItems.at H.out hbw hx
              cases e'
              obtain ⟨b', o', e', y0, y1, y2⟩ := RItems.at H.out hbw hy'.out
              cases e'
              obtain ⟨hm, hll, h10⟩ := hal.out (f + j) x y (by omega) (by omega) hx hy'.out
              have hbs' : b < wr.heap.size := lt_of_cell x0
              rw [show o + (f + j) * 3 = o + f * 3 + j * 3 by omega] at x0 x1 x2
              obtain ⟨c, m, l⟩ := x
              obtain ⟨c', m', l'⟩ := y
              simp only at hm hll h10
              subst hm hll
              clear hx
              by_cases hc : (c.toNat : Int) = 10
              · have h1 : (L.length : Int) - (f : Int) ≤ 1 := by have := h10 hc; omega
                have hcb : ((c.toNat : Int) == 10) = true := by simpa using hc
                clear h10 hc
                go_wp2
                go_roundw
                case rel => exact ⟨j + 1, by omega, by go_num, (hbs.alloc hbs.size _).alloc (by have := hbs.size; simp; omega) _⟩
                case measure => simp [intOf]; omega
              · have hcb : ((c.toNat : Int) == 10) = false := by simpa using hc
                clear h10 hc
                go_wp2
                go_roundw
                case rel => exact ⟨j + 1, by omega, by go_num, (hbs.alloc hbs.size _).alloc (by have := hbs.size; simp; omega) _⟩
                case measure => simp [intOf]; omega
            · obtain rfl : j = L.length - f := by omega
              go_wp2
              go_roundw
              case rel => exact ⟨k + 1, by omega, by go_num, hbs⟩
              case measure => simp [intOf]; omega
      · obtain rfl : k = (runs L).length := by omega
        go_wp2
        go_ret
        exact ⟨rfl, hB2.trans (hbr.mono hB2.size)⟩
  · have hruns := Lib.hid (runs_bad F v L w h hc)
    have hc' : (chkDoc L != 0) = true := by simpa using hc
    clear h hc
    go_enter Try.func5, Try.ntmps5
    go_wp2_with fail
    refine hruns.out.mono ?_
    rintro e w1 ⟨rfl, hb1⟩
    go_wp2_with fail
    refine (kept_any _).mono ?_
    rintro e w2 ⟨rfl, hb2⟩
    go_wp2_with fail
    refine (kept_any _).mono ?_
    rintro e w3 ⟨rfl, hb3⟩
    go_wp2
    go_ret
    exact ⟨rfl, (hb1.trans (hb2.mono hb1.size)).trans (hb3.mono (Nat.le_trans hb1.size hb2.size))⟩
end Go.Proofs.Ytgodceplajkcdaa
