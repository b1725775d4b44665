/- The law DocRuns: whatever is handed in, it returns true and writes nothing that was there. No condition. -/
import Derived.Test.YtgodceplajkcdaaKept
import Derived.Test.YtgodceplajkcdaaRefD
import Derived.Test.YtgodceplajkcdaaEqDoc
import Derived.Deep.RegionHeld3
namespace Go.Proofs.Ytgodceplajkcdaa
open Go.RowKit Go.Mh

set_option maxHeartbeats 400000 in
theorem runs_bad (F : Nat → Prop) (v : Value) (L : List It) (w : World) (h : RItems F w v L) (hc : chkDoc L ≠ 0) :
    Calls Try.prog 26 #[v] w fun e w' => e = .returned (.tuple #[.slice none 0 0, .int .i64 (chkDoc L)]) ∧ Below w.heap.size w w' := by
  have hchk := Lib.hid (check_any F v L w h)
  have hc' : (chkDoc L != 0) = true := by simpa using hc
  clear hc h
  go_enter Try.func26, Try.ntmps26
  go_wp2_with (go_at_call 30; refine hchk.out.mono ?_; rintro e w1 ⟨rfl, hb1⟩)
  go_ret2
  exact ⟨rfl, hb1⟩

set_option maxRecDepth 100000 in
set_option maxHeartbeats 2000000 in
theorem docRuns_walk (F : Nat → Prop) (v : Value) (L : List It) (w : World) (h : RItems F w v L) :
    Calls Try.prog 5 #[v] w fun e w' => e = .returned (.bool true) ∧ Below w.heap.size w w' := by
  by_cases hc : chkDoc L = 0
  · obtain ⟨hne, hl80⟩ := chkDoc_ok hc
    have hruns := Lib.hid (runs_ok F v L w h hc hl80)
    obtain ⟨a, cap, rfl, hn⟩ := RdS.len h
    have hlc := h.capLe
    have hr0 := Lib.hid (runs_zero hne)
    have hlen : (runs L).length ≤ 80 := Nat.le_trans (runs_len L L.length) hl80
    have hpos : 0 < (runs L).length := (List.getElem?_eq_some_iff.1 hr0.out).1
    have H := Lib.hid h; clear h hc hne
    go_enter Try.func5, Try.ntmps5
    go_wp2_with fail
    refine hruns.out.mono ?_
    rintro e w1 ⟨u, rfl, hr, hb1⟩
    go_wp2_with fail
    refine (kept_any _).mono ?_
    rintro e w2 ⟨rfl, hb2⟩
    have hB2 := hb1.trans (hb2.mono hb1.size)
    have hr2 := hr.to (Kp.below hb2)
    clear hr
    obtain ⟨au, cu, rfl, _⟩ := RdS.len hr2
    obtain ⟨b1, o1, rfl, c0⟩ := RInts.at hr2 (Below.refl _ _) hr0.out
    have HR := Lib.hid hr2; clear hr2
    have hp1 : ((runs L).length : Int) ≠ 0 := by omega
    have hp2 : (((runs L).length : Int) == 0) = false := by simpa using hp1
    simp only [Nat.add_zero] at c0
    clear hp1
    go_wp2
    clear c0
    go_loopw [34] (fun i wr => ∃ k : Nat, k ≤ (runs L).length ∧ i = .int .i64 k ∧ Below w2.heap.size w2 wr) (fun i _ => (runs L).length - (intOf i).toNat)
    case atStart => exact ⟨0, Nat.zero_le _, rfl, Below.refl _ _⟩
    case round =>
      obtain ⟨k, hk, rfl, hbr⟩ := hrel
      by_cases hlt : k < (runs L).length
      · obtain ⟨vk, hvk⟩ : ∃ x, (runs L)[k]? = some x := ⟨_, List.getElem?_eq_getElem hlt⟩
        obtain ⟨f, t, rfl, hft, htn, hnext, hall⟩ := runs_facts hvk
        obtain ⟨b', o', e', d0⟩ := RInts.at HR.out hbr hvk
        cases e'
        have hal := Lib.hid hall; clear hall
        have hvk' := Lib.hid hvk; clear hvk
        obtain ⟨y, hy⟩ : ∃ y, L[f]? = some y := ⟨_, List.getElem?_eq_getElem (by omega)⟩
        obtain ⟨b, o, rfl, _⟩ := RItems.at H.out (Below.refl _ _) hy
        have hy' := Lib.hid hy; clear hy
        have hcf : ¬ cap = f := by omega
        rcases hnext with ⟨tt, hu, rfl⟩ | ⟨hlast, rfl⟩
        · obtain ⟨b', o', e', d1⟩ := RInts.at HR.out hbr hu
          cases e'
          have hk1 : k + 1 < (runs L).length := (List.getElem?_eq_some_iff.1 hu).1
          have hu' := Lib.hid hu; clear hu
          go_wp2
          obtain ⟨wo, rfl⟩ : ∃ wo : World, wo = wr := ⟨_, rfl⟩
          go_loopw [65] (fun i ws => ∃ j : Nat, j ≤ t - f ∧ i = .int .i64 j ∧ Below w2.heap.size w2 ws) (fun i _ => (t - f) - (intOf i).toNat)
          case atStart => exact ⟨0, Nat.zero_le _, rfl, hbr⟩
          case round =>
            obtain ⟨j, hj, rfl, hbs⟩ := hrel
            by_cases hjl : j < t - f
            · obtain ⟨x, hx⟩ : ∃ x, L[f + j]? = some x := ⟨_, List.getElem?_eq_getElem (by omega)⟩
              have hbw := hB2.trans (hbs.mono hB2.size)
              obtain ⟨b', o', e', x0, x1, x2⟩ := RItems.at H.out hbw hx
              cases e'
              obtain ⟨b', o', e', y0, y1, y2⟩ := RItems.at H.out hbw hy'.out
              cases e'
              obtain ⟨hm, hll, h10⟩ := hal.out (f + j) x y (by omega) (by omega) hx hy'.out
              have hbs' : b < wr.heap.size := lt_of_cell x0
              rw [show o + (f + j) * 3 = o + f * 3 + j * 3 by omega] at x0 x1 x2
              obtain ⟨c, m, l⟩ := x
              obtain ⟨c', m', l'⟩ := y
              simp only at hm hll h10
              subst hm hll
              clear hx
              by_cases hc : (c.toNat : Int) = 10
              · have h1 : (t : Int) - (f : Int) ≤ 1 := by have := h10 hc; omega
                have hcb : ((c.toNat : Int) == 10) = true := by simpa using hc
                clear h10 hc
                go_wp2
                go_roundw
                case rel => exact ⟨j + 1, by omega, by go_num, (hbs.alloc hbs.size _).alloc (by have := hbs.size; simp; omega) _⟩
                case measure => simp [intOf]; omega
              · have hcb : ((c.toNat : Int) == 10) = false := by simpa using hc
                clear h10 hc
                go_wp2
                go_roundw
                case rel => exact ⟨j + 1, by omega, by go_num, (hbs.alloc hbs.size _).alloc (by have := hbs.size; simp; omega) _⟩
                case measure => simp [intOf]; omega
            · obtain rfl : j = t - f := by omega
              go_wp2
              go_roundw
              case rel => exact ⟨k + 1, by omega, by go_num, hbs⟩
              case measure => simp [intOf]; omega
        · have hk1 : ¬ k + 1 < (runs L).length := by omega
          clear hlast
          go_wp2
          obtain ⟨wo, rfl⟩ : ∃ wo : World, wo = wr := ⟨_, rfl⟩
          go_loopw [65] (fun i ws => ∃ j : Nat, j ≤ L.length - f ∧ i = .int .i64 j ∧ Below w2.heap.size w2 ws) (fun i _ => (L.length - f) - (intOf i).toNat)
          case atStart => exact ⟨0, Nat.zero_le _, rfl, hbr⟩
          case round =>
            obtain ⟨j, hj, rfl, hbs⟩ := hrel
            by_cases hjl : j < L.length - f
            · obtain ⟨x, hx⟩ : ∃ x, L[f + j]? = some x := ⟨_, List.getElem?_eq_getElem (by omega)⟩
              have hbw := hB2.trans (hbs.mono hB2.size)
              obtain ⟨b', o', e', x0, x1, x2⟩ := RItems.at H.out hbw hx
              cases e'
              obtain ⟨b', o', e', y0, y1, y2⟩ := RItems.at H.out hbw hy'.out
              cases e'
              obtain ⟨hm, hll, h10⟩ := hal.out (f + j) x y (by omega) (by omega) hx hy'.out
              have hbs' : b < wr.heap.size := lt_of_cell x0
              rw [show o + (f + j) * 3 = o + f * 3 + j * 3 by omega] at x0 x1 x2
              obtain ⟨c, m, l⟩ := x
              obtain ⟨c', m', l'⟩ := y
              simp only at hm hll h10
              subst hm hll
              clear hx
              by_cases hc : (c.toNat : Int) = 10
              · have h1 : (L.length : Int) - (f : Int) ≤ 1 := by have := h10 hc; omega
                have hcb : ((c.toNat : Int) == 10) = true := by simpa using hc
                clear h10 hc
                go_wp2
                go_roundw
                case rel => exact ⟨j + 1, by omega, by go_num, (hbs.alloc hbs.size _).alloc (by have := hbs.size; simp; omega) _⟩
                case measure => simp [intOf]; omega
              · have hcb : ((c.toNat : Int) == 10) = false := by simpa using hc
                clear h10 hc
                go_wp2
                go_roundw
                case rel => exact ⟨j + 1, by omega, by go_num, (hbs.alloc hbs.size _).alloc (by have := hbs.size; simp; omega) _⟩
                case measure => simp [intOf]; omega
            · obtain rfl : j = L.length - f := by omega
              go_wp2
              go_roundw
              case rel => exact ⟨k + 1, by omega, by go_num, hbs⟩
              case measure => simp [intOf]; omega
      · obtain rfl : k = (runs L).length := by omega
        go_wp2
        go_ret
        exact ⟨rfl, hB2.trans (hbr.mono hB2.size)⟩
  · have hruns := Lib.hid (runs_bad F v L w h hc)
    have hc' : (chkDoc L != 0) = true := by simpa using hc
    clear h hc
    go_enter Try.func5, Try.ntmps5
    go_wp2_with fail
    refine hruns.out.mono ?_
    rintro e w1 ⟨rfl, hb1⟩
    go_wp2_with fail
    refine (kept_any _).mono ?_
    rintro e w2 ⟨rfl, hb2⟩
    go_wp2_with fail
    refine (kept_any _).mono ?_
    rintro e w3 ⟨rfl, hb3⟩
    go_wp2
    go_ret
    exact ⟨rfl, (hb1.trans (hb2.mono hb1.size)).trans (hb3.mono (Nat.le_trans hb1.size hb2.size))⟩
end Go.Proofs.Ytgodceplajkcdaa
/- The law DocSays: any document is checked, told as text and runs, held against another one, as the references say. No condition. -/
namespace Go.Proofs.Ytgodceplajkcdaa
open Go.RowKit Go.Mh

set_option maxHeartbeats 400000 in
theorem same_any (F G : Nat → Prop) (v u : Value) (L M : List It) (w : World) (h : RItems F w v L) (g : RItems G w u M) :
    Calls Try.prog 35 #[v, u] w fun e w' => e = .returned (.bool (decide (L = M))) ∧ Below w.heap.size w w' := by
  have heq := Lib.hid (eqDoc_any F G v u L M w h g)
  clear h g
  go_enter Try.func35, Try.ntmps35
  go_wp2_with (go_at_call 36; refine heq.out.mono ?_; rintro e w1 ⟨rfl, hb1⟩)
  go_ret
  exact ⟨rfl, hb1⟩

theorem keepB {g : Nat} {x0 x1 x2 : Value} {w3 wc w' : World} (h : wc.cell? ⟨g, 0, none⟩ = some x0 ∧ wc.cell? ⟨g, 1, none⟩ = some x1 ∧ wc.cell? ⟨g, 2, none⟩ = some x2 ∧ Below w3.heap.size w3 wc) (hb : Below wc.heap.size wc w') :
    w'.cell? ⟨g, 0, none⟩ = some x0 ∧ w'.cell? ⟨g, 1, none⟩ = some x1 ∧ w'.cell? ⟨g, 2, none⟩ = some x2 ∧ Below w3.heap.size w3 w' :=
  ⟨(hb.cell (p := ⟨g, 0, none⟩) (lt_of_cell h.1)).trans h.1, (hb.cell (p := ⟨g, 1, none⟩) (lt_of_cell h.2.1)).trans h.2.1, (hb.cell (p := ⟨g, 2, none⟩) (lt_of_cell h.2.2.1)).trans h.2.2.1, btr h.2.2.2 hb⟩

theorem belB {g : Nat} {x0 x1 x2 : Value} {w3 wc : World} (h : wc.cell? ⟨g, 0, none⟩ = some x0 ∧ wc.cell? ⟨g, 1, none⟩ = some x1 ∧ wc.cell? ⟨g, 2, none⟩ = some x2 ∧ Below w3.heap.size w3 wc) : Below w3.heap.size w3 wc := h.2.2.2

set_option maxRecDepth 100000 in
set_option maxHeartbeats 2000000 in
theorem docSays_walk (F G : Nat → Prop) (v u : Value) (L M : List It) (x : It) (w : World) (h : RItems F w v L) (g : RItems G w u M) :
    Calls Try.prog 6 #[v, u, .agg #[.int .u8 x.c.toNat, .int .i64 x.m, str x.l]] w fun e w' => e = .returned (.bool true) ∧ Below w.heap.size w w' := by
  obtain ⟨c, m, l⟩ := x
  have H := Lib.hid h; clear h
  have G' := Lib.hid g; clear g
  by_cases hc : chkDoc L = 0
  · obtain ⟨hne, hl80⟩ := chkDoc_ok hc
    have hcz := Lib.hid hc; clear hc
    obtain ⟨a, cap, rfl, hn⟩ := RdS.len H.out
    go_enter Try.func6, Try.ntmps6
    go_wp2_with fail
    refine (plain_ok F _ L _ (H.out.to (Kp.below (bal (brf _) _))) hcz.out hl80).mono ?_
    rintro e w1 ⟨rfl, hb1⟩
    have hB1 : Below w.heap.size w w1 := (bal (brf _) _).trans (hb1.mono (by simp))
    have q0 : w1.cell? ⟨w.heap.size, 0, none⟩ = some (.int .u8 c.toNat) := by rw [hb1.cell (by simp)]; simp
    have q1 : w1.cell? ⟨w.heap.size, 1, none⟩ = some (.int .i64 m) := by rw [hb1.cell (by simp)]; simp
    have q2 : w1.cell? ⟨w.heap.size, 2, none⟩ = some (str l) := by rw [hb1.cell (by simp)]; simp
    go_wp2_with fail
    refine (runs_ok F _ L _ (H.out.to (Kp.below hB1)) hcz.out hl80).mono ?_
    rintro e w2 ⟨ru, rfl, hru, hb2⟩
    have hB2 := btr hB1 hb2
    go_wp2_with fail
    refine (checkDoc_any F _ L _ (H.out.to (Kp.below hB2))).mono ?_
    rintro e w3 ⟨rfl, hb3⟩
    rw [hcz.out]
    have hB3 := btr hB2 hb3
    have Q0 := keepB ⟨q0, q1, q2, hB1⟩ (btr hb2 hb3)
    have Q : _ ∧ _ ∧ _ ∧ Below w3.heap.size w3 w3 := ⟨Q0.1, Q0.2.1, Q0.2.2.1, brf w3⟩
    clear Q0
    have H3 := Lib.hid (H.out.to (Kp.below hB3))
    have G3 := Lib.hid (G'.out.to (Kp.below hB3))
    have hr3 := hru.to (Kp.below hb3)
    have HR := Lib.hid hr3
    clear q0 q1 q2 hb1 hb2 hb3 hB1 hB2 hru hr3
    go_wp2_with fail
    go_region_held3 (fun w' => w'.cell? ⟨w.heap.size, 0, none⟩ = some (.int .u8 c.toNat) ∧ w'.cell? ⟨w.heap.size, 1, none⟩ = some (.int .i64 m) ∧ w'.cell? ⟨w.heap.size, 2, none⟩ = some (str l) ∧ Below w3.heap.size w3 w') (first | exact keepB (by assumption) (by assumption) | exact keepB Q (Below.refl _ _).drew)
      (first | (go_at_call 27; refine (kept_any _).mono ?_; rintro e w4 ⟨rfl, hb4⟩)
             | (go_at_call 30; refine (check_any F _ L _ (H3.out.to (Kp.below (belB (by assumption))))).mono ?_; rintro e w4 ⟨rfl, hb4⟩; rw [hcz.out])
             | (go_at_call 31; refine (item_any ⟨c, m, l⟩ _).mono ?_; rintro e w4 ⟨rfl, hb4⟩)
             | (go_at_call 32; refine (checkItem_any ⟨c, m, l⟩ _).mono ?_; rintro e w4 ⟨rfl, hb4⟩)
             | (go_at_call 33; refine (items_any F _ L _ (H3.out.to (Kp.below (belB (by assumption))))).mono ?_; rintro e w4 ⟨rfl, hb4⟩)
             | (go_at_call 34; refine (checkItems_any F _ L _ (H3.out.to (Kp.below (belB (by assumption))))).mono ?_; rintro e w4 ⟨rfl, hb4⟩)
             | (go_at_call 35; refine (same_any F G _ u L M _ (H3.out.to (Kp.below (belB (by assumption)))) (G3.out.to (Kp.below (belB (by assumption))))).mono ?_; rintro e w4 ⟨rfl, hb4⟩)
             | (go_at_call 36; refine (eqDoc_any F G _ u L M _ (H3.out.to (Kp.below (belB (by assumption)))) (G3.out.to (Kp.below (belB (by assumption))))).mono ?_; rintro e w4 ⟨rfl, hb4⟩))
    have hB34 : Below w3.heap.size w3 w4 := belB (by assumption)
    have hB4 := btr hB3 hB34
    have H4 := Lib.hid (H.out.to (Kp.below hB4))
    have hr4 := Lib.hid (HR.out.to (Kp.below hB34))
    have hml : (L.map It.c).length = L.length := by simp
    go_wp2_with fail
    refine (runsOf_any F _ L _ H4.out hl80).mono ?_
    rintro e w5 ⟨ru5, rfl, hr5, hb5⟩
    go_wp2_with fail
    refine (eqInts_same _ _ _ _ (runs L) _ (hr4.out.to (Kp.below hb5)) hr5).mono ?_
    rintro e w6 ⟨rfl, hb6⟩
    have hB6 := btr (btr hB4 hb5) hb6
    clear hr5
    go_wp2
    go_loopw [90] (fun i wr => ∃ k : Nat, k ≤ L.length ∧ i = .int .i64 k ∧ Below w.heap.size w wr) (fun i _ => L.length - (intOf i).toNat)
    case atStart => exact ⟨0, Nat.zero_le _, rfl, hB6⟩
    case round =>
      obtain ⟨k, hk, rfl, hbr⟩ := hrel
      by_cases hlt : k < L.length
      · obtain ⟨y, hy⟩ : ∃ y, L[k]? = some y := ⟨_, List.getElem?_eq_getElem hlt⟩
        obtain ⟨b, o, rfl, c0, c1, c2⟩ := RItems.at H.out hbr hy
        have hyc : (L.map It.c)[k]? = some y.c := by rw [List.getElem?_map, hy]; rfl
        have hyc' := Lib.hid hyc; clear hyc hy
        obtain ⟨cy, my, ly⟩ := y
        go_wp2_with fail
        go_quiet (fail)
        go_wp2
        go_ways
        case roundEnd =>
          go_roundw
          case rel => exact ⟨k + 1, by omega, by go_num, bdrewN (bal hbr _) _⟩
          case measure => simp [intOf]; omega
        all_goals (exfalso; rename_i hne1; rw [get_str hyc'.out (by have := (List.getElem?_eq_some_iff.1 hyc'.out).1; rw [ByteArray.size]; simpa using this)] at hne1; simp at hne1)
      · obtain rfl : k = L.length := by omega
        go_wp2
        go_ret
        exact ⟨rfl, hbr⟩
  · have hc' : (chkDoc L != 0) = true := by simpa using hc
    have hcz := Lib.hid hc; clear hc
    go_enter Try.func6, Try.ntmps6
    go_wp2_with fail
    refine (plain_bad F v L _ (H.out.to (Kp.below (bal (brf _) _))) hcz.out).mono ?_
    rintro e w1 ⟨rfl, hb1⟩
    have hB1 : Below w.heap.size w w1 := (bal (brf _) _).trans (hb1.mono (by simp))
    have q0 : w1.cell? ⟨w.heap.size, 0, none⟩ = some (.int .u8 c.toNat) := by rw [hb1.cell (by simp)]; simp
    have q1 : w1.cell? ⟨w.heap.size, 1, none⟩ = some (.int .i64 m) := by rw [hb1.cell (by simp)]; simp
    have q2 : w1.cell? ⟨w.heap.size, 2, none⟩ = some (str l) := by rw [hb1.cell (by simp)]; simp
    go_wp2_with fail
    refine (runs_bad F v L _ (H.out.to (Kp.below hB1)) hcz.out).mono ?_
    rintro e w2 ⟨rfl, hb2⟩
    have hB2 := btr hB1 hb2
    go_wp2_with fail
    refine (checkDoc_any F v L _ (H.out.to (Kp.below hB2))).mono ?_
    rintro e w3 ⟨rfl, hb3⟩
    have hB3 := btr hB2 hb3
    have Q0 := keepB ⟨q0, q1, q2, hB1⟩ (btr hb2 hb3)
    have Q : _ ∧ _ ∧ _ ∧ Below w3.heap.size w3 w3 := ⟨Q0.1, Q0.2.1, Q0.2.2.1, brf w3⟩
    clear Q0
    have H3 := Lib.hid (H.out.to (Kp.below hB3))
    have G3 := Lib.hid (G'.out.to (Kp.below hB3))
    clear q0 q1 q2 hb1 hb2 hb3 hB1 hB2
    go_wp2_with fail
    go_region_held3 (fun w' => w'.cell? ⟨w.heap.size, 0, none⟩ = some (.int .u8 c.toNat) ∧ w'.cell? ⟨w.heap.size, 1, none⟩ = some (.int .i64 m) ∧ w'.cell? ⟨w.heap.size, 2, none⟩ = some (str l) ∧ Below w3.heap.size w3 w') (first | exact keepB (by assumption) (by assumption) | exact keepB Q (Below.refl _ _).drew)
      (first | (go_at_call 27; refine (kept_any _).mono ?_; rintro e w4 ⟨rfl, hb4⟩)
             | (go_at_call 30; refine (check_any F v L _ (H3.out.to (Kp.below (belB (by assumption))))).mono ?_; rintro e w4 ⟨rfl, hb4⟩)
             | (go_at_call 31; refine (item_any ⟨c, m, l⟩ _).mono ?_; rintro e w4 ⟨rfl, hb4⟩)
             | (go_at_call 32; refine (checkItem_any ⟨c, m, l⟩ _).mono ?_; rintro e w4 ⟨rfl, hb4⟩)
             | (go_at_call 33; refine (items_any F v L _ (H3.out.to (Kp.below (belB (by assumption))))).mono ?_; rintro e w4 ⟨rfl, hb4⟩)
             | (go_at_call 34; refine (checkItems_any F v L _ (H3.out.to (Kp.below (belB (by assumption))))).mono ?_; rintro e w4 ⟨rfl, hb4⟩)
             | (go_at_call 35; refine (same_any F G v u L M _ (H3.out.to (Kp.below (belB (by assumption)))) (G3.out.to (Kp.below (belB (by assumption))))).mono ?_; rintro e w4 ⟨rfl, hb4⟩)
             | (go_at_call 36; refine (eqDoc_any F G v u L M _ (H3.out.to (Kp.below (belB (by assumption)))) (G3.out.to (Kp.below (belB (by assumption))))).mono ?_; rintro e w4 ⟨rfl, hb4⟩))
    go_wp2
    go_ret
    exact ⟨rfl, btr hB3 (belB (by assumption))⟩
end Go.Proofs.Ytgodceplajkcdaa
