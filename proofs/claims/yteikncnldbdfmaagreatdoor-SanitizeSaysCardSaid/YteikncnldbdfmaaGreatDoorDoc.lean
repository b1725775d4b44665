/- Package doc: Item, Items, Check, Plain, Runs, Same. -/
import Derived.Test.YteikncnldbdfmaaGreatDoorLink
import Derived.Test.YteikncnldbdfmaaGreatDoorCmp
import Derived.Test.YteikncnldbdfmaaGreatDoorPl
import Derived.Deep.Light
namespace Go.Proofs.YteikncnldbdfmaaGreatDoor
open Go.RowKit Go.Mh

set_option maxHeartbeats 400000 in
theorem item_any (x : It) (w : World) :
    Calls Tryz.prog 147 #[.agg #[.int .u8 x.c.toNat, .int .i64 x.m, str x.l]] w fun e w' => e = .returned (.int .i64 (chkItem x)) ∧ Below w.heap.size w w' := by
  obtain ⟨c, m, l⟩ := x
  have hch : Hid (chkItem ⟨c, m, l⟩ = if ¬ (c.toNat : Int) = 10 ∧ ((c.toNat : Int) < 32 ∨ 126 < (c.toNat : Int)) then 1
    else if m < 0 ∨ 3 < m then 3 else if l ≠ [] ∧ ((c.toNat : Int) = 10 ∨ may l = false) then 4 else 0) := rfl
  go_enter Tryz.func147, Tryz.ntmps147
  go_wp2_with (go_at_call 182; refine (may_any _ _).mono ?_; rintro e w1 ⟨rfl, hb⟩)
  all_goals
    go_ret
    go_light
    refine ⟨congrArg (fun n => Ending.returned (Value.int IntKind.i64 n)) ?_, ?_⟩
    · rw [hch.out]
      clear hch
      first | (simp_all; done) | (simp_all; rw [if_neg (by omega), if_neg (by omega)])
    · first | exact (Below.refl _ _).alloc (Nat.le_refl _) _ | exact ((Below.refl _ _).alloc (Nat.le_refl _) _).trans ((by assumption : Below _ _ _).mono (by simp))

/-- The closure in Items. -/
theorem itemsFn_any (x : It) (w : World) :
    Calls Tryz.prog 146 #[.agg #[.int .u8 x.c.toNat, .int .i64 x.m, str x.l]] w fun e w' => e = .returned (.bool (chkItem x != 0)) ∧ Below w.heap.size w w' := by
  have hit := Lib.hid (item_any x)
  obtain ⟨c, m, l⟩ := x
  go_enter Tryz.func146, Tryz.ntmps146
  go_wp2_with (go_at_call 147; refine (hit.out _).mono ?_; rintro e w1 ⟨rfl, hb⟩)
  go_ret
  exact ⟨rfl, ((Below.refl _ _).alloc (Nat.le_refl _) _).trans (hb.mono (by simp))⟩

set_option maxHeartbeats 400000 in
theorem itemsIdx_any (F : Nat → Prop) (v : Value) (L : List It) (w : World) (h : RItems F w v L) :
    Calls Tryz.prog 145 #[v, .func (.func 146) #[] #[]] w fun e w' => e = .returned (.int .i64 (badAt L)) ∧ Below w.heap.size w w' := by
  obtain ⟨a, cap, rfl, hn⟩ := RdS.len h
  go_enter Tryz.func145, Tryz.ntmps145
  go_wp2
  go_loopw [5, 8] (fun _ i wr => ∃ k : Nat, k ≤ L.length ∧ i = .int .i64 k ∧ (∀ x ∈ L.take k, chkItem x = 0) ∧ Below w.heap.size w wr) (fun _ i _ => L.length - (intOf i).toNat)
  case atStart => exact ⟨0, Nat.zero_le _, rfl, by simp, Below.refl _ _⟩
  case round =>
    obtain ⟨k, hk, rfl, hall, hb⟩ := hrel
    have hal := Lib.hid hall; clear hall
    by_cases hlt : k < L.length
    · obtain ⟨x, hx⟩ : ∃ x, L[k]? = some x := ⟨_, List.getElem?_eq_getElem hlt⟩
      obtain ⟨b, o, rfl, c0, c1, c2⟩ := RItems.at h hb hx
      have hx' := Lib.hid hx; clear hx
      have H := Lib.hid h; clear h
      obtain ⟨c, m, l⟩ := x
      go_wp2_with (go_at_call 146; refine (itemsFn_any ⟨c, m, l⟩ _).mono ?_; rintro e w1 ⟨rfl, hb1⟩)
      · have hne : chkItem ⟨c, m, l⟩ ≠ 0 := bne_iff_ne.1 (show (chkItem ⟨c, m, l⟩ != 0) = true by assumption)
        have hfin := Lib.hid (badAt_some hx'.out hne hal.out)
        go_ret
        exact ⟨by rw [hfin.out]; rfl, hb.trans (hb1.mono hb.size)⟩
      · have heq : chkItem ⟨c, m, l⟩ = 0 := by simpa using (show (chkItem ⟨c, m, l⟩ != 0) = false by assumption)
        go_roundw
        case rel => exact ⟨k + 1, by omega, by go_num, take_snoc_mem hx'.out hal.out heq, hb.trans (hb1.mono hb.size)⟩
        case measure => simp [intOf]; omega
    · obtain rfl : k = L.length := by omega
      rw [List.take_length] at hal
      have hfin := Lib.hid (badAt_none hal.out)
      go_wp2
      go_ret
      exact ⟨by rw [hfin.out]; rfl, hb⟩

theorem badAt_cases (L : List It) : (badAt L = -1 ∧ ∀ x ∈ L, chkItem x = 0) ∨ ∃ (k : Nat) (x : It), badAt L = (k : Int) ∧ L[k]? = some x ∧ chkItem x ≠ 0 ∧ ∀ y ∈ L.take k, chkItem y = 0 := by
  unfold badAt
  cases hf : L.findIdx? (fun x => chkItem x != 0) with
  | none =>
    left
    rw [List.findIdx?_eq_none_iff] at hf
    exact ⟨rfl, fun x hx => by simpa using hf x hx⟩
  | some k =>
    right
    rw [List.findIdx?_eq_some_iff_getElem] at hf
    obtain ⟨hlt, h1, h2⟩ := hf
    refine ⟨k, L[k], rfl, List.getElem?_eq_getElem hlt, by simpa using h1, fun y hy => ?_⟩
    rw [List.mem_take_iff_getElem] at hy
    obtain ⟨j, hj, rfl⟩ := hy
    simpa using h2 j (by omega)

set_option maxHeartbeats 400000 in
theorem items_any (F : Nat → Prop) (v : Value) (L : List It) (w : World) (h : RItems F w v L) :
    Calls Tryz.prog 82 #[v] w fun e w' => e = .returned (.int .i64 (chkItems L)) ∧ Below w.heap.size w w' := by
  have hidx := Lib.hid (itemsIdx_any F v L w h)
  obtain ⟨a, cap, rfl, hn⟩ := RdS.len h
  rcases badAt_cases L with ⟨hb0, hall⟩ | ⟨k, x, hb0, hx, hne, hall⟩
  · have hb0' := Lib.hid hb0; clear hb0
    have hfin := Lib.hid (chkItems_none hall); clear hall
    have H := Lib.hid h; clear h
    go_enter Tryz.func82, Tryz.ntmps82
    go_wp2_with (go_at_call 145; refine hidx.out.mono ?_; rintro e w1 ⟨rfl, hb⟩; rw [hb0'.out])
    go_ret
    exact ⟨by rw [hfin.out]; rfl, hb⟩
  · have hb0' := Lib.hid hb0; clear hb0
    have hfin := Lib.hid (chkItems_some hx hne hall); clear hall
    have hk : k < L.length := (List.getElem?_eq_some_iff.1 hx).1
    have hx' := Lib.hid hx; clear hx
    have H := Lib.hid h; clear h
    have hne' := Lib.hid hne; clear hne
    obtain ⟨b, o, rfl, _⟩ := RItems.at H.out (Below.refl _ _) hx'.out
    obtain ⟨c, m, l⟩ := x
    go_enter Tryz.func82, Tryz.ntmps82
    go_wp2_with (first | (go_at_call 145; refine hidx.out.mono ?_; rintro e w1 ⟨rfl, hb⟩; rw [hb0'.out]; obtain ⟨b', o', e', c0, c1, c2⟩ := RItems.at H.out hb hx'.out; cases e') | (go_at_call 147; refine (item_any ⟨c, m, l⟩ _).mono ?_; rintro e w2 ⟨rfl, hb2⟩))
    go_ret
    exact ⟨by rw [hfin.out]; rfl, hb.trans (hb2.mono hb.size)⟩

theorem chkDoc_many {L : List It} (h : 80 < L.length) : chkDoc L = 2 := by simp [chkDoc, h]
theorem chkDoc_items {L : List It} (h : ¬ 80 < L.length) (h1 : chkItems L ≠ 0) : chkDoc L = chkItems L := by unfold chkDoc; rw [if_neg h, if_pos h1]
theorem chkDoc_nil : chkDoc [] = 4 := by simp [chkDoc, chkItems]
theorem chkDoc_last {L : List It} {x : It} (h : ¬ 80 < L.length) (h1 : chkItems L = 0) (hx : L[L.length - 1]? = some x) : chkDoc L = if (x.c.toNat : Int) = 10 then 0 else 4 := by
  have : L.getLast? = some x := by rw [List.getLast?_eq_getElem?]; exact hx
  simp [chkDoc, h, h1, this]

set_option maxHeartbeats 400000 in
theorem check_any (F : Nat → Prop) (v : Value) (L : List It) (w : World) (h : RItems F w v L) :
    Calls Tryz.prog 25 #[v] w fun e w' => e = .returned (.int .i64 (chkDoc L)) ∧ Below w.heap.size w w' := by
  have hitems := Lib.hid (fun w' (hb : Below w.heap.size w w') => items_any F v L w' (h.to (Kp.below hb)))
  obtain ⟨a, cap, rfl, hn⟩ := RdS.len h
  by_cases h80 : 80 < L.length
  · have hfin := Lib.hid (chkDoc_many h80)
    have H := Lib.hid h; clear h
    have h80' : (80 : Int) < (L.length : Int) := by omega
    go_enter Tryz.func25, Tryz.ntmps25
    go_wp2
    go_ret
    exact ⟨by rw [hfin.out]; rfl, Below.refl _ _⟩
  have h80' : ¬ (80 : Int) < (L.length : Int) := by omega
  by_cases hit : chkItems L = 0
  · have hit' := Lib.hid hit
    rcases Nat.eq_zero_or_pos L.length with h0 | hpos
    · obtain rfl : L = [] := List.eq_nil_of_length_eq_zero h0
      have hfin := Lib.hid chkDoc_nil
      clear hit h0 h80
      have H := Lib.hid h; clear h
      go_enter Tryz.func25, Tryz.ntmps25
      go_wp2_with (go_at_call 82; refine (hitems.out _ (Below.refl _ _)).mono ?_; rintro e w1 ⟨rfl, hb⟩; rw [hit'.out])
      go_ret
      exact ⟨by rw [hfin.out]; rfl, hb⟩
    · obtain ⟨x, hx⟩ : ∃ x, L[L.length - 1]? = some x := ⟨_, List.getElem?_eq_getElem (by omega)⟩
      have hfin := Lib.hid (chkDoc_last h80 hit hx)
      obtain ⟨k, hk⟩ : ∃ k, L.length = k + 1 := ⟨L.length - 1, by omega⟩
      clear hit h80 hpos
      have hk1 : L.length - 1 = k := by omega
      rw [hk1] at hx
      clear hk1
      have hx' := Lib.hid hx; clear hx
      have H := Lib.hid h; clear h
      obtain ⟨b, o, rfl, _⟩ := RItems.at H.out (Below.refl _ _) hx'.out
      obtain ⟨c, m, l⟩ := x
      generalize L.length = n at *
      subst hk
      have hni : ((k : Int) + 1 == 0) = false := by rw [beq_eq_false_iff_ne]; omega
      by_cases hc : (c.toNat : Int) = 10
      · have hcb : ((c.toNat : Int) != 10) = false := by simpa using hc
        simp only [hc, if_true] at hfin
        clear hc
        go_enter Tryz.func25, Tryz.ntmps25
        go_wp2_with (go_at_call 82; refine (hitems.out _ (Below.refl _ _)).mono ?_; rintro e w1 ⟨rfl, hb⟩; rw [hit'.out]; obtain ⟨b', o', e', c0, c1, c2⟩ := RItems.at H.out hb hx'.out; cases e')
        go_ret
        exact ⟨by rw [hfin.out]; rfl, hb⟩
      · have hcb : ((c.toNat : Int) != 10) = true := by simpa using hc
        simp only [hc, if_false] at hfin
        clear hc
        go_enter Tryz.func25, Tryz.ntmps25
        go_wp2_with (go_at_call 82; refine (hitems.out _ (Below.refl _ _)).mono ?_; rintro e w1 ⟨rfl, hb⟩; rw [hit'.out]; obtain ⟨b', o', e', c0, c1, c2⟩ := RItems.at H.out hb hx'.out; cases e')
        go_ret
        exact ⟨by rw [hfin.out]; rfl, hb⟩
  · have hfin := Lib.hid (chkDoc_items h80 hit)
    have hit' : (chkItems L != 0) = true := by simpa using hit
    have H := Lib.hid h; clear h h80 hit
    go_enter Tryz.func25, Tryz.ntmps25
    go_wp2_with (go_at_call 82; refine (hitems.out _ (Below.refl _ _)).mono ?_; rintro e w1 ⟨rfl, hb⟩)
    go_ret
    exact ⟨by rw [hfin.out]; rfl, hb⟩

end Go.Proofs.YteikncnldbdfmaaGreatDoor
