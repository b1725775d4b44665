/- The references on documents: CheckItem, CheckItems, CheckDoc. -/
import Derived.Test.YtjbidchdjpmonaaDoorRefS
import Derived.Test.YtjbidchdjpmonaaDoorDoc
import Derived.IntWalk
namespace Go.Proofs.YtjbidchdjpmonaaDoor
open Go.RowKit Go.Mh

set_option maxHeartbeats 400000 in
theorem checkItem_any (x : It) (w : World) :
    Calls Tryd.prog 111 #[.agg #[.int .u8 x.c.toNat, .int .i64 x.m, str x.l]] w fun e w' => e = .returned (.int .i64 (chkItem x)) ∧ Below w.heap.size w w' := by
  obtain ⟨c, m, l⟩ := x
  have hch : Hid (chkItem ⟨c, m, l⟩ = if ¬ (c.toNat : Int) = 10 ∧ ((c.toNat : Int) < 32 ∨ 126 < (c.toNat : Int)) then 1
    else if m < 0 ∨ 3 < m then 3 else if l ≠ [] ∧ ((c.toNat : Int) = 10 ∨ may l = false) then 4 else 0) := rfl
  go_enter Tryd.func111, Tryd.ntmps111
  go_wp2_with (go_at_call 24; refine (mayBe_any _ _).mono ?_; rintro e w1 ⟨rfl, hb⟩)
  all_goals
    go_ret
    go_light
    refine ⟨congrArg (fun n => Ending.returned (Value.int IntKind.i64 n)) ?_, ?_⟩
    · rw [hch.out]
      clear hch
      first | (simp_all; done) | (simp_all; rw [if_neg (by omega), if_neg (by omega)])
    · first | exact bal (brf _) _ | exact (bal (brf _) _).trans ((by assumption : Below _ _ _).mono (by simp))

set_option maxHeartbeats 400000 in
theorem checkItems_any (F : Nat → Prop) (v : Value) (L : List It) (w : World) (h : RItems F w v L) :
    Calls Tryd.prog 70 #[v] w fun e w' => e = .returned (.int .i64 (chkItems L)) ∧ Below w.heap.size w w' := by
  obtain ⟨a, cap, rfl, hn⟩ := RdS.len h
  go_enter Tryd.func70, Tryd.ntmps70
  go_wp2
  go_loopw [8] (fun i wr => ∃ k : Nat, k ≤ L.length ∧ i = .int .i64 k ∧ (∀ x ∈ L.take k, chkItem x = 0) ∧ Below w.heap.size w wr) (fun i _ => L.length - (intOf i).toNat)
  case atStart => exact ⟨0, Nat.zero_le _, rfl, by simp, Below.refl _ _⟩
  case round =>
    obtain ⟨k, hk, rfl, hall, hb⟩ := hrel
    have hal := Lib.hid hall; clear hall
    by_cases hlt : k < L.length
    · obtain ⟨x, hx⟩ : ∃ x, L[k]? = some x := ⟨_, List.getElem?_eq_getElem hlt⟩
      obtain ⟨b, o, rfl, c0, c1, c2⟩ := RItems.at h hb hx
      have hx' := Lib.hid hx; clear hx
      have H := Lib.hid h; clear h
      obtain ⟨c, m, l⟩ := x
      go_wp2_with (go_at_call 111; refine (checkItem_any ⟨c, m, l⟩ _).mono ?_; rintro e w1 ⟨rfl, hb1⟩)
      · have hne : chkItem ⟨c, m, l⟩ ≠ 0 := bne_iff_ne.1 (show (chkItem ⟨c, m, l⟩ != 0) = true by assumption)
        have hfin := Lib.hid (chkItems_some hx'.out hne hal.out)
        go_ret
        exact ⟨by rw [hfin.out]; rfl, (bal hb _).trans (hb1.mono (by have := hb.size; simp; omega))⟩
      · have heq : chkItem ⟨c, m, l⟩ = 0 := by simpa using (show (chkItem ⟨c, m, l⟩ != 0) = false by assumption)
        go_roundw
        case rel => exact ⟨k + 1, by omega, by go_num, take_snoc_mem hx'.out hal.out heq, (bal hb _).trans (hb1.mono (by have := hb.size; simp; omega))⟩
        case measure => simp [intOf]; omega
    · obtain rfl : k = L.length := by omega
      rw [List.take_length] at hal
      have hfin := Lib.hid (chkItems_none hal.out)
      go_wp2
      go_ret
      exact ⟨by rw [hfin.out]; rfl, hb⟩

set_option maxHeartbeats 400000 in
theorem checkDoc_any (F : Nat → Prop) (v : Value) (L : List It) (w : World) (h : RItems F w v L) :
    Calls Tryd.prog 30 #[v] w fun e w' => e = .returned (.int .i64 (chkDoc L)) ∧ Below w.heap.size w w' := by
  have hitems := Lib.hid (fun w' (hb : Below w.heap.size w w') => checkItems_any F v L w' (h.to (Kp.below hb)))
  obtain ⟨a, cap, rfl, hn⟩ := RdS.len h
  by_cases h80 : 80 < L.length
  · have hfin := Lib.hid (chkDoc_many h80)
    have H := Lib.hid h; clear h
    have h80' : (80 : Int) < (L.length : Int) := by omega
    go_enter Tryd.func30, Tryd.ntmps30
    go_wp2
    go_ret
    exact ⟨by rw [hfin.out]; rfl, Below.refl _ _⟩
  have h80' : ¬ (80 : Int) < (L.length : Int) := by omega
  by_cases hit : chkItems L = 0
  · have hit' := Lib.hid hit
    rcases Nat.eq_zero_or_pos L.length with h0 | hpos
    · obtain rfl : L = [] := List.eq_nil_of_length_eq_zero h0
      have hfin := Lib.hid chkDoc_nil
      clear hit h0 h80
      have H := Lib.hid h; clear h
      go_enter Tryd.func30, Tryd.ntmps30
      go_wp2_with (go_at_call 70; refine (hitems.out _ (Below.refl _ _)).mono ?_; rintro e w1 ⟨rfl, hb⟩; rw [hit'.out])
      go_ret
      exact ⟨by rw [hfin.out]; rfl, hb⟩
    · obtain ⟨x, hx⟩ : ∃ x, L[L.length - 1]? = some x := ⟨_, List.getElem?_eq_getElem (by omega)⟩
      have hfin := Lib.hid (chkDoc_last h80 hit hx)
      obtain ⟨k, hk⟩ : ∃ k, L.length = k + 1 := ⟨L.length - 1, by omega⟩
      clear hit h80 hpos
      have hk1 : L.length - 1 = k := by omega
      rw [hk1] at hx
      clear hk1
      have hx' := Lib.hid hx; clear hx
      have H := Lib.hid h; clear h
      obtain ⟨b, o, rfl, _⟩ := RItems.at H.out (Below.refl _ _) hx'.out
      obtain ⟨c, m, l⟩ := x
      generalize L.length = n at *
      subst hk
      have hni : ((k : Int) + 1 == 0) = false := by rw [beq_eq_false_iff_ne]; omega
      by_cases hc : (c.toNat : Int) = 10
      · have hcb : ((c.toNat : Int) != 10) = false := by simpa using hc
        simp only [hc, if_true] at hfin
        clear hc
        go_enter Tryd.func30, Tryd.ntmps30
        go_wp2_with (go_at_call 70; refine (hitems.out _ (Below.refl _ _)).mono ?_; rintro e w1 ⟨rfl, hb⟩; rw [hit'.out]; obtain ⟨b', o', e', c0, c1, c2⟩ := RItems.at H.out hb hx'.out; cases e')
        go_ret
        exact ⟨by rw [hfin.out]; rfl, hb⟩
      · have hcb : ((c.toNat : Int) != 10) = true := by simpa using hc
        simp only [hc, if_false] at hfin
        clear hc
        go_enter Tryd.func30, Tryd.ntmps30
        go_wp2_with (go_at_call 70; refine (hitems.out _ (Below.refl _ _)).mono ?_; rintro e w1 ⟨rfl, hb⟩; rw [hit'.out]; obtain ⟨b', o', e', c0, c1, c2⟩ := RItems.at H.out hb hx'.out; cases e')
        go_ret
        exact ⟨by rw [hfin.out]; rfl, hb⟩
  · have hfin := Lib.hid (chkDoc_items h80 hit)
    have hit' : (chkItems L != 0) = true := by simpa using hit
    have H := Lib.hid h; clear h h80 hit
    go_enter Tryd.func30, Tryd.ntmps30
    go_wp2_with (go_at_call 70; refine (hitems.out _ (Below.refl _ _)).mono ?_; rintro e w1 ⟨rfl, hb⟩)
    go_ret
    exact ⟨by rw [hfin.out]; rfl, hb⟩

end Go.Proofs.YtjbidchdjpmonaaDoor
