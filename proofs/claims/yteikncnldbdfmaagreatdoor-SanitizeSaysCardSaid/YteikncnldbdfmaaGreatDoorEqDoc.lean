/- slices.Equal: at items. -/
import Derived.Test.YteikncnldbdfmaaGreatDoorCmp
namespace Go.Proofs.YteikncnldbdfmaaGreatDoor
open Go.RowKit Go.Mh

set_option maxHeartbeats 800000 in
theorem eqDoc_any (F G : Nat → Prop) (v u : Value) (L M : List It) (w : World) (h : RItems F w v L) (g : RItems G w u M) :
    Calls Tryz.prog 24 #[v, u] w fun e w' => e = .returned (.bool (decide (L = M))) ∧ Below w.heap.size w w' := by
  obtain ⟨a, cap, rfl, hn⟩ := RdS.len h
  obtain ⟨a', cap', rfl, hn'⟩ := RdS.len g
  by_cases hlen : L.length = M.length
  · have hle : ((L.length : Int) != (M.length : Int)) = false := by simp [hlen]
    go_enter Tryz.func24, Tryz.ntmps24
    have hlen' := Lib.hid hlen; clear hlen
    go_wp2
    clear hle
    go_loopw [5, 13] (fun _ i wr => ∃ k : Nat, k ≤ L.length ∧ i = .int .i64 k ∧ L.take k = M.take k ∧ Below w.heap.size w wr) (fun _ i _ => L.length - (intOf i).toNat)
    case atStart => exact ⟨0, Nat.zero_le _, rfl, rfl, Below.refl _ _⟩
    case round =>
      obtain ⟨k, hk, rfl, hpre, hb⟩ := hrel
      have hpre' := Lib.hid hpre; clear hpre
      by_cases hlt : k < L.length
      · obtain ⟨x, hx⟩ : ∃ x, L[k]? = some x := ⟨_, List.getElem?_eq_getElem hlt⟩
        have hlt' : k < M.length := by rw [← hlen'.out]; exact hlt
        obtain ⟨y, hy⟩ : ∃ y, M[k]? = some y := ⟨_, List.getElem?_eq_getElem hlt'⟩
        obtain ⟨b, o, rfl, c0, c1, c2⟩ := RItems.at h hb hx
        obtain ⟨b', o', rfl, d0, d1, d2⟩ := RItems.at g hb hy
        have hx' := Lib.hid hx; clear hx
        have hy' := Lib.hid hy; clear hy
        have H := Lib.hid h; clear h
        have G' := Lib.hid g; clear g
        have hgd := guard_Item
        have hcmp := fun w => neqItem x y w
        by_cases hxy : x = y
        · have hd : decide (x = y) = true := by simpa using hxy
          obtain ⟨c, m, l⟩ := x
          obtain ⟨c', m', l'⟩ := y
          simp only [hd, Bool.not_true] at hcmp
          have hxy' := Lib.hid hxy; clear hxy hd
          go_wp2_with fail
          go_quiet (fail)
          go_wp2
          go_roundw
          case rel => exact ⟨k + 1, by omega, by go_num, by rw [List.take_add_one, List.take_add_one, hx'.out, hy'.out, hpre'.out, hxy'.out], bdrewN hb _⟩
          case measure => simp [intOf]; omega
        · have hd : decide (x = y) = false := by simpa using hxy
          have hfin : Hid (decide (L = M) = false) := by
            show decide (L = M) = false
            rw [decide_eq_false_iff_not]
            intro e
            rw [e, hy'.out] at hx'
            exact hxy (Option.some.inj hx'.out).symm
          obtain ⟨c, m, l⟩ := x
          obtain ⟨c', m', l'⟩ := y
          simp only [hd, Bool.not_false] at hcmp
          have hxy' := Lib.hid hxy; clear hxy hd
          go_wp2_with fail
          go_quiet (fail)
          go_wp2
          go_ret
          exact ⟨by rw [hfin.out]; rfl, bdrewN hb _⟩
      · obtain rfl : k = L.length := by omega
        have hfin : Hid (decide (L = M) = true) := by
          show decide (L = M) = true
          have := hpre'.out
          rw [List.take_length, hlen'.out, List.take_length] at this
          simpa using this
        go_wp2
        go_ret
        exact ⟨by rw [hfin.out]; rfl, hb⟩
  · have hle : ((L.length : Int) != (M.length : Int)) = true := by
      rw [bne_iff_ne]; omega
    have hfin : Hid (decide (L = M) = false) := by
      show decide (L = M) = false
      rw [decide_eq_false_iff_not]
      intro e
      exact hlen (by rw [e])
    clear hlen
    go_enter Tryz.func24, Tryz.ntmps24
    go_wp2
    go_ret
    exact ⟨by rw [hfin.out]; rfl, Below.refl _ _⟩

theorem eqDoc_same (F G : Nat → Prop) (v u : Value) (L : List It) (w : World) (h : RItems F w v L) (g : RItems G w u L) :
    Calls Tryz.prog 24 #[v, u] w fun e w' => e = .returned (.bool true) ∧ Below w.heap.size w w' := by
  refine (eqDoc_any F G v u L L w h g).mono ?_
  rintro e w' ⟨rfl, hb⟩
  exact ⟨by simp, hb⟩

end Go.Proofs.YteikncnldbdfmaaGreatDoor
