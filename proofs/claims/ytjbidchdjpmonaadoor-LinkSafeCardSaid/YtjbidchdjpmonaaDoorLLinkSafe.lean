/- The law LinkSafe, walked. -/
import Derived.Test.YtjbidchdjpmonaaDoorClean
import Derived.Test.YtjbidchdjpmonaaDoorPlY
namespace Go.Mh
theorem contains_sub (a b c : Bs) : Lib.contains (a ++ c ++ b) c = true := by
  unfold Lib.contains
  rcases Lib.index_spec (a ++ c ++ b) c with ⟨_, h2⟩ | ⟨i, h1, _⟩
  · have := h2 a.length (by simp)
    unfold Lib.occAt at this
    rw [List.append_assoc, List.drop_left] at this
    have hp : c.isPrefixOf (c ++ b) = true := by rw [List.isPrefixOf_iff_prefix]; exact List.prefix_append _ _
    rw [hp] at this
    cases this
  · rw [h1]; simp
theorem okC_none {c : Bs} (h : ∀ x ∈ c, okC x = true) : Lib.containsAny c [32, 9, 10, 13, 34, 39, 60, 62] = false := by
  rw [Go.Proofs.YtjbidchdjpmonaaDoor.containsAny_iff, List.any_eq_false]
  intro x hx
  have := (Go.Proofs.YtjbidchdjpmonaaDoor.okC_iff x).1 (h x hx)
  simp only [List.contains_eq_mem, List.mem_cons, List.not_mem_nil, or_false, decide_eq_true_eq]
  rintro (rfl | rfl | rfl | rfl | rfl | rfl | rfl | rfl) <;> revert this <;> decide
end Go.Mh
namespace Go.Proofs.YtjbidchdjpmonaaDoor
open Go.RowKit Go.Mh

set_option maxRecDepth 100000 in
set_option maxHeartbeats 4000000 in
theorem linkSafe_walk (S : Bs) (w : World) (hm : ∃ m, w.cell? ⟨0, 0, none⟩ = some (.int .i64 m)) (hS : S.length ≤ 140737488355328) :
    Calls Tryd.prog 6 #[str S] w fun e w' => e = .returned (.bool true) ∧ Below w.heap.size w w' := by
  have hM := Lib.hid (fun w' (hb : Below w.heap.size w w') => somec hm hb)
  clear hm
  by_cases hlong : 20000 < S.length
  · have C := Lib.hid (fun w' => clean_p S ([], 2) (if_pos hlong) w')
    clear hlong
    go_enter Tryd.func6, Tryd.ntmps6
    go_wp2_with fail
    refine (C.out _).mono ?_
    rintro e w1 ⟨rfl, hb1⟩
    go_wp2_with fail
    refine (led_any _).mono ?_
    rintro e w2 ⟨rfl, hb2⟩
    go_wp2_with fail
    refine (led_any _).mono ?_
    rintro e w3 ⟨rfl, hb3⟩
    go_wp2
    go_ret
    exact ⟨rfl, btr (btr hb1 hb2) hb3⟩
  · have C := Lib.hid (fun w' => clean_p S (cleanT S, 0) (if_neg hlong) w')
    by_cases he : cleanT S = []
    · rw [he] at C
      clear hlong he
      go_enter Tryd.func6, Tryd.ntmps6
      go_wp2_with fail
      refine (C.out _).mono ?_
      rintro e w1 ⟨rfl, hb1⟩
      go_wp2_with fail
      refine (led_any _).mono ?_
      rintro e w2 ⟨rfl, hb2⟩
      go_wp2_with fail
      refine (led_any _).mono ?_
      rintro e w3 ⟨rfl, hb3⟩
      go_wp2
      go_ret
      exact ⟨rfl, btr (btr hb1 hb2) hb3⟩
    · obtain ⟨hmay, hcc, ⟨a, b, hab⟩, hok⟩ := law_clean he
      have hlen : S.length < 4294967281 := by omega
      clear hlong
      obtain ⟨c, hc⟩ : ∃ c, cleanT S = c := ⟨_, rfl⟩
      rw [hc] at C he hmay hcc hab hok
      clear hc
      have hcl := may_len hmay
      have D := Lib.hid (fun w' => clean_p c (c, 0) (by unfold cleanP; rw [if_neg (by omega), hcc]) w')
      have M := Lib.hid (fun w' => may_p c true hmay w')
      have K := Lib.hid (fun w' m hm' => Tryd.strings_Contains ⟨S.toArray⟩ ⟨c.toArray⟩ m w' hlen hm')
      have kc : Hid (Lib.contains (⟨S.toArray⟩ : ByteArray).data.toList (⟨c.toArray⟩ : ByteArray).data.toList = true) := Lib.hid (by show Lib.contains S c = true; rw [hab]; exact contains_sub a b c)
      have N := Lib.hid (fun w' => containsAny_any c [32, 9, 10, 13, 34, 39, 60, 62] w' (ascii_of (by decide)) (by decide) (by decide) (by omega))
      have kn := Lib.hid (okC_none hok)
      have he1 : (c == []) = false := by simpa using he
      have he2 : c.isEmpty = false := by simpa using he
      have hsch := Lib.hid (may_scheme hmay)
      have Z := Lib.hid (fun w' => scheme_any c w' (by omega) (may_ascii hmay))
      generalize scheme c = x at hsch Z
      clear he hmay hcc hab hok hcl
      go_enter Tryd.func6, Tryd.ntmps6
      go_wp2_with fail
      refine (C.out _).mono ?_
      rintro e w1 ⟨rfl, hb1⟩
      go_wp2_with fail
      refine (led_any _).mono ?_
      rintro e w2 ⟨rfl, hb2⟩
      go_wp2_with fail
      refine (D.out _).mono ?_
      rintro e w3 ⟨rfl, hb3⟩
      go_wp2_with fail
      refine (M.out _).mono ?_
      rintro e w4 ⟨rfl, hb4⟩
      have hB4 := btr (btr (btr hb1 hb2) hb3) hb4
      clear hb1 hb2 hb3 hb4
      go_wp2_with fail
      obtain ⟨m, hm⟩ := hM.out _ hB4
      refine (K.out _ m hm).mono ?_
      clear hm
      rintro e w5 ⟨rfl, rfl⟩
      rw [kc.out]
      go_wp2_with fail
      refine (N.out _).mono ?_
      rintro e w6 ⟨rfl, hb6⟩
      rw [kn.out]
      go_wp2_with fail
      refine (Z.out _).mono ?_
      rintro e w7 ⟨rfl, hb7⟩
      have hB7 := btr (btr hB4 hb6) hb7
      rcases hsch.out with rfl | rfl | rfl
      · go_wp2
        go_ret
        exact ⟨rfl, hB7⟩
      · go_wp2
        go_ret
        exact ⟨rfl, hB7⟩
      · go_wp2
        go_ret
        exact ⟨rfl, hB7⟩
end Go.Proofs.YtjbidchdjpmonaaDoor
