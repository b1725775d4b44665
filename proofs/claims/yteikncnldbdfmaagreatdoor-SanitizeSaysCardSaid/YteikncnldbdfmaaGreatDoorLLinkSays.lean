/- LinkSays: any address is told, and cleaned, as the document says; walked. -/
import Derived.Test.YteikncnldbdfmaaGreatDoorClean
import Derived.Test.YteikncnldbdfmaaGreatDoorRefS
namespace Go.Mh
theorem tset_idx_fin : ∀ n : Fin 256, Lib.contains [32, 9, 13, 10, 12] [UInt8.ofNat n.val] = tset (UInt8.ofNat n.val) := by decide +kernel
theorem tset_idx (c : UInt8) : Lib.contains [32, 9, 13, 10, 12] [c] = tset c := by
  have := tset_idx_fin ⟨c.toNat, c.toNat_lt⟩
  simpa using this
theorem nil_or_snoc (l : Bs) : l = [] ∨ ∃ p z, l = p ++ [z] := by
  rcases List.eq_nil_or_concat l with h | ⟨p, z, h⟩
  · exact Or.inl h
  · exact Or.inr ⟨p, z, by rw [h]; simp⟩
theorem rdw_snoc (p : UInt8 → Bool) (l : Bs) (c : UInt8) : rdw p (l ++ [c]) = if p c = true then rdw p l else l ++ [c] := by
  unfold rdw
  rw [List.reverse_append, List.reverse_singleton, List.singleton_append, List.dropWhile_cons]
  split
  · rfl
  · simp
end Go.Mh
namespace Go.Proofs.YteikncnldbdfmaaGreatDoor
open Go.RowKit Go.Mh

set_option maxRecDepth 100000 in
set_option maxHeartbeats 4000000 in
theorem cleanOf_any (l : Bs) (w : World) (hm : ∃ m, w.cell? ⟨2, 0, none⟩ = some (.int .i64 m)) (hl : l.length ≤ 20000) :
    Calls Tryz.prog 79 #[str l] w fun e w' => e = .returned (str (cleanT l)) ∧ Below w.heap.size w w' := by
  obtain ⟨m, hm⟩ := hm
  have K := Lib.hid (fun c => show Calls Tryz.prog 140 #[.string ⟨#[32, 9, 13, 10, 12]⟩, .string ⟨#[c]⟩] w (fun e w' => e = .returned (.bool (tset c)) ∧ w' = w) from (Tryz.strings_Contains ⟨#[32, 9, 13, 10, 12]⟩ ⟨#[c]⟩ m w (by decide) hm).mono (fun e w' h => ⟨h.1.trans (by rw [← tset_idx c]), h.2⟩))
  clear hm
  have hfin : Hid (∀ s, s = rdw tset (l.dropWhile tset) → cleanT l = if may s = true then s else []) := Lib.hid (fun s hs => by subst hs; rfl)
  go_enter Tryz.func79, Tryz.ntmps79
  go_wp2
  go_loopw [0] (fun sv wr => ∃ s, sv = str s ∧ s.length ≤ l.length ∧ Hid (s.dropWhile tset = l.dropWhile tset) ∧ wr = w) (fun sv _ => szOf sv)
  case atStart => exact ⟨l, rfl, Nat.le_refl _, Lib.hid rfl, rfl⟩
  case round =>
    obtain ⟨s, rfl, hs, hd, rfl⟩ := hrel
    cases s with
    | nil =>
      have hf := Lib.hid (hfin.out [] (by rw [← hd.out]; rfl))
      go_wp2
      go_loopw [0] (fun sv wx => sv = str [] ∧ wx = wr) (fun _ _ => 0)
      case atStart => exact ⟨rfl, rfl⟩
      case round =>
        obtain ⟨rfl, rfl⟩ := hrel
        go_wp2_with fail
        refine (mayBe_any [] _).mono ?_
        rintro e w1 ⟨rfl, hb⟩
        go_wp2
        go_ret
        exact ⟨by rw [hf.out]; rfl, hb⟩
    | cons c s =>
      cases hc : tset c with
      | true =>
        have C := Lib.hid (K.out c)
        rw [hc] at C
        have e1 : Value.string ((⟨(c :: s).toArray⟩ : ByteArray).extract 0 1) = .string ⟨#[c]⟩ := by rw [ext_str]; simp
        go_wp2_with fail
        refine C.out.mono ?_
        rintro e w1 ⟨rfl, rfl⟩
        go_wp2
        go_roundw
        case rel => exact ⟨s, str_tail c s, by simp at hs; omega, Lib.hid (by rw [← hd.out]; simp [hc]), by first | rfl | trivial⟩
        case measure => rw [str_tail, szOf_str, szOf_str]; simp
      | false =>
        have C := Lib.hid (K.out c)
        rw [hc] at C
        have e1 : Value.string ((⟨(c :: s).toArray⟩ : ByteArray).extract 0 1) = .string ⟨#[c]⟩ := by rw [ext_str]; simp
        have hd2 : Hid (l.dropWhile tset = c :: s) := Lib.hid (by rw [← hd.out]; simp [hc])
        go_wp2_with fail
        refine C.out.mono ?_
        rintro e w1 ⟨rfl, rfl⟩
        clear C
        go_wp2
        obtain ⟨d, hdd⟩ : ∃ d, c :: s = d := ⟨_, rfl⟩
        have hdl : d.length ≤ 20000 := by rw [← hdd]; omega
        have hd3 : Hid (l.dropWhile tset = d) := Lib.hid (hd2.out.trans hdd)
        have hd4 := Lib.hid hdd
        clear hdd
        obtain ⟨wo, rfl⟩ : ∃ wo, wo = w1 := ⟨_, rfl⟩
        go_loopw [0] (fun sv wx => ∃ t, sv = str t ∧ t.length ≤ d.length ∧ Hid (rdw tset t = rdw tset d) ∧ wx = wo) (fun sv _ => szOf sv)
        case atStart => exact ⟨d, by rw [← hd4.out], Nat.le_refl _, Lib.hid rfl, rfl⟩
        case round =>
          obtain ⟨t, rfl, ht, hr, rfl⟩ := hrel
          rcases nil_or_snoc t with rfl | ⟨p, z, rfl⟩
          · have hf := Lib.hid (hfin.out [] (by rw [hd3.out, ← hr.out]; rfl))
            go_wp2_with fail
            refine (mayBe_any [] _).mono ?_
            rintro e w1 ⟨rfl, hb⟩
            go_wp2
            go_ret
            exact ⟨by rw [hf.out]; rfl, hb⟩
          · have hz := rdw_snoc tset p z
            have hlen : (p ++ [z]).length = p.length + 1 := by simp
            have hpl : p.length ≤ 20000 := by omega
            have e1 : Value.string ((⟨(p ++ [z]).toArray⟩ : ByteArray).extract p.length (p.length + 1)) = str [z] := by
              rw [ext_str, ← hlen, List.take_length, List.drop_left]
            have e2 : Value.string ((⟨(p ++ [z]).toArray⟩ : ByteArray).extract 0 p.length) = str p := by rw [ext_str]; simp
            have hw1 : wrap64 ((p.length : Int) + 1 - 1) = (p.length : Int) := by unfold wrap64; omega
            have hne : (p ++ [z]).isEmpty = false := by simp
            have C := Lib.hid (K.out z)
            cases hc : tset z with
            | true =>
              rw [hc] at C
              rw [hc, if_pos rfl] at hz
              have hr2 : Hid (rdw tset p = rdw tset d) := Lib.hid (by rw [← hr.out, hz])
              clear hz hr
              go_wp2_with fail
              refine C.out.mono ?_
              rintro e w1 ⟨rfl, rfl⟩
              go_wp2
              go_roundw
              case rel => exact ⟨p, by first | rfl | exact e2, by simp at ht; omega, hr2, by first | rfl | trivial⟩
              case measure => (try rw [e2]); simp [szOf_str]
            | false =>
              rw [hc] at C
              rw [hc, if_neg (by simp)] at hz
              have hf := Lib.hid (hfin.out (p ++ [z]) (by rw [hd3.out, ← hr.out, hz]))
              clear hz hr
              go_wp2_with fail
              refine C.out.mono ?_
              rintro e w1 ⟨rfl, rfl⟩
              go_wp2_with fail
              refine (mayBe_any (p ++ [z]) _).mono ?_
              rintro e w1 ⟨rfl, hb⟩
              cases hmy : may (p ++ [z]) with
              | true =>
                go_wp2
                go_ret
                exact ⟨by rw [hf.out, hmy]; rfl, hb⟩
              | false =>
                go_wp2
                go_ret
                exact ⟨by rw [hf.out, hmy]; rfl, hb⟩

end Go.Proofs.YteikncnldbdfmaaGreatDoor
