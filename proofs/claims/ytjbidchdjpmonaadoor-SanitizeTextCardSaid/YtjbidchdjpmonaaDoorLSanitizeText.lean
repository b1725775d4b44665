/- The law SanitizeText, walked. -/
import Derived.Test.YtjbidchdjpmonaaDoorBy
namespace Go.Mh
theorem textDoc_len (S : Bs) : (textDoc S).length = S.length + 1 := by simp [textDoc]
theorem textDoc_at {S : Bs} {i : Nat} {c : UInt8} (h : S[i]? = some c) : (textDoc S)[i]? = some ⟨chr1 c, 0, []⟩ := by
  have hl := (List.getElem?_eq_some_iff.1 h).1
  unfold textDoc
  rw [List.getElem?_append_left (by simpa using hl), List.getElem?_map, h]
  rfl
theorem textDoc_end (S : Bs) : (textDoc S)[S.length]? = some ⟨10, 0, []⟩ := by
  unfold textDoc
  rw [List.getElem?_append_right (by simp)]
  simp
theorem chr1_keep {c : UInt8} (h1 : 32 ≤ c.toNat) (h2 : c.toNat ≤ 126) : chr1 c = c := by
  have n : ∀ d : UInt8, d.toNat < 32 → c ≠ d := fun d hd e => by subst e; omega
  unfold chr1
  rw [if_neg (by rintro (e | e | e | e) <;> (revert e; exact n _ (by decide))), if_neg (by rw [UInt8.lt_iff_toNat_lt, UInt8.lt_iff_toNat_lt]; show ¬(c.toNat < 32 ∨ 126 < c.toNat); omega)]
end Go.Mh
namespace Go.Proofs.YtjbidchdjpmonaaDoor
open Go.RowKit Go.Mh

set_option maxRecDepth 1000000 in
set_option maxHeartbeats 8000000 in
theorem sanitizeText_walk (S : Bs) (w : World) (hm : ∃ m, w.cell? ⟨0, 0, none⟩ = some (.int .i64 m)) (z0 : S.length ≤ 140737488355328) :
    Calls Tryd.prog 14 #[str S] w fun e w' => e = .returned (.bool true) ∧ Below w.heap.size w w' := by
  have hM := Lib.hid (fun w' (hb : Below w.heap.size w w') => somec hm hb)
  have W := Lib.hid (fun w' => writtenSo_any S w' z0)
  clear hm
  obtain ⟨b1, hb1⟩ : ∃ b, ((S.length : Int) == 0) = b := ⟨_, rfl⟩
  obtain ⟨b2, hb2⟩ : ∃ b, decide ((79 : Int) < (S.length : Int)) = b := ⟨_, rfl⟩
  go_enter Tryd.func14, Tryd.ntmps14
  go_wp2_with fail
  refine (paged_any _ (hM.out _ (brf _))).mono ?_
  rintro e w1 ⟨rfl, hq1⟩
  have hq1' := Lib.hid hq1
  clear hq1
  cases b1 with
  | true =>
    go_wp2_with fail
    refine (paged_any _ (hM.out _ hq1'.out)).mono ?_
    rintro e w2 ⟨rfl, hq2⟩
    go_wp2
    go_ret
    exact ⟨rfl, btr hq1'.out hq2⟩
  | false =>
  cases b2 with
  | true =>
    go_wp2_with fail
    refine (paged_any _ (hM.out _ hq1'.out)).mono ?_
    rintro e w2 ⟨rfl, hq2⟩
    go_wp2
    go_ret
    exact ⟨rfl, btr hq1'.out hq2⟩
  | false =>
  have hl79 : S.length ≤ 79 := by have := of_decide_eq_false hb2; omega
  have hne : S ≠ [] := by intro e; subst e; simp at hb1
  have LT := law_text hne hl79
  have hDl0 := textDoc_len S
  have hDa := Lib.hid (fun i c (h : S[i]? = some c) => textDoc_at h)
  have hDe := Lib.hid (textDoc_end S)
  generalize textDoc S = D at LT hDl0 hDa hDe
  have hTl := (write_len S).2
  generalize writeE S = T at W LT hTl
  have hT : T.length ≤ 480 := by omega
  obtain ⟨LT1, LT2⟩ := LT
  have hs2 := Lib.hid (show Value.string ((⟨#[60, 100, 105, 118, 62]⟩ : ByteArray) ++ (⟨T.toArray⟩ : ByteArray)) = str ([60, 100, 105, 118, 62] ++ T) from str_eq (by simp [ByteArray.data_append]))
  have hl2 : ([60, 100, 105, 118, 62] ++ T).length ≤ maxLen := by simp [maxLen]; omega
  have hl1 : T.length ≤ maxLen := by simp [maxLen]; omega
  generalize [60, 100, 105, 118, 62] ++ T = T2 at hs2 hl2 LT2
  have LT1' := Lib.hid LT1
  have LT2' := Lib.hid LT2
  have hl1' := Lib.hid hl1
  have hl2' := Lib.hid hl2
  have hne' := Lib.hid hne
  have hDl := Lib.hid hDl0
  clear hDl0 LT1 LT2 hl1 hl2 hne hTl
  go_wp2_with fail
  refine (W.out w1).mono ?_
  rintro e w1x ⟨rfl, rfl⟩
  go_wp2_with (refine wpList_bytes_rd _ rfl 9 47 _ rfl 5 Tryd.underlying9 Tryd.underlying47 Tryd.underlying5 T hl1'.out rfl ?_; intro w2 cap hx2 hq2)
  have hQ2 := btr hq1'.out hq2
  have C := Lib.hid (sanPage_p (D, 0) LT1'.out hx2 (hM.out _ hQ2))
  clear hx2 hq2 hq1'
  go_wp2_with fail
  refine C.out.mono ?_
  rintro e w3 ⟨r, rfl, hr, hq3⟩
  obtain ⟨ra, rc, rfl, _⟩ := RdS.len hr
  have hQ3 := Lib.hid (btr hQ2 hq3)
  have HR := Lib.hid (fun w' (hb : Below w3.heap.size w3 w') => RItems.to (F' := fun _ => True) hr (fun k hk hlt => ⟨trivial, hb.block k hlt⟩))
  clear C hr hq3 hQ2
  go_wp2_with fail
  refine (W.out w3).mono ?_
  rintro e w3x ⟨rfl, hw3⟩
  rw [hw3]
  clear hw3
  go_wp2_with (refine wpList_bytes_rd _ rfl 9 47 _ rfl 5 Tryd.underlying9 Tryd.underlying47 Tryd.underlying5 T2 hl2'.out hs2.out ?_; intro w4 cap hx4 hq4)
  have C := Lib.hid (sanPage_p (D, 0) LT2'.out hx4 (hM.out _ (btr hQ3.out hq4)))
  clear hx4
  go_wp2_with fail
  refine C.out.mono ?_
  rintro e w5 ⟨r5, rfl, hr5, hq5⟩
  obtain ⟨r5a, r5c, rfl, _⟩ := RdS.len hr5
  have hQ5 := btr hq4 hq5
  have hr5' := Lib.hid hr5
  clear C hr5 hq4 hq5
  have eL : ((D.length : Int) != (S.length : Int) + 1) = false := by rw [hDl.out]; simp
  go_wp2_with fail
  refine (same_any _ _ _ _ D D w5 hr5'.out (HR.out _ hQ5)).mono ?_
  rintro e w6 ⟨rfl, hq6⟩
  have hQ6 := Lib.hid (btr hQ5 hq6)
  clear hQ5 hq6 hr5'
  rw [decide_eq_true rfl]
  go_wp2
  go_loopw [59] (fun iv wr => ∃ i : Nat, i ≤ S.length ∧ iv = .int .i64 i ∧ Below w3.heap.size w3 wr) (fun iv _ => S.length - (intOf iv).toNat)
  case atStart => exact ⟨0, Nat.zero_le _, by go_num, hQ6.out⟩
  case round =>
    obtain ⟨i, hi, rfl, hb⟩ := hrel
    have hb' := Lib.hid hb
    by_cases hlt : i < S.length
    · obtain ⟨c, hc⟩ : ∃ c, S[i]? = some c := ⟨_, List.getElem?_eq_getElem hlt⟩
      obtain ⟨b, o, e0, c0, c1, c2⟩ := RItems.at (HR.out w3 (brf _)) hb (hDa.out i c hc)
      have hg := str_get hc (by exact hlt)
      subst e0
      simp only at c0 c1 c2
      have hd1 : i < D.length := by have := hDl.out; omega
      clear hc hb
      have hck := Lib.hid (fun h1 h2 => chr1_keep (c := c) h1 h2)
      cases h5 : decide ((32 : Int) ≤ (c.toNat : Int)) with
      | true =>
        cases h6 : decide ((c.toNat : Int) ≤ 126) with
        | true =>
          have hcc := hck.out (by have := of_decide_eq_true h5; omega) (by have := of_decide_eq_true h6; omega)
          rw [hcc] at c0
          have h7 : ((c.toNat : Int) != (c.toNat : Int)) = false := by simp
          clear hcc hck
          go_wp2_with fail
          go_quiet (fail)
          go_wp2
          go_roundw
          case rel => exact ⟨i + 1, by omega, by go_num, below_drewN (bal hb'.out _) _⟩
          case measure => simp [intOf]; omega
        | false =>
          clear hck
          go_wp2_with fail
          go_quiet (fail)
          go_wp2
          go_roundw
          case rel => exact ⟨i + 1, by omega, by go_num, below_drewN (bal hb'.out _) _⟩
          case measure => simp [intOf]; omega
      | false =>
        clear hck
        go_wp2_with fail
        go_quiet (fail)
        go_wp2
        go_roundw
        case rel => exact ⟨i + 1, by omega, by go_num, below_drewN (bal hb'.out _) _⟩
        case measure => simp [intOf]; omega
    · obtain rfl : i = S.length := by omega
      obtain ⟨b, o, e0, c0, c1, c2⟩ := RItems.at (HR.out w3 (brf _)) hb hDe.out
      subst e0
      simp only at c0 c1 c2
      have hd1 : S.length < D.length := by have := hDl.out; omega
      clear hb
      go_wp2
      go_ret
      exact ⟨rfl, btr hQ3.out hb'.out⟩
end Go.Proofs.YtjbidchdjpmonaaDoor
