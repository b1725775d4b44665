/- The law SanitizeHides, walked. -/
import Derived.Test.YtjbidchdjpmonaaDoorBy
namespace Go.Mh
theorem index_in (c : UInt8) (l : Bs) : decide (0 ≤ Lib.indexByte l c) = decide (c ∈ l) := by
  by_cases h : c ∈ l
  · rw [decide_eq_true h]
    apply decide_eq_true
    rw [indexByte_some h]
    exact Int.natCast_nonneg _
  · rw [decide_eq_false h, indexByte_none h]
    rfl
end Go.Mh
namespace Go.Proofs.YtjbidchdjpmonaaDoor
open Go.RowKit Go.Mh

set_option maxRecDepth 1000000 in
set_option maxHeartbeats 8000000 in
theorem sanitizeHides_walk (A B I : Bs) (w : World) (hm : ∃ m, w.cell? ⟨0, 0, none⟩ = some (.int .i64 m)) (z0 : A.length ≤ 140737488355328) (z1 : B.length ≤ 140737488355328) (z2 : I.length ≤ 140737488355328) :
    Calls Tryd.prog 15 #[str A, str B, str I] w fun e w' => e = .returned (.bool true) ∧ Below w.heap.size w w' := by
  have hM := Lib.hid (fun w' (hb : Below w.heap.size w w') => somec hm hb)
  clear hm
  obtain ⟨b1, hb1⟩ : ∃ b, decide (60 ∈ A ++ I) = b := ⟨_, rfl⟩
  obtain ⟨b2, hb2⟩ : ∃ b, decide ((5000 : Int) < (A.length : Int)) = b := ⟨_, rfl⟩
  obtain ⟨b3, hb3⟩ : ∃ b, decide ((5000 : Int) < (B.length : Int)) = b := ⟨_, rfl⟩
  obtain ⟨b4, hb4⟩ : ∃ b, decide ((5000 : Int) < (I.length : Int)) = b := ⟨_, rfl⟩
  have K1 := Lib.hid (show decide (0 ≤ Lib.indexByte ((⟨A.toArray⟩ : ByteArray) ++ (⟨I.toArray⟩ : ByteArray)).data.toList 60) = b1 by rw [← hb1, index_in]; simp [ByteArray.data_append])
  have hz := Lib.hid (show (b1 || b2 || b3 || b4) = false → 60 ∉ A ∧ 60 ∉ I ∧ A.length ≤ 5000 ∧ B.length ≤ 5000 ∧ I.length ≤ 5000 from fun h => by
    simp only [Bool.or_eq_false_iff] at h
    obtain ⟨⟨⟨q1, q2⟩, q3⟩, q4⟩ := h
    rw [q1] at hb1; rw [q2] at hb2; rw [q3] at hb3; rw [q4] at hb4
    have r1 := of_decide_eq_false hb1
    have r2 := of_decide_eq_false hb2
    have r3 := of_decide_eq_false hb3
    have r4 := of_decide_eq_false hb4
    simp only [List.mem_append, not_or] at r1
    exact ⟨r1.1, r1.2, by omega, by omega, by omega⟩)
  clear hb1
  go_enter Tryd.func15, Tryd.ntmps15
  go_wp2_with fail
  refine (paged_any _ (hM.out _ (brf _))).mono ?_
  rintro e w1 ⟨rfl, hq1⟩
  go_wp2_with fail
  refine (Tryd.strings_Contains_one _ 60 w1).mono ?_
  rintro e w1' ⟨rfl, rfl⟩
  rw [K1.out]
  have hq1' := Lib.hid hq1
  clear hq1 K1
  cases b1 with
  | true =>
    clear hz
    go_wp2_with fail
    refine (paged_any _ (hM.out _ hq1'.out)).mono ?_
    rintro e w2 ⟨rfl, hq2⟩
    go_wp2
    go_ret
    exact ⟨rfl, btr hq1'.out hq2⟩
  | false =>
  cases b2 with
  | true =>
    clear hz
    go_wp2_with fail
    refine (paged_any _ (hM.out _ hq1'.out)).mono ?_
    rintro e w2 ⟨rfl, hq2⟩
    go_wp2
    go_ret
    exact ⟨rfl, btr hq1'.out hq2⟩
  | false =>
  cases b3 with
  | true =>
    clear hz
    go_wp2_with fail
    refine (paged_any _ (hM.out _ hq1'.out)).mono ?_
    rintro e w2 ⟨rfl, hq2⟩
    go_wp2
    go_ret
    exact ⟨rfl, btr hq1'.out hq2⟩
  | false =>
  cases b4 with
  | true =>
    clear hz
    go_wp2_with fail
    refine (paged_any _ (hM.out _ hq1'.out)).mono ?_
    rintro e w2 ⟨rfl, hq2⟩
    go_wp2
    go_ret
    exact ⟨rfl, btr hq1'.out hq2⟩
  | false =>
  obtain ⟨y1, y2, y3, y4, y5⟩ := hz.out rfl
  have LW := Lib.hid (fun x hx => law_hides (x := x) y1 y2 y3 y4 y5 hx)
  obtain ⟨P, hP⟩ : ∃ P, sanP (A ++ (opn nU ++ B)) = P := ⟨_, rfl⟩
  rw [hP] at LW
  have hP' := Lib.hid hP
  clear hz y1 y2 hP z0 z1 z2
  have hl1 := Lib.hid (show (A ++ (opn nU ++ B)).length ≤ maxLen by simp [maxLen, opn, nU]; omega)
  have hs1 := Lib.hid (show Value.string ((⟨A.toArray⟩ : ByteArray) ++ (⟨#[60, 117, 62]⟩ : ByteArray) ++ (⟨B.toArray⟩ : ByteArray)) = str (A ++ (opn nU ++ B)) from str_eq (by simp [ByteArray.data_append, opn, nU]))
  have hP2 := hP'.out
  generalize A ++ (opn nU ++ B) = S at hl1 hs1 hP2
  have hP3 := Lib.hid hP2
  clear hP' hP2
  go_wp2_with (refine wpList_bytes_rd _ rfl 9 47 _ rfl 5 Tryd.underlying9 Tryd.underlying47 Tryd.underlying5 S hl1.out hs1.out ?_; intro w2 cap hx2 hq2)
  have hQ2 := btr hq1'.out hq2
  have C := Lib.hid (sanPage_p P hP3.out hx2 (hM.out _ hQ2))
  clear hx2 hq2
  go_wp2_with fail
  refine C.out.mono ?_
  rintro e w3 ⟨r, rfl, hr, hq3⟩
  obtain ⟨ra, rc, rfl, _⟩ := RdS.len hr
  have hQ3 := Lib.hid (btr hQ2 hq3)
  have HR := Lib.hid (fun w' (hb : Below w3.heap.size w3 w') => RItems.to (F' := fun _ => True) hr (fun k hk hlt => ⟨trivial, hb.block k hlt⟩))
  clear C hr hq3 hQ2 hq1'
  have e1 := Lib.hid (show Value.string ((⟨#[60, 115, 99, 114, 105, 112, 116, 62]⟩ : ByteArray) ++ (⟨I.toArray⟩ : ByteArray) ++ (⟨#[60, 47, 115, 99, 114, 105, 112, 116, 62]⟩ : ByteArray)) = str (hid1 I) from str_eq (by simp [ByteArray.data_append, hid1, opn, cls, nScript]))
  have e2 := Lib.hid (show Value.string ((⟨#[60, 83, 84, 89, 76, 69, 32, 120, 61, 121, 62]⟩ : ByteArray) ++ (⟨I.toArray⟩ : ByteArray) ++ (⟨#[60, 47, 115, 116, 121, 108, 101, 62]⟩ : ByteArray)) = str (hid2 I) from str_eq (by simp [ByteArray.data_append, hid2, styO, cls, nStyle]))
  go_wp2
  go_loopw [54] (fun iv wr => ∃ i : Nat, i ≤ 4 ∧ iv = .int .i64 i ∧ wr.heap[w3.heap.size]? = some (.cells #[str (hid1 I), str (hid2 I), str hid3, str hid4] 9 (0, 0)) ∧ Below w3.heap.size w3 wr) (fun iv _ => 4 - (intOf iv).toNat)
  case atStart => exact ⟨0, by omega, by go_num, by rw [← e1.out, ← e2.out]; exact heap_new w3 _, bal (brf w3) _⟩
  case round =>
    obtain ⟨i, hi, rfl, hx, hb⟩ := hrel
    by_cases hlt : i < 4
    · obtain ⟨x, hxx, hc, hxl⟩ : ∃ x, (x = hid1 I ∨ x = hid2 I ∨ x = hid3 ∨ x = hid4) ∧ wr.cell? ⟨w3.heap.size, i, none⟩ = some (str x) ∧ x.length ≤ 5030 := by
        unfold World.cell?
        rw [hx]
        match i, hlt with
        | 0, _ => exact ⟨_, Or.inl rfl, rfl, by simp [hid1, opn, cls, nScript]; omega⟩
        | 1, _ => exact ⟨_, Or.inr (Or.inl rfl), rfl, by simp [hid2, styO, cls, nStyle]; omega⟩
        | 2, _ => exact ⟨_, Or.inr (Or.inr (Or.inl rfl)), rfl, by simp [hid3, opn, cls, nU]⟩
        | 3, _ => exact ⟨_, Or.inr (Or.inr (Or.inr rfl)), rfl, by simp [hid4, opn, nSpan]⟩
      have LX := Lib.hid (LW.out x hxx)
      have hx' := Lib.hid hx
      have hb' := Lib.hid hb
      clear hxx hx hb
      have hl2 := Lib.hid (show (A ++ (opn nU ++ (x ++ B))).length ≤ maxLen by simp [maxLen, opn, nU]; omega)
      have hs2 := Lib.hid (show Value.string ((⟨A.toArray⟩ : ByteArray) ++ (⟨#[60, 117, 62]⟩ : ByteArray) ++ (⟨x.toArray⟩ : ByteArray) ++ (⟨B.toArray⟩ : ByteArray)) = str (A ++ (opn nU ++ (x ++ B))) from str_eq (by simp [ByteArray.data_append, opn, nU]))
      have LX2 := LX.out
      generalize A ++ (opn nU ++ (x ++ B)) = S2 at hl2 hs2 LX2
      have LX3 := Lib.hid LX2
      clear LX LX2
      go_wp2_with (refine wpList_bytes_rd _ rfl 9 47 _ rfl 5 Tryd.underlying9 Tryd.underlying47 Tryd.underlying5 S2 hl2.out hs2.out ?_; intro w4 cap2 hx4 hq4)
      have hQ4 := btr hb'.out hq4
      have C := Lib.hid (sanPage_p P LX3.out hx4 (hM.out _ (btr hQ3.out hQ4)))
      have hxb := hq4.block _ (lt_of_heap hx'.out)
      clear hx4 hq4
      go_wp2_with fail
      refine C.out.mono ?_
      rintro e w5 ⟨r5, rfl, hr5, hq5⟩
      obtain ⟨r5a, r5c, rfl, _⟩ := RdS.len hr5
      have hQ5 := btr hQ4 hq5
      have hx5 := Lib.hid ((hq5.block _ (by have := hQ4.size; have := lt_of_heap (hxb.trans hx'.out); exact this)).trans (hxb.trans hx'.out))
      have hr5' := Lib.hid hr5
      clear C hr5 hQ4 hxb
      have hqq : (P.2 != P.2) = false := by simp
      go_wp2_with fail
      refine (same_any _ _ _ _ P.1 P.1 w5 hr5'.out (HR.out _ hQ5)).mono ?_
      rintro e w6 ⟨rfl, hq6⟩
      rw [decide_eq_true rfl]
      go_wp2
      go_roundw
      case rel => exact ⟨i + 1, by omega, by go_num, (hq6.block _ (lt_of_heap hx5.out)).trans hx5.out, btr hQ5 hq6⟩
      case measure => simp [intOf]; omega
    · obtain rfl : i = 4 := by omega
      go_wp2
      go_ret
      exact ⟨rfl, btr hQ3.out hb⟩
end Go.Proofs.YtjbidchdjpmonaaDoor
