/- The closed fact escaped; the laws EscapeBack and EscapeOnce, walked. -/
import Derived.Test.YtjbidchdjpmonaaDoorEscW
import Derived.Test.YtjbidchdjpmonaaDoorAny
namespace Go.Mh
theorem esc_len {l : Bs} (h : ¬ 20000 < l.length) : readP (writeE l) = (l, 0) := by
  have := (write_len l).2
  unfold readP
  rw [if_neg (by omega), read_write]
theorem esc_none {l : Bs} : Lib.containsAny (writeE l) [60, 62, 34] = false := by
  rw [Go.Proofs.YtjbidchdjpmonaaDoor.containsAny_iff, List.any_eq_false]
  intro c hc
  obtain ⟨h1, h2, h3⟩ := write_safe l
  simp only [List.contains_eq_mem, List.mem_cons, List.not_mem_nil, or_false, decide_eq_true_eq]
  rintro (rfl | rfl | rfl)
  · exact h1 hc
  · exact h2 hc
  · exact h3 hc
theorem ascii3 : Go.Proofs.YtjbidchdjpmonaaDoor.Ascii [60, 62, 34] := by
  intro j b hj
  have := List.mem_of_getElem? hj
  simp at this
  rcases this with rfl | rfl | rfl <;> decide
theorem ascii4 : Go.Proofs.YtjbidchdjpmonaaDoor.Ascii [38, 60, 62, 34] := by
  intro j b hj
  have := List.mem_of_getElem? hj
  simp at this
  rcases this with rfl | rfl | rfl | rfl <;> decide
end Go.Mh
namespace Go.Proofs.YtjbidchdjpmonaaDoor
open Go.RowKit Go.Mh

theorem wrap_id {x : Int} (h0 : 0 ≤ x) (h1 : x ≤ 4611686018427387904) : wrap64 x = x := by unfold wrap64; omega

theorem app_toList (a b : Bs) : ((⟨a.toArray⟩ : ByteArray) ++ (⟨b.toArray⟩ : ByteArray)).toList = a ++ b := by
  rw [Lib.toList_data]; simp [ByteArray.data_append]

theorem once_arith (s n1 n2 n3 n4 : Nat) (hs : s ≤ 20000) (h1 : n1 ≤ s) (h2 : n2 ≤ s) (h3 : n3 ≤ s) (h4 : n4 ≤ s) :
    wrap64 ((s : Int) + 4 * n1) = s + 4 * n1 ∧ wrap64 ((s : Int) + 4 * n1 + 3 * n2) = s + 4 * n1 + 3 * n2 ∧ wrap64 ((s : Int) + 4 * n1 + 3 * n2 + 3 * n3) = s + 4 * n1 + 3 * n2 + 3 * n3 ∧
      wrap64 ((s : Int) + 4 * n1 + 3 * n2 + 3 * n3 + 5 * n4) = s + 4 * n1 + 3 * n2 + 3 * n3 + 5 * n4 :=
  ⟨wrap_id (by omega) (by omega), wrap_id (by omega) (by omega), wrap_id (by omega) (by omega), wrap_id (by omega) (by omega)⟩

theorem escWrite_p (l : Bs) (p : Bs × Int) (hp : writeP l = p) (w : World) (hm : ∃ m, w.cell? ⟨0, 0, none⟩ = some (.int .i64 m)) :
    Calls Tryd.prog 16 #[str l] w fun e w' => e = .returned (.tuple #[str p.1, .int .i64 p.2]) ∧ Below w.heap.size w w' := by
  subst hp; exact escWrite_any l w hm
theorem escRead_p (l : Bs) (p : Bs × Int) (hp : readP l = p) (w : World) (hl : l.length ≤ maxLen) :
    Calls Tryd.prog 18 #[str l] w fun e w' => e = .returned (.tuple #[str p.1, .int .i64 p.2]) ∧ Below w.heap.size w w' := by
  subst hp; exact escRead_any l w hl

set_option maxHeartbeats 1000000 in
theorem escaped_any (w : World) (hm : ∃ m, w.cell? ⟨0, 0, none⟩ = some (.int .i64 m)) :
    Calls Tryd.prog 17 #[] w fun e w' => e = .returned (.bool true) ∧ Below w.heap.size w w' := by
  have C := Lib.hid (escWrite_p [97, 60, 98, 62, 38, 34] ([97, 38, 108, 116, 59, 98, 38, 103, 116, 59, 38, 97, 109, 112, 59, 38, 113, 117, 111, 116, 59], 0) (by decide +kernel) w hm)
  have D := Lib.hid (fun w' => escRead_p [38, 97, 109, 112, 59, 108, 116, 59, 38, 120, 59] ([38, 108, 116, 59, 38, 120, 59], 0) (by decide +kernel) w' (by decide))
  clear hm
  go_enter Tryd.func17, Tryd.ntmps17
  go_wp2_with fail
  refine C.out.mono ?_
  rintro e w1 ⟨rfl, hb1⟩
  go_wp2_with fail
  refine (D.out _).mono ?_
  rintro e w2 ⟨rfl, hb2⟩
  go_wp2
  go_ret
  exact ⟨rfl, btr hb1 hb2⟩

set_option maxRecDepth 100000 in
set_option maxHeartbeats 4000000 in
theorem escapeBack_walk (S T : Bs) (w : World) (hm : ∃ m, w.cell? ⟨0, 0, none⟩ = some (.int .i64 m)) (hS : S.length ≤ 140737488355328) (hT : T.length ≤ 140737488355328) :
    Calls Tryd.prog 3 #[str S, str T] w fun e w' => e = .returned (.bool true) ∧ Below w.heap.size w w' := by
  have hM := Lib.hid (fun w' (hb : Below w.heap.size w w') => somec hm hb)
  clear hm
  by_cases hlong : 20000 < S.length
  · have C := Lib.hid (escWrite_p S ([], 2) (if_pos hlong) w (hM.out _ (brf _)))
    clear hlong
    go_enter Tryd.func3, Tryd.ntmps3
    go_wp2_with fail
    refine C.out.mono ?_
    rintro e w1 ⟨rfl, hb1⟩
    go_wp2_with fail
    refine (escaped_any _ (hM.out _ hb1)).mono ?_
    rintro e w2 ⟨rfl, hb2⟩
    go_wp2_with fail
    refine (escaped_any _ (hM.out _ (btr hb1 hb2))).mono ?_
    rintro e w3 ⟨rfl, hb3⟩
    go_wp2
    go_ret
    exact ⟨rfl, btr (btr hb1 hb2) hb3⟩
  · have C := Lib.hid (escWrite_p S (writeE S, 0) (if_neg hlong) w (hM.out _ (brf _)))
    have hwl := (write_len S)
    have D := Lib.hid (fun w' => escRead_p (writeE S) (S, 0) (esc_len hlong) w' (by unfold maxLen; omega))
    have E := Lib.hid (fun w' => containsAny_any (writeE S) [60, 62, 34] w' ascii3 (by decide) (by decide) (by omega))
    have hlt : decide (((writeE S).length : Int) < (S.length : Int)) = false := by simp; omega
    have hlt' : decide ((writeE S).length < S.length) = false := by simp; omega
    obtain ⟨X, hX⟩ : ∃ X, writeE S = X := ⟨_, rfl⟩
    have hXX := Lib.hid hX
    have hcn := Lib.hid (esc_none (l := S))
    rw [hX] at C D E hlt hlt' hwl hcn
    clear hX
    have hSl := Lib.hid hlong
    clear hlong hwl
    go_enter Tryd.func3, Tryd.ntmps3
    go_wp2_with fail
    refine C.out.mono ?_
    rintro e w1 ⟨rfl, hb1⟩
    go_wp2_with fail
    refine (escaped_any _ (hM.out _ hb1)).mono ?_
    rintro e w2 ⟨rfl, hb2⟩
    go_wp2_with fail
    refine (D.out _).mono ?_
    rintro e w3 ⟨rfl, hb3⟩
    go_wp2_with fail
    refine (E.out _).mono ?_
    rintro e w4 ⟨rfl, hb4⟩
    rw [hcn.out]
    have hB4 := btr (btr (btr hb1 hb2) hb3) hb4
    clear hb1 hb2 hb3 hb4 C D E
    by_cases hlt2 : 20000 < T.length
    · have F := Lib.hid (fun w' hm' => escWrite_p T ([], 2) (if_pos hlt2) w' hm')
      clear hlt2
      go_wp2_with fail
      refine (F.out _ (hM.out _ hB4)).mono ?_
      rintro e w5 ⟨rfl, hb5⟩
      have hB5 := btr hB4 hb5
      go_wp2_with fail
      rw [str_append]
      refine (escWrite_any _ _ (hM.out _ hB5)).mono ?_
      rintro e w6 ⟨rfl, hb6⟩
      go_wp2
      go_ret
      exact ⟨rfl, btr hB5 hb6⟩
    · have F := Lib.hid (fun w' hm' => escWrite_p T (writeE T, 0) (if_neg hlt2) w' hm')
      have hTl := Lib.hid hlt2
      clear hlt2
      go_wp2_with fail
      refine (F.out _ (hM.out _ hB4)).mono ?_
      rintro e w5 ⟨rfl, hb5⟩
      have hB5 := btr hB4 hb5
      by_cases hl3 : 20000 < (S ++ T).length
      · have G := Lib.hid (fun w' hm' => escWrite_p (S ++ T) ([], 2) (if_pos hl3) w' hm')
        clear hl3
        go_wp2_with fail
        rw [str_append]
        refine (G.out _ (hM.out _ hB5)).mono ?_
        rintro e w6 ⟨rfl, hb6⟩
        go_wp2
        go_ret
        exact ⟨rfl, btr hB5 hb6⟩
      · have G := Lib.hid (fun w' hm' => escWrite_p (S ++ T) (writeE (S ++ T), 0) (if_neg hl3) w' hm')
        have he : writeE (S ++ T) = X ++ writeE T := by rw [writeE_append, hXX.out]
        rw [he] at G
        clear hl3 he
        obtain ⟨Y, hY⟩ : ∃ Y, writeE T = Y := ⟨_, rfl⟩
        have hYl : Y.length ≤ 120000 := by rw [← hY]; have := (write_len T).2; have := hTl.out; omega
        have hXl : X.length ≤ 120000 := by rw [← hXX.out]; have := (write_len S).2; have := hSl.out; omega
        rw [hY] at G ⊢
        clear hY
        go_wp2_with fail
        rw [str_append]
        refine (G.out _ (hM.out _ hB5)).mono ?_
        rintro e w6 ⟨rfl, hb6⟩
        go_wp2
        go_ret
        exact ⟨by simp [app_toList], btr hB5 hb6⟩

set_option maxRecDepth 100000 in
set_option maxHeartbeats 4000000 in
theorem escapeOnce_walk (S : Bs) (w : World) (hm : ∃ m, w.cell? ⟨0, 0, none⟩ = some (.int .i64 m)) (hS : S.length ≤ 140737488355328) :
    Calls Tryd.prog 4 #[str S] w fun e w' => e = .returned (.bool true) ∧ Below w.heap.size w w' := by
  have hM := Lib.hid (fun w' (hb : Below w.heap.size w w') => somec hm hb)
  clear hm
  by_cases hlong : 20000 < S.length
  · have C := Lib.hid (escWrite_p S ([], 2) (if_pos hlong) w (hM.out _ (brf _)))
    clear hlong
    go_enter Tryd.func4, Tryd.ntmps4
    go_wp2_with fail
    refine C.out.mono ?_
    rintro e w1 ⟨rfl, hb1⟩
    go_wp2_with fail
    refine (escaped_any _ (hM.out _ hb1)).mono ?_
    rintro e w2 ⟨rfl, hb2⟩
    go_wp2_with fail
    refine (escaped_any _ (hM.out _ (btr hb1 hb2))).mono ?_
    rintro e w3 ⟨rfl, hb3⟩
    go_wp2
    go_ret
    exact ⟨rfl, btr (btr hb1 hb2) hb3⟩
  · have C := Lib.hid (escWrite_p S (writeE S, 0) (if_neg hlong) w (hM.out _ (brf _)))
    have hct := Lib.hid (write_count S)
    have c1 := List.count_le_length (a := 38) (l := S)
    have c2 := List.count_le_length (a := 60) (l := S)
    have c3 := List.count_le_length (a := 62) (l := S)
    have c4 := List.count_le_length (a := 34) (l := S)
    have K := Lib.hid (fun (c : UInt8) w' => Tryd.strings_Count_one ⟨S.toArray⟩ c w')
    have E := Lib.hid (fun w' => containsAny_any S [38, 60, 62, 34] w' ascii4 (by decide) (by decide) (by omega))
    have hpl : Hid (Lib.containsAny S [38, 60, 62, 34] = false → writeE S = S) := Lib.hid (fun h => by
      rw [containsAny_iff, List.any_eq_false] at h
      refine write_plain fun c hc => ?_
      have := h c hc
      simpa using this)
    obtain ⟨X, hX⟩ : ∃ X, writeE S = X := ⟨_, rfl⟩
    rw [hX] at C hct hpl
    clear hX
    obtain ⟨n1, e1⟩ : ∃ n : Nat, S.count 38 = n := ⟨_, rfl⟩
    obtain ⟨n2, e2⟩ : ∃ n : Nat, S.count 60 = n := ⟨_, rfl⟩
    obtain ⟨n3, e3⟩ : ∃ n : Nat, S.count 62 = n := ⟨_, rfl⟩
    obtain ⟨n4, e4⟩ : ∃ n : Nat, S.count 34 = n := ⟨_, rfl⟩
    have k1 : Hid (Lib.countByte (⟨S.toArray⟩ : ByteArray).data.toList 38 = n1) := Lib.hid e1
    have k2 : Hid (Lib.countByte (⟨S.toArray⟩ : ByteArray).data.toList 60 = n2) := Lib.hid e2
    have k3 : Hid (Lib.countByte (⟨S.toArray⟩ : ByteArray).data.toList 62 = n3) := Lib.hid e3
    have k4 : Hid (Lib.countByte (⟨S.toArray⟩ : ByteArray).data.toList 34 = n4) := Lib.hid e4
    rw [e1, e2, e3, e4] at hct
    rw [e1] at c1
    rw [e2] at c2
    rw [e3] at c3
    rw [e4] at c4
    have hl : S.length ≤ 20000 := by omega
    have w1' : wrap64 (4 * (n1 : Int)) = 4 * n1 := wrap_id (by omega) (by omega)
    have w2' : wrap64 (3 * (n2 : Int)) = 3 * n2 := wrap_id (by omega) (by omega)
    have w3' : wrap64 (3 * (n3 : Int)) = 3 * n3 := wrap_id (by omega) (by omega)
    have w4' : wrap64 (5 * (n4 : Int)) = 5 * n4 := wrap_id (by omega) (by omega)
    obtain ⟨x1, x2, x3, x4⟩ := once_arith S.length n1 n2 n3 n4 hl c1 c2 c3 c4
    have heq : ((X.length : Int) == (S.length : Int) + 4 * n1 + 3 * n2 + 3 * n3 + 5 * n4) = true := by rw [beq_iff_eq, hct.out]; push_cast; rfl
    clear e1 e2 e3 e4 hlong c1 c2 c3 c4 hct hl
    go_enter Tryd.func4, Tryd.ntmps4
    go_wp2_with fail
    refine C.out.mono ?_
    rintro e w1 ⟨rfl, hb1⟩
    go_wp2_with fail
    refine (escaped_any _ (hM.out _ hb1)).mono ?_
    rintro e w2 ⟨rfl, hb2⟩
    go_wp2_with fail
    refine (K.out 38 _).mono ?_
    rintro e w3 ⟨rfl, rfl⟩
    rw [k1.out]
    go_wp2_with fail
    refine (K.out 60 _).mono ?_
    rintro e w3 ⟨rfl, rfl⟩
    rw [k2.out]
    go_wp2_with fail
    refine (K.out 62 _).mono ?_
    rintro e w3 ⟨rfl, rfl⟩
    rw [k3.out]
    go_wp2_with fail
    refine (K.out 34 _).mono ?_
    rintro e w3 ⟨rfl, rfl⟩
    rw [k4.out]
    clear k1 k2 k3 k4 K
    go_wp2_with fail
    refine (E.out _).mono ?_
    rintro e w4 ⟨rfl, hb4⟩
    cases hcn : Lib.containsAny S [38, 60, 62, 34] with
    | true =>
      go_wp2
      go_ret
      exact ⟨rfl, btr (btr hb1 hb2) hb4⟩
    | false =>
      have he := hpl.out hcn
      subst he
      go_wp2
      go_ret
      exact ⟨rfl, btr (btr hb1 hb2) hb4⟩
end Go.Proofs.YtjbidchdjpmonaaDoor
