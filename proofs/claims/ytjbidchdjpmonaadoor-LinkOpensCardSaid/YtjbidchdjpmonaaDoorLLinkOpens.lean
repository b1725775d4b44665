/- The law LinkOpens, walked. -/
import Derived.Test.YtjbidchdjpmonaaDoorClean
import Derived.Test.YtjbidchdjpmonaaDoorPlY
namespace Go.Mh
theorem fold_lower : ∀ h : Bs, Lib.equalFold (lower h) h = true
  | [] => rfl
  | c :: h => by
    have ih := fold_lower h
    have hf : Lib.foldEq (lowB c) c = true := by
      unfold Lib.foldEq
      rw [decide_eq_true_eq]
      by_cases hc : 65 ≤ (c.toNat : Int) ∧ (c.toNat : Int) ≤ 90
      · have := lowB_up hc.1 hc.2
        omega
      · left; rw [lowB_id hc]
    show Lib.equalFold (lowB c :: lower h) (c :: h) = true
    rw [Lib.equalFold_yes _ _ _ _ hf, ih]
theorem scheme_low {s : Bs} (_ : 58 ∈ s) (hne : scheme s ≠ []) : scheme s = lower (s.takeWhile (· != 58)) := by
  unfold scheme at hne ⊢
  split
  · rfl
  · rename_i h2; rw [if_neg h2] at hne; exact absurd rfl hne
end Go.Mh
namespace Go.Proofs.YtjbidchdjpmonaaDoor
open Go.RowKit Go.Mh

theorem splitN_any (s : Bs) (w : World) (hs : s.length < 4294967281) (h : 58 ∈ s) (hm : ∃ m, w.cell? ⟨0, 0, none⟩ = some (.int .i64 m)) :
    Calls Tryd.prog 43 #[str s, .string ⟨#[58]⟩, .int .i64 2] w fun e w' => e = .returned (.slice (some ⟨w.heap.size, 0, none⟩) 2 2) ∧ w'.cell? ⟨w.heap.size, 0, none⟩ = some (str (s.takeWhile (· != 58))) ∧ Below w.heap.size w w' := by
  obtain ⟨m, hm⟩ := hm
  have hpos : 0 < s.length := List.length_pos_of_mem h
  have hmin : min 2 ((⟨s.toArray⟩ : ByteArray).size + 1) = 2 := by show min 2 (s.length + 1) = 2; omega
  have hix : Lib.indexB ⟨s.toArray⟩ ⟨#[58]⟩ = ((s.takeWhile (· != 58)).length : Nat) := by
    show Lib.index s [58] = _
    rw [indexByte_ix, indexByte_some h]
  have hsp := Lib.splitB_hit ⟨#[58]⟩ 0 0 ⟨s.toArray⟩ _ hix
  rw [Lib.splitB_zero] at hsp
  refine (Tryd.strings_SplitN ⟨s.toArray⟩ ⟨#[58]⟩ 2 m w hs hm (Nat.le_refl 1) (by decide) (by decide)).mono ?_
  rintro e w' ⟨rfl, rfl⟩
  rw [hmin, hsp]
  refine ⟨rfl, ?_, bal (brf w) _⟩
  unfold World.cell?
  rw [show (w.alloc _).heap[w.heap.size]? = _ from heap_new w _]
  show some (Value.string ((⟨s.toArray⟩ : ByteArray).extract 0 ((s.takeWhile (· != 58)).length + 0))) = _
  rw [Nat.add_zero, str_take, take_takeWhile]

set_option maxRecDepth 100000 in
set_option maxHeartbeats 4000000 in
theorem linkOpens_walk (S T : Bs) (w : World) (hm : ∃ m, w.cell? ⟨0, 0, none⟩ = some (.int .i64 m)) (hS : S.length ≤ 140737488355328) (hT : T.length ≤ 140737488355328) :
    Calls Tryd.prog 11 #[str S, str T] w fun e w' => e = .returned (.bool true) ∧ Below w.heap.size w w' := by
  have hM := Lib.hid (fun w' (hb : Below w.heap.size w w') => somec hm hb)
  clear hm
  have hap : Value.string ((⟨S.toArray⟩ : ByteArray) ++ (⟨#[58]⟩ : ByteArray) ++ (⟨T.toArray⟩ : ByteArray)) = str (S ++ 58 :: T) := by
    rw [show (⟨#[58]⟩ : ByteArray) = ⟨([58] : Bs).toArray⟩ from rfl]
    apply congrArg
    apply ByteArray.ext
    simp [ByteArray.data_append]
  have hap2 : (⟨S.toArray⟩ : ByteArray) ++ (⟨#[58]⟩ : ByteArray) ++ (⟨T.toArray⟩ : ByteArray) = ⟨(S ++ 58 :: T).toArray⟩ := by
    have := hap
    injection this
  have hsz : ((⟨S.toArray⟩ : ByteArray) ++ (⟨#[58]⟩ : ByteArray)).size = S.length + 1 := by rw [ByteArray.size_append]; rfl
  cases hmay : may (S ++ 58 :: T) with
  | false =>
    have M := Lib.hid (fun w' => may_p (S ++ 58 :: T) false hmay w')
    have hA := Lib.hid hap
    have hA2 := Lib.hid hap2
    clear hmay hap hap2
    go_enter Tryd.func11, Tryd.ntmps11
    go_wp2_with fail
    rw [hA2.out]
    refine (M.out _).mono ?_
    rintro e w1 ⟨rfl, hb1⟩
    go_wp2_with fail
    refine (led_any _).mono ?_
    rintro e w2 ⟨rfl, hb2⟩
    go_wp2_with fail
    refine (led_any _).mono ?_
    rintro e w3 ⟨rfl, hb3⟩
    go_wp2
    go_ret
    exact ⟨rfl, btr (btr hb1 hb2) hb3⟩
  | true =>
    have M := Lib.hid (fun w' => may_p (S ++ 58 :: T) true hmay w')
    have hlen := may_len hmay
    obtain ⟨ho1, ho2⟩ := law_opens hmay
    have hin : 58 ∈ S ++ 58 :: T := by simp
    have hsc := may_scheme hmay
    have hne : scheme (S ++ 58 :: T) ≠ [] := by rcases hsc with e | e | e <;> rw [e] <;> decide
    have Z := Lib.hid (fun w' => scheme_any (S ++ 58 :: T) w' (by omega) (may_ascii hmay))
    have P := Lib.hid (fun w' hm' => splitN_any (S ++ 58 :: T) w' (by omega) hin hm')
    have hlow := scheme_low hin hne
    have hasc : Ascii ((S ++ 58 :: T).takeWhile (· != 58)) := fun j b hj => by
      obtain ⟨i, hi⟩ := List.getElem?_of_mem (List.takeWhile_subset _ (List.mem_of_getElem? hj))
      exact may_ascii hmay i b hi
    have hhl : ((S ++ 58 :: T).takeWhile (· != 58)).length ≤ 24 := by have := takeWhile_len_lt hin; omega
    generalize (S ++ 58 :: T).takeWhile (· != 58) = h at hlow hasc hhl P
    have hxa : Ascii (scheme (S ++ 58 :: T)) := by rcases hsc with e | e | e <;> rw [e] <;> exact ascii_of (by decide)
    have hxl : (scheme (S ++ 58 :: T)).length < 4294967281 := by rcases hsc with e | e | e <;> rw [e] <;> decide
    obtain ⟨x, hx⟩ : ∃ x, scheme (S ++ 58 :: T) = x := ⟨_, rfl⟩
    rw [hx] at Z hsc hlow hxa hxl ho1
    clear hx hne
    have N := Lib.hid (fun w' => may_p (x ++ [58]) true ho1 w')
    have F := Lib.hid (fun w' => Tryd.strings_EqualFold ⟨x.toArray⟩ ⟨h.toArray⟩ w' hxl (fun j b hj => hxa j b hj) (fun j b hj => hasc j b hj))
    have hf := Lib.hid (show Lib.equalFold (⟨x.toArray⟩ : ByteArray).data.toList (⟨h.toArray⟩ : ByteArray).data.toList = true by show Lib.equalFold x h = true; rw [hlow]; exact fold_lower h)
    have hcs : Hid (Lib.containsS schemesZ ⟨x.toArray⟩ = true) := Lib.hid (by rw [contains_schemes]; rcases hsc with rfl | rfl | rfl <;> decide)
    have hxap : (⟨x.toArray⟩ : ByteArray) ++ (⟨#[58]⟩ : ByteArray) = ⟨(x ++ [58]).toArray⟩ := by
      apply ByteArray.ext
      simp [ByteArray.data_append]
    have hXA := Lib.hid hxap
    have hxl2 : x.length ≤ 6 := by rcases hsc with rfl | rfl | rfl <;> decide
    have hA2 := Lib.hid hap2
    clear hmay hap hap2 hlow hasc hxa hxl ho1 ho2 hin hsc hxap
    go_enter Tryd.func11, Tryd.ntmps11
    go_wp2_with fail
    rw [hA2.out]
    refine (M.out _).mono ?_
    rintro e w1 ⟨rfl, hb1⟩
    go_wp2_with fail
    refine (led_any _).mono ?_
    rintro e w2 ⟨rfl, hb2⟩
    go_wp2_with fail
    refine (Z.out _).mono ?_
    rintro e w3 ⟨rfl, hb3⟩
    have hB3 := btr (btr hb1 hb2) hb3
    clear hb1 hb2 hb3
    go_wp2_with fail
    rw [hXA.out]
    refine (N.out _).mono ?_
    rintro e w4 ⟨rfl, hb4⟩
    have hB4 := btr hB3 hb4
    clear hB3 hb4
    go_wp2_with fail
    have hcells : ∀ j, j < schemesZ.length → (w4.alloc (.cells #[str sHttp, str sHttps, str sMailto] 9)).cell? ⟨w4.heap.size, 0 + j, none⟩ = some (.string (schemesZ.getD j ByteArray.empty)) := by
      intro j hj
      unfold World.cell?
      rw [heap_new]
      match j, hj with
      | 0, _ => rfl
      | 1, _ => rfl
      | 2, _ => rfl
    refine (Tryd.slices_Contains_string w4.heap.size 0 3 3 schemesZ ⟨x.toArray⟩ _ (by decide) (by decide) hcells).mono ?_
    rintro e w5 ⟨rfl, rfl⟩
    rw [show Lib.containsS (List.take 3 schemesZ) ⟨x.toArray⟩ = true from hcs.out]
    clear hcells
    have hB5 := bal hB4 (.cells #[str sHttp, str sHttps, str sMailto] 9)
    generalize w4.alloc (.cells #[str sHttp, str sHttps, str sMailto] 9) = w5 at *
    go_wp2_with fail
    refine (P.out _ (hM.out _ hB5)).mono ?_
    rintro e w6 ⟨rfl, hc6, hb6⟩
    have hB6 := btr hB5 hb6
    go_wp2_with fail
    refine (F.out _).mono ?_
    rintro e w7 ⟨rfl, rfl⟩
    rw [hf.out]
    go_wp2
    go_ret
    exact ⟨rfl, hB6⟩
end Go.Proofs.YtjbidchdjpmonaaDoor
