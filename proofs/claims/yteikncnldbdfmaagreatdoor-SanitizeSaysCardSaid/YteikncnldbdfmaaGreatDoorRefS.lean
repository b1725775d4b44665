/- The references on texts: Small, SchemeOf, MayBe. -/
import Derived.Test.YteikncnldbdfmaaGreatDoorLink
import Derived.Test.YteikncnldbdfmaaGreatDoorCmp
namespace Go.Proofs.YteikncnldbdfmaaGreatDoor
open Go.RowKit Go.Mh

def upB : Bs := [65, 66, 67, 68, 69, 70, 71, 72, 73, 74, 75, 76, 77, 78, 79, 80, 81, 82, 83, 84, 85, 86, 87, 88, 89, 90]
theorem idxUp_fin : ∀ n : Fin 256, Lib.indexByte upB (UInt8.ofNat n.val) = if 65 ≤ n.val ∧ n.val ≤ 90 then (n.val : Int) - 65 else -1 := by decide +kernel
theorem idxUp (c : UInt8) : Lib.indexByte upB c = if 65 ≤ c.toNat ∧ c.toNat ≤ 90 then (c.toNat : Int) - 65 else -1 := by
  have h := idxUp_fin ⟨c.toNat, c.toNat_lt⟩
  simpa using h

theorem idxByte_any (l : Bs) (c : UInt8) (w : World) :
    Calls Tryz.prog 78 #[str l, .int .u8 c.toNat] w fun e w' => e = .returned (.int .i64 (Lib.indexByte l c)) ∧ w = w' := by
  refine (Tryz.strings_IndexByte ⟨l.toArray⟩ (c.toNat : Int) w).mono ?_
  rintro e w' ⟨rfl, rfl⟩
  simp

def loB : Bs := [97, 98, 99, 100, 101, 102, 103, 104, 105, 106, 107, 108, 109, 110, 111, 112, 113, 114, 115, 116, 117, 118, 119, 120, 121, 122]
theorem loGet_fin : ∀ n : Fin 26, loB[n.val]? = some (lowB (UInt8.ofNat (n.val + 65))) := by decide +kernel
theorem loGet {c : UInt8} {n : Nat} (hn : c.toNat = n + 65) (h : n < 26) : loB[n]? = some (lowB c) := by
  have := loGet_fin ⟨n, h⟩
  rw [← hn] at this
  simpa using this

theorem lower_snoc {l : Bs} {k : Nat} {c : UInt8} (h : l[k]? = some c) : lower (l.take (k + 1)) = lower (l.take k) ++ [lowB c] := by
  rw [List.take_add_one, h]
  simp [lower]

set_option maxRecDepth 100000 in
set_option maxHeartbeats 400000 in
theorem small_walk (l : Bs) (w : World) (hm : l.length ≤ maxLen) :
    Calls Tryz.prog 137 #[str l] w fun e w' => e = .returned (str (lower l)) ∧ Below w.heap.size w w' := by
  unfold maxLen at hm
  go_enter Tryz.func137, Tryz.ntmps137
  go_wp2
  go_loopw [3, 9] (fun s i wr => ∃ k : Nat, k ≤ l.length ∧ i = .int .i64 k ∧ s = str (lower (l.take k)) ∧ Below w.heap.size w wr) (fun _ i _ => l.length - (intOf i).toNat)
  case atStart => exact ⟨0, Nat.zero_le _, rfl, rfl, brf _⟩
  case round =>
    obtain ⟨k, hk, rfl, rfl, hb⟩ := hrel
    by_cases hlt : k < l.length
    · obtain ⟨c, hc⟩ : ∃ c, l[k]? = some c := ⟨_, List.getElem?_eq_getElem hlt⟩
      have hsn := Lib.hid (lower_snoc hc)
      have hc' := Lib.hid hc; clear hc
      have hup := Lib.hid (idxUp c)
      obtain ⟨p, hp⟩ : ∃ p, p = lower (l.take k) := ⟨_, rfl⟩
      rw [← hp]
      rw [← hp] at hsn
      have hpl : p.length < 9223372036854775807 := by rw [hp]; simp [lower]; omega
      clear hp
      by_cases hr : 65 ≤ c.toNat ∧ c.toNat ≤ 90
      · rw [if_pos hr] at hup
        obtain ⟨n, hn⟩ : ∃ n, c.toNat = n + 65 := ⟨c.toNat - 65, by omega⟩
        have hn26 : n < 26 := by omega
        have hup' : Hid (Lib.indexByte upB c = (n : Int)) := by show _ = _; rw [hup.out]; omega
        have hlo := loGet hn hn26
        clear hup hr hn
        generalize lowB c = d at *
        have hlo' := Lib.hid hlo; clear hlo
        go_wp2_with (first | (refine wpList_index_str rfl 9 (.tmp 12) (.tmp 13) rfl Tryz.underlying9 l .i64 k c rfl rfl hc'.out ?_) | (refine wpList_index_str rfl 9 _ (.tmp 19) rfl Tryz.underlying9 loB .i64 n _ rfl rfl hlo'.out ?_) | (go_at_call 78; refine (idxByte_any upB c _).mono ?_; rintro e w1 ⟨rfl, rfl⟩; rw [hup'.out]) | (refine wpList_string_of rfl (.tmp 23) rfl (fun _ => True) _ _ rfl (RBytes.one (by simp) trivial) ?_))
        go_roundw
        case rel => exact ⟨k + 1, by omega, by go_num, by rw [hsn.out]; exact str_append p _, bal hb _⟩
        case measure => simp [intOf]; omega
      · rw [if_neg hr] at hup
        have hid : lowB c = c := lowB_id (by omega)
        rw [hid] at hsn
        clear hid hr
        go_wp2_with (first | (refine wpList_index_str rfl 9 (.tmp 12) (.tmp 13) rfl Tryz.underlying9 l .i64 k c rfl rfl hc'.out ?_) | (go_at_call 78; refine (idxByte_any upB c _).mono ?_; rintro e w1 ⟨rfl, rfl⟩; rw [hup.out]) | (refine wpList_string_of rfl (.tmp 23) rfl (fun _ => True) _ _ rfl (RBytes.one (by simp) trivial) ?_))
        go_roundw
        case rel => exact ⟨k + 1, by omega, by go_num, by rw [hsn.out]; exact str_append p _, bal hb _⟩
        case measure => simp [intOf]; omega
    · obtain rfl : k = l.length := by omega
      rw [List.take_length]
      go_wp2
      go_ret
      exact ⟨rfl, hb⟩

theorem containsSep (h : Bs) (hl : h.length < 4294967281) (ha : Ascii h) (w : World) :
    Calls Tryz.prog 218 #[str h, .string ⟨#[47, 63, 35]⟩] w fun e w' => e = .returned (.bool (Lib.containsAny h [47, 63, 35])) ∧ Below w.heap.size w w' :=
  Tryz.strings_ContainsAny_laid ⟨h.toArray⟩ ⟨#[47, 63, 35]⟩ w (by simp [ByteArray.size]; omega) (by decide) (fun j b hj => ha j b (by simpa using hj)) (by
        intro j b hj
        match j, hj with
        | 0, hj => simp at hj; subst hj; decide
        | 1, hj => simp at hj; subst hj; decide
        | 2, hj => simp at hj; subst hj; decide)

set_option maxHeartbeats 400000 in
theorem schemeOf_any (l : Bs) (w : World) (hs : l.length < 4294967281) (ha : Ascii l) :
    Calls Tryz.prog 191 #[str l] w fun e w' => e = .returned (str (scheme l)) ∧ Below w.heap.size w w' := by
  by_cases hc : 58 ∈ l
  · have hi := Lib.hid (indexByte_some hc)
    have hlt := takeWhile_len_lt hc
    have htk := take_takeWhile (· != 58) l
    have hsub : Ascii (l.takeWhile (· != 58)) := by
      intro j b hj
      have : b ∈ l := List.takeWhile_subset _ (List.mem_of_getElem? hj)
      obtain ⟨i, hi⟩ := List.getElem?_of_mem this
      exact ha i b hi
    have hsch : Hid (scheme l = if (l.takeWhile (· != 58)) ≠ [] ∧ Lib.containsAny (l.takeWhile (· != 58)) [47, 63, 35] = false then lower (l.takeWhile (· != 58)) else []) := by
      show scheme l = _; unfold scheme; simp only [hc, true_and]
    generalize l.takeWhile (· != 58) = h at *
    obtain ⟨n, hn⟩ : ∃ n, n = h.length := ⟨_, rfl⟩
    rw [← hn] at hlt htk hi
    have hX := Lib.hid ((str_take l n).trans (by rw [htk] : str (l.take n) = str h))
    have hnh := Lib.hid hn
    have hcon := Lib.hid (containsSep h (by omega) hsub)
    have hlow := Lib.hid (fun w' => small_walk h w' (by unfold maxLen; omega))
    clear htk ha hsub hc
    by_cases h0 : n = 0
    · obtain rfl : h = [] := List.eq_nil_of_length_eq_zero (by omega)
      subst h0
      clear hn
      go_enter Tryz.func191, Tryz.ntmps191
      go_wp2_with (go_at_call 133; refine (Tryz.strings_Index_one _ _ _).mono ?_; rintro e w' ⟨rfl, rfl⟩; dsimp only; rw [hi.out])
      go_ret
      exact ⟨by rw [hsch.out]; rfl, Below.refl _ _⟩
    · have hne : h ≠ [] := by intro e; subst e; exact h0 hn
      have hsch2 : Hid (scheme l = if Lib.containsAny h [47, 63, 35] = false then lower h else []) := by
        show scheme l = _; rw [hsch.out]; simp only [hne, ne_eq, not_false_eq_true, true_and]
      clear hsch hn hne
      have hn1 : (1 : Int) ≤ (n : Int) := by omega
      cases hca : Lib.containsAny h [47, 63, 35] with
      | true =>
        have hca' := Lib.hid hca; clear hca
        go_enter Tryz.func191, Tryz.ntmps191
        go_wp2_with (first | (go_at_call 133; refine (Tryz.strings_Index_one _ _ _).mono ?_; rintro e w' ⟨rfl, rfl⟩; dsimp only; rw [hi.out]) | (go_at_call 218; rw [hX.out]; refine (hcon.out _).mono ?_; rintro e w2 ⟨rfl, hb2⟩; rw [hca'.out]))
        go_ret
        exact ⟨by rw [hsch2.out, if_neg (by rw [hca'.out]; decide)]; rfl, hb2⟩
      | false =>
        have hca' := Lib.hid hca; clear hca
        go_enter Tryz.func191, Tryz.ntmps191
        go_wp2_with (first | (go_at_call 133; refine (Tryz.strings_Index_one _ _ _).mono ?_; rintro e w' ⟨rfl, rfl⟩; dsimp only; rw [hi.out]) | (go_at_call 218; rw [hX.out]; refine (hcon.out _).mono ?_; rintro e w2 ⟨rfl, hb2⟩; rw [hca'.out]) | (go_at_call 137; rw [hX.out]; refine (hlow.out _).mono ?_; rintro e w3 ⟨rfl, hb3⟩))
        go_ret
        exact ⟨by rw [hsch2.out, if_pos hca'.out]; rfl, btr hb2 hb3⟩
  · have hi := Lib.hid (indexByte_none hc)
    have hsch : Hid (scheme l = []) := by show scheme l = []; unfold scheme; simp only [hc, false_and, if_false]
    clear ha
    go_enter Tryz.func191, Tryz.ntmps191
    go_wp2_with (go_at_call 133; refine (Tryz.strings_Index_one _ _ _).mono ?_; rintro e w' ⟨rfl, rfl⟩; dsimp only; rw [hi.out])
    go_ret
    exact ⟨by rw [hsch.out]; rfl, Below.refl _ _⟩

def badB : Bs := [34, 39, 60, 62, 92, 96]
theorem okC_fin : ∀ n : Fin 256, okC (UInt8.ofNat n.val) = (decide (33 ≤ n.val) && decide (n.val ≤ 126) && decide (Lib.indexByte badB (UInt8.ofNat n.val) = -1)) := by decide +kernel
theorem okC_idx (c : UInt8) : okC c = (decide (33 ≤ c.toNat) && decide (c.toNat ≤ 126) && decide (Lib.indexByte badB c = -1)) := by
  have := okC_fin ⟨c.toNat, c.toNat_lt⟩
  simpa using this
theorem badIdx_fin : ∀ n : Fin 256, Lib.indexByte badB (UInt8.ofNat n.val) = -1 ∨ 0 ≤ Lib.indexByte badB (UInt8.ofNat n.val) := by decide +kernel
theorem badIdx (c : UInt8) : Lib.indexByte badB c = -1 ∨ 0 ≤ Lib.indexByte badB c := by
  have := badIdx_fin ⟨c.toNat, c.toNat_lt⟩
  simpa using this

theorem schemesCells2 {w w3 : World} (hb : Below (w.alloc (Obj.cells #[.string ⟨#[104, 116, 116, 112]⟩, .string ⟨#[104, 116, 116, 112, 115]⟩, .string ⟨#[109, 97, 105, 108, 116, 111]⟩] 9)).heap.size (w.alloc (Obj.cells #[.string ⟨#[104, 116, 116, 112]⟩, .string ⟨#[104, 116, 116, 112, 115]⟩, .string ⟨#[109, 97, 105, 108, 116, 111]⟩] 9)) w3) :
    ∀ j, j < schemesZ.length → w3.cell? ⟨w.heap.size, 0 + j, none⟩ = some (.string (schemesZ.getD j ByteArray.empty)) := by
  intro j hj
  rw [hb.cell (p := ⟨w.heap.size, 0 + j, none⟩) (by simp)]
  match j, hj with
  | 0, _ => simp; rfl
  | 1, _ => simp; rfl
  | 2, _ => simp; rfl

set_option maxRecDepth 10000 in
set_option maxHeartbeats 800000 in
theorem mayBe_any (l : Bs) (w : World) :
    Calls Tryz.prog 141 #[str l] w fun e w' => e = .returned (.bool (may l)) ∧ Below w.heap.size w w' := by
  by_cases h0 : l = []
  · subst h0
    go_enter Tryz.func141, Tryz.ntmps141
    go_wp2
    go_ret
    exact ⟨rfl, Below.refl _ _⟩
  have hpos : 1 ≤ (l.length : Int) := by
    have : l.length ≠ 0 := by simpa using h0
    omega
  by_cases h24 : 24 < l.length
  · have hmay : Hid (may l = false) := by show may l = false; simp [may]; omega
    go_enter Tryz.func141, Tryz.ntmps141
    go_wp2
    go_ret
    exact ⟨by rw [hmay.out]; rfl, Below.refl _ _⟩
  have h24' : l.length ≤ 24 := by omega
  clear h24
  have h0' := Lib.hid h0; clear h0
  go_enter Tryz.func141, Tryz.ntmps141
  go_wp2
  go_loop [14] (fun i => ∃ k : Nat, k ≤ l.length ∧ i = .int .i64 k ∧ (∀ c ∈ l.take k, okC c = true)) (fun i => l.length - (intOf i).toNat)
  case atStart => exact ⟨0, Nat.zero_le _, rfl, by simp⟩
  case round =>
    obtain ⟨k, hk, rfl, hall⟩ := hrel
    have hal := Lib.hid hall; clear hall
    by_cases hlt : k < l.length
    · obtain ⟨c, hck⟩ : ∃ c, l[k]? = some c := ⟨_, List.getElem?_eq_getElem hlt⟩
      have hc' := Lib.hid hck; clear hck
      have hokI := okC_idx c
      cases hok : okC c with
      | true =>
        rw [hok] at hokI
        simp only [Bool.true_eq, Bool.and_eq_true, decide_eq_true_eq] at hokI
        obtain ⟨⟨a1, a2⟩, a3⟩ := hokI
        have a3' := Lib.hid a3; clear a3
        have hok' := Lib.hid hok; clear hok
        have d1 : decide ((c.toNat : Int) < 33) = false := by simp; omega
        have d2 : decide (126 < (c.toNat : Int)) = false := by simp; omega
        clear a1 a2
        go_wp2_with (first | (refine wpList_index_str rfl 9 _ _ rfl Tryz.underlying9 l .i64 k c rfl rfl hc'.out ?_) | (go_at_call 78; refine (idxByte_any badB c _).mono ?_; rintro e w1 ⟨rfl, rfl⟩; rw [a3'.out]))
        go_round
        case rel => exact ⟨k + 1, by omega, by go_num, take_snoc_mem hc'.out hal.out hok'.out⟩
        case measure => simp [intOf]; omega
      | false =>
        rw [hok] at hokI
        have hmay : Hid (may l = false) := by
          show may l = false
          have : l.all okC = false := by
            rw [List.all_eq_false]
            exact ⟨c, List.mem_of_getElem? hc'.out, by rw [hok]; decide⟩
          simp [may, this]
        clear hok
        by_cases b1 : 33 ≤ c.toNat
        · have d1 : decide ((c.toNat : Int) < 33) = false := by simp; omega
          by_cases b2 : c.toNat ≤ 126
          · have d2 : decide (126 < (c.toNat : Int)) = false := by simp; omega
            obtain ⟨n, hn⟩ : ∃ n : Nat, Lib.indexByte badB c = (n : Int) := by
              rcases badIdx c with h | h
              · rw [h] at hokI; simp [b1, b2] at hokI
              · exact ⟨(Lib.indexByte badB c).toNat, by omega⟩
            have a3' := Lib.hid hn; clear hn hokI b1 b2
            go_wp2_with (first | (refine wpList_index_str rfl 9 _ _ rfl Tryz.underlying9 l .i64 k c rfl rfl hc'.out ?_) | (go_at_call 78; refine (idxByte_any badB c _).mono ?_; rintro e w1 ⟨rfl, rfl⟩; rw [a3'.out]))
            go_ret
            exact ⟨by rw [hmay.out]; rfl, Below.refl _ _⟩
          · have d2 : decide (126 < (c.toNat : Int)) = true := by simp; omega
            have a3' := Lib.hid (rfl : 0 = 0); clear hokI b1 b2
            go_wp2_with (first | (refine wpList_index_str rfl 9 _ _ rfl Tryz.underlying9 l .i64 k c rfl rfl hc'.out ?_) | (go_at_call 78; refine (idxByte_any badB c _).mono ?_; rintro e w1 ⟨rfl, rfl⟩; rw [a3'.out]))
            go_ret
            exact ⟨by rw [hmay.out]; rfl, Below.refl _ _⟩
        · have d1 : decide ((c.toNat : Int) < 33) = true := by simp; omega
          have a3' := Lib.hid (rfl : 0 = 0); clear hokI b1
          go_wp2_with (first | (refine wpList_index_str rfl 9 _ _ rfl Tryz.underlying9 l .i64 k c rfl rfl hc'.out ?_) | (go_at_call 78; refine (idxByte_any badB c _).mono ?_; rintro e w1 ⟨rfl, rfl⟩; rw [a3'.out]))
          go_ret
          exact ⟨by rw [hmay.out]; rfl, Below.refl _ _⟩
    · obtain rfl : k = l.length := by omega
      rw [List.take_length] at hal
      have hasc : Hid (Ascii l) := fun j b hj => by
        have := (okC_iff b).1 (hal.out b (List.mem_of_getElem? hj))
        omega
      have hmay : Hid (may l = Lib.containsS schemesZ ⟨(scheme l).toArray⟩) := by
        show may l = _
        rw [contains_schemes]
        have : l.all okC = true := List.all_eq_true.2 hal.out
        simp [may, this, h24', h0'.out]
      go_wp2_with (first | (go_at_call 191; refine (schemeOf_any l _ (by omega) hasc.out).mono ?_; rintro e w3 ⟨rfl, hb3⟩; have hc3 := schemesCells2 hb3) | (go_at_call 80; refine (Tryz.slices_Contains_string w.heap.size 0 3 3 schemesZ ⟨(scheme l).toArray⟩ _ (by decide) (by decide) hc3).mono ?_; rintro e w4 ⟨rfl, rfl⟩))
      go_ret
      exact ⟨by rw [hmay.out]; rfl, (bal (brf _) _).trans (hb3.mono (by simp))⟩
end Go.Proofs.YteikncnldbdfmaaGreatDoor
