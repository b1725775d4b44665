/- Package token: blanks, letters, words. -/
import Derived.Test.YtkekjddkbmmckaaGreatLink
import Derived.Test.YtkekjddkbmmckaaGreatPlT
namespace Go.Mh
open Go.RowKit
theorem u8eq (c d : UInt8) : (c == d) = ((c.toNat : Int) == (d.toNat : Int)) := by
  rw [Bool.eq_iff_iff]
  simp only [beq_iff_eq]
  constructor
  · rintro rfl; rfl
  · intro e; exact UInt8.toNat_inj.1 (by omega)
theorem isSp_eq (c : UInt8) : isSp c = (((c.toNat : Int) == 32) || ((c.toNat : Int) == 9) || ((c.toNat : Int) == 10) || ((c.toNat : Int) == 13) || ((c.toNat : Int) == 12)) := by
  unfold isSp
  have h : ∀ (d : UInt8), (c == d) = ((c.toNat : Int) == (d.toNat : Int)) := fun d => by
    rw [Bool.eq_iff_iff]
    simp only [beq_iff_eq]
    constructor
    · rintro rfl; rfl
    · intro e; exact UInt8.toNat_inj.1 (by omega)
  rw [h 32, h 9, h 10, h 13, h 12]
  rfl
theorem ext_str (l : Bs) (i j : Nat) : (⟨l.toArray⟩ : ByteArray).extract i j = ⟨((l.take j).drop i).toArray⟩ := by
  apply ByteArray.ext
  simp [ByteArray.data_extract]
  rw [List.drop_take]
theorem str_from (l : Bs) (i : Nat) : Value.string ((⟨l.toArray⟩ : ByteArray).extract i l.length) = str (l.drop i) := by
  rw [ext_str, List.take_length]
theorem str_upto (l : Bs) (j : Nat) : Value.string ((⟨l.toArray⟩ : ByteArray).extract 0 j) = str (l.take j) := by
  rw [ext_str, List.drop_zero]
theorem str_tail (c : UInt8) (s : Bs) : Value.string ((⟨(c :: s).toArray⟩ : ByteArray).extract 1 (s.length + 1)) = str s := str_from (c :: s) 1
theorem str_get {l : Bs} {k : Nat} {c : UInt8} (h : l[k]? = some c) : ∀ hk, (⟨l.toArray⟩ : ByteArray)[k]'hk = c := by
  obtain ⟨hk, e⟩ := List.getElem?_eq_some_iff.1 h
  intro _
  exact e
/-- How long a string is. -/
def szOf : Value → Nat
  | .string b => b.size
  | _ => 0
theorem szOf_str (l : Bs) : szOf (str l) = l.length := rfl
theorem tw_of {p : UInt8 → Bool} : ∀ {l : Bs} {k : Nat}, (∀ (j : Nat) c, j < k → l[j]? = some c → p c = true) → (k = l.length ∨ ∃ c, l[k]? = some c ∧ p c = false) → l.takeWhile p = l.take k ∧ l.dropWhile p = l.drop k
  | [], k, _, h => by simp
  | c :: l, 0, _, h => by
    rcases h with h | ⟨d, h1, h2⟩
    · simp at h
    · simp at h1; subst h1; simp [h2]
  | c :: l, k + 1, h0, h => by
    have hc := h0 0 c (by omega) rfl
    have := tw_of (p := p) (l := l) (k := k) (fun j d hj hd => h0 (j + 1) d (by omega) (by simpa using hd)) (by
      rcases h with h | ⟨d, h1, h2⟩
      · left; simpa using h
      · right; exact ⟨d, by simpa using h1, h2⟩)
    simp [hc, this.1, this.2]
end Go.Mh
namespace Go.Proofs.YtkekjddkbmmckaaGreat
open Go.RowKit Go.Mh

set_option maxHeartbeats 1000000 in
theorem tokSpace_any (c : UInt8) (w : World) :
    Calls Tryz.prog 31 #[.int .u8 c.toNat] w fun e w' => e = .returned (.bool (isSp c)) ∧ Below w.heap.size w w' := by
  rw [isSp_eq]
  go_enter Tryz.func31, Tryz.ntmps31
  cases h1 : ((c.toNat : Int) == 32) with
  | true => go_wp2; go_ret; exact ⟨rfl, brf _⟩
  | false =>
    cases h2 : ((c.toNat : Int) == 9) with
    | true => go_wp2; go_ret; exact ⟨rfl, brf _⟩
    | false =>
      cases h3 : ((c.toNat : Int) == 10) with
      | true => go_wp2; go_ret; exact ⟨rfl, brf _⟩
      | false =>
        cases h4 : ((c.toNat : Int) == 13) with
        | true => go_wp2; go_ret; exact ⟨rfl, brf _⟩
        | false => go_wp2; go_ret; exact ⟨by simp, brf _⟩

set_option maxHeartbeats 1000000 in
theorem tokBlanks_any (l : Bs) (w : World) (_ : l.length ≤ maxLen) :
    Calls Tryz.prog 34 #[str l] w fun e w' => e = .returned (str (blanks l)) ∧ Below w.heap.size w w' := by
  go_enter Tryz.func34, Tryz.ntmps34
  go_wp2
  go_loopw [0] (fun sv wr => ∃ s, sv = str s ∧ s.length ≤ l.length ∧ blanks s = blanks l ∧ Below w.heap.size w wr) (fun sv _ => szOf sv)
  case atStart => exact ⟨l, rfl, Nat.le_refl _, rfl, brf _⟩
  case round =>
    obtain ⟨s, rfl, hs, hbl, hb⟩ := hrel
    cases s with
    | nil =>
      go_wp2
      go_ret
      exact ⟨by rw [← hbl]; rfl, hb⟩
    | cons c s =>
      go_wp2_with fail
      refine (tokSpace_any c wr).mono ?_
      rintro e w1 ⟨rfl, hb1⟩
      cases hc : isSp c with
      | false =>
        go_wp2
        go_ret
        exact ⟨by rw [← hbl]; simp [blanks, hc], btr hb hb1⟩
      | true =>
        go_wp2
        go_roundw
        case rel => exact ⟨s, str_tail c s, by simp at hs; omega, by rw [← hbl]; simp [blanks, hc], btr hb hb1⟩
        case measure => rw [str_tail, szOf_str, szOf_str]; simp

set_option maxHeartbeats 1000000 in
theorem tokEndP_any (c : UInt8) (w : World) :
    Calls Tryz.prog 9 #[.int .u8 c.toNat] w fun e w' => e = .returned (.bool (!(c != 60))) ∧ Below w.heap.size w w' := by
  rw [show (!(c != 60)) = ((c.toNat : Int) == 60) from by rw [bne, Bool.not_not, u8eq c 60]; rfl]
  go_enter Tryz.func9, Tryz.ntmps9
  go_wp2
  go_ret
  exact ⟨rfl, brf _⟩

set_option maxHeartbeats 1000000 in
theorem tokEndT1_any (c : UInt8) (w : World) :
    Calls Tryz.prog 30 #[.int .u8 c.toNat] w fun e w' => e = .returned (.bool (!nb2 c)) ∧ Below w.heap.size w w' := by
  rw [show (!nb2 c) = (isSp c || ((c.toNat : Int) == 47) || ((c.toNat : Int) == 62)) from by unfold nb2; rw [Bool.not_not, u8eq c 47, u8eq c 62]; rfl]
  go_enter Tryz.func30, Tryz.ntmps30
  go_wp2_with fail
  refine (tokSpace_any c w).mono ?_
  rintro e w1 ⟨rfl, hb1⟩
  cases hs : isSp c with
  | true => go_wp2; go_ret; exact ⟨by rw [hs]; rfl, hb1⟩
  | false =>
    cases h47 : ((c.toNat : Int) == 47) with
    | true => go_wp2; go_ret; exact ⟨by rw [hs, h47]; rfl, hb1⟩
    | false =>
      go_wp2
      go_ret
      exact ⟨by rw [hs, h47]; rfl, hb1⟩

set_option maxHeartbeats 1000000 in
theorem tokEndT2_any (c : UInt8) (w : World) :
    Calls Tryz.prog 33 #[.int .u8 c.toNat] w fun e w' => e = .returned (.bool (!nb3 c)) ∧ Below w.heap.size w w' := by
  rw [show (!nb3 c) = (isSp c || ((c.toNat : Int) == 47) || ((c.toNat : Int) == 62) || ((c.toNat : Int) == 61)) from by unfold nb3; rw [Bool.not_not, u8eq c 47, u8eq c 62, u8eq c 61]; rfl]
  go_enter Tryz.func33, Tryz.ntmps33
  go_wp2_with fail
  refine (tokSpace_any c w).mono ?_
  rintro e w1 ⟨rfl, hb1⟩
  cases hs : isSp c with
  | true => go_wp2; go_ret; exact ⟨by rw [hs]; rfl, hb1⟩
  | false =>
    cases h47 : ((c.toNat : Int) == 47) with
    | true => go_wp2; go_ret; exact ⟨by rw [hs, h47]; rfl, hb1⟩
    | false =>
      cases h62 : ((c.toNat : Int) == 62) with
      | true => go_wp2; go_ret; exact ⟨by rw [hs, h47, h62]; rfl, hb1⟩
      | false =>
        go_wp2
        go_ret
        exact ⟨by rw [hs, h47, h62]; rfl, hb1⟩

set_option maxHeartbeats 1000000 in
theorem tokEndV_any (c : UInt8) (w : World) :
    Calls Tryz.prog 43 #[.int .u8 c.toNat] w fun e w' => e = .returned (.bool (!nb1 c)) ∧ Below w.heap.size w w' := by
  rw [show (!nb1 c) = (isSp c || ((c.toNat : Int) == 62)) from by unfold nb1; rw [Bool.not_not, u8eq c 62]; rfl]
  go_enter Tryz.func43, Tryz.ntmps43
  go_wp2_with fail
  refine (tokSpace_any c w).mono ?_
  rintro e w1 ⟨rfl, hb1⟩
  cases hs : isSp c with
  | true => go_wp2; go_ret; exact ⟨by rw [hs]; rfl, hb1⟩
  | false =>
    go_wp2
    go_ret
    exact ⟨by rw [hs]; rfl, hb1⟩

set_option maxRecDepth 100000 in
set_option maxHeartbeats 1000000 in
theorem tokWordP_any (l : Bs) (w : World) (hl : l.length ≤ maxLen) :
    Calls Tryz.prog 8 #[str l, .func (Fn.func 9) #[] #[]] w fun e w' => e = .returned (.tuple #[str (l.takeWhile (· != 60)), str (l.dropWhile (· != 60))]) ∧ Below w.heap.size w w' := by
  unfold maxLen at hl
  go_enter Tryz.func8, Tryz.ntmps8
  go_wp2
  go_loopw [6] (fun i wr => ∃ k : Nat, k ≤ l.length ∧ i = .int .i64 k ∧ Hid (∀ (j : Nat) c, j < k → l[j]? = some c → ((· != 60)) c = true) ∧ Below w.heap.size w wr) (fun i _ => l.length - (intOf i).toNat)
  case atStart => exact ⟨0, Nat.zero_le _, rfl, Lib.hid (fun j c h => by omega), brf _⟩
  case round =>
    obtain ⟨k, hk, rfl, hf, hb⟩ := hrel
    by_cases hlt : k < l.length
    · have g1 : (0 : Int) ≤ (k : Int) := by omega
      have g2 : (k : Int) ≤ (l.length : Int) := by omega
      obtain ⟨c, hc⟩ : ∃ c, l[k]? = some c := ⟨_, List.getElem?_eq_getElem hlt⟩
      have hg := str_get hc
      have hc' := Lib.hid hc
      clear hc
      go_wp2_with fail
      refine (tokEndP_any c wr).mono ?_
      rintro e w1 ⟨rfl, hb1⟩
      cases hp : ((· != 60)) c with
      | true =>
        have hnx : Hid (∀ (j : Nat) d, j < k + 1 → l[j]? = some d → ((· != 60)) d = true) := Lib.hid (fun j d hj hd => by
          by_cases hjk : j = k
          · subst hjk
            have := hc'.out
            rw [this] at hd
            cases hd
            exact hp
          · exact hf.out j d (by omega) hd)
        clear hf hg
        go_wp2
        go_roundw
        case rel => exact ⟨k + 1, by omega, by go_num, hnx, btr hb hb1⟩
        case measure => simp [intOf]; omega
      | false =>
        obtain ⟨h1, h2⟩ := tw_of hf.out (Or.inr ⟨c, hc'.out, hp⟩)
        have H1 := Lib.hid h1
        have H2 := Lib.hid h2
        clear hf hg h1 h2
        go_wp2
        go_region
        all_goals
          go_wp2
          go_ret2
          exact ⟨by rw [H1.out, H2.out, str_from, str_upto]; rfl, (btr hb hb1).drew⟩
    · obtain rfl : k = l.length := by omega
      obtain ⟨h1, h2⟩ := tw_of hf.out (Or.inl rfl)
      have H1 := Lib.hid h1
      have H2 := Lib.hid h2
      have g1 : (0 : Int) ≤ (l.length : Int) := by omega
      clear hf h1 h2
      go_wp2
      go_region
      all_goals
        go_wp2
        go_ret2
        exact ⟨by rw [H1.out, H2.out, List.take_length, List.drop_length, str_from, List.drop_zero]; rfl, hb.drew⟩

set_option maxRecDepth 100000 in
set_option maxHeartbeats 1000000 in
theorem tokWordT1_any (l : Bs) (w : World) (hl : l.length ≤ maxLen) :
    Calls Tryz.prog 8 #[str l, .func (Fn.func 30) #[] #[]] w fun e w' => e = .returned (.tuple #[str (l.takeWhile nb2), str (l.dropWhile nb2)]) ∧ Below w.heap.size w w' := by
  unfold maxLen at hl
  go_enter Tryz.func8, Tryz.ntmps8
  go_wp2
  go_loopw [6] (fun i wr => ∃ k : Nat, k ≤ l.length ∧ i = .int .i64 k ∧ Hid (∀ (j : Nat) c, j < k → l[j]? = some c → (nb2) c = true) ∧ Below w.heap.size w wr) (fun i _ => l.length - (intOf i).toNat)
  case atStart => exact ⟨0, Nat.zero_le _, rfl, Lib.hid (fun j c h => by omega), brf _⟩
  case round =>
    obtain ⟨k, hk, rfl, hf, hb⟩ := hrel
    by_cases hlt : k < l.length
    · have g1 : (0 : Int) ≤ (k : Int) := by omega
      have g2 : (k : Int) ≤ (l.length : Int) := by omega
      obtain ⟨c, hc⟩ : ∃ c, l[k]? = some c := ⟨_, List.getElem?_eq_getElem hlt⟩
      have hg := str_get hc
      have hc' := Lib.hid hc
      clear hc
      go_wp2_with fail
      refine (tokEndT1_any c wr).mono ?_
      rintro e w1 ⟨rfl, hb1⟩
      cases hp : (nb2) c with
      | true =>
        have hnx : Hid (∀ (j : Nat) d, j < k + 1 → l[j]? = some d → (nb2) d = true) := Lib.hid (fun j d hj hd => by
          by_cases hjk : j = k
          · subst hjk
            have := hc'.out
            rw [this] at hd
            cases hd
            exact hp
          · exact hf.out j d (by omega) hd)
        clear hf hg
        go_wp2
        go_roundw
        case rel => exact ⟨k + 1, by omega, by go_num, hnx, btr hb hb1⟩
        case measure => simp [intOf]; omega
      | false =>
        obtain ⟨h1, h2⟩ := tw_of hf.out (Or.inr ⟨c, hc'.out, hp⟩)
        have H1 := Lib.hid h1
        have H2 := Lib.hid h2
        clear hf hg h1 h2
        go_wp2
        go_region
        all_goals
          go_wp2
          go_ret2
          exact ⟨by rw [H1.out, H2.out, str_from, str_upto]; rfl, (btr hb hb1).drew⟩
    · obtain rfl : k = l.length := by omega
      obtain ⟨h1, h2⟩ := tw_of hf.out (Or.inl rfl)
      have H1 := Lib.hid h1
      have H2 := Lib.hid h2
      have g1 : (0 : Int) ≤ (l.length : Int) := by omega
      clear hf h1 h2
      go_wp2
      go_region
      all_goals
        go_wp2
        go_ret2
        exact ⟨by rw [H1.out, H2.out, List.take_length, List.drop_length, str_from, List.drop_zero]; rfl, hb.drew⟩

set_option maxRecDepth 100000 in
set_option maxHeartbeats 1000000 in
theorem tokWordT2_any (l : Bs) (w : World) (hl : l.length ≤ maxLen) :
    Calls Tryz.prog 8 #[str l, .func (Fn.func 33) #[] #[]] w fun e w' => e = .returned (.tuple #[str (l.takeWhile nb3), str (l.dropWhile nb3)]) ∧ Below w.heap.size w w' := by
  unfold maxLen at hl
  go_enter Tryz.func8, Tryz.ntmps8
  go_wp2
  go_loopw [6] (fun i wr => ∃ k : Nat, k ≤ l.length ∧ i = .int .i64 k ∧ Hid (∀ (j : Nat) c, j < k → l[j]? = some c → (nb3) c = true) ∧ Below w.heap.size w wr) (fun i _ => l.length - (intOf i).toNat)
  case atStart => exact ⟨0, Nat.zero_le _, rfl, Lib.hid (fun j c h => by omega), brf _⟩
  case round =>
    obtain ⟨k, hk, rfl, hf, hb⟩ := hrel
    by_cases hlt : k < l.length
    · have g1 : (0 : Int) ≤ (k : Int) := by omega
      have g2 : (k : Int) ≤ (l.length : Int) := by omega
      obtain ⟨c, hc⟩ : ∃ c, l[k]? = some c := ⟨_, List.getElem?_eq_getElem hlt⟩
      have hg := str_get hc
      have hc' := Lib.hid hc
      clear hc
      go_wp2_with fail
      refine (tokEndT2_any c wr).mono ?_
      rintro e w1 ⟨rfl, hb1⟩
      cases hp : (nb3) c with
      | true =>
        have hnx : Hid (∀ (j : Nat) d, j < k + 1 → l[j]? = some d → (nb3) d = true) := Lib.hid (fun j d hj hd => by
          by_cases hjk : j = k
          · subst hjk
            have := hc'.out
            rw [this] at hd
            cases hd
            exact hp
          · exact hf.out j d (by omega) hd)
        clear hf hg
        go_wp2
        go_roundw
        case rel => exact ⟨k + 1, by omega, by go_num, hnx, btr hb hb1⟩
        case measure => simp [intOf]; omega
      | false =>
        obtain ⟨h1, h2⟩ := tw_of hf.out (Or.inr ⟨c, hc'.out, hp⟩)
        have H1 := Lib.hid h1
        have H2 := Lib.hid h2
        clear hf hg h1 h2
        go_wp2
        go_region
        all_goals
          go_wp2
          go_ret2
          exact ⟨by rw [H1.out, H2.out, str_from, str_upto]; rfl, (btr hb hb1).drew⟩
    · obtain rfl : k = l.length := by omega
      obtain ⟨h1, h2⟩ := tw_of hf.out (Or.inl rfl)
      have H1 := Lib.hid h1
      have H2 := Lib.hid h2
      have g1 : (0 : Int) ≤ (l.length : Int) := by omega
      clear hf h1 h2
      go_wp2
      go_region
      all_goals
        go_wp2
        go_ret2
        exact ⟨by rw [H1.out, H2.out, List.take_length, List.drop_length, str_from, List.drop_zero]; rfl, hb.drew⟩

set_option maxRecDepth 100000 in
set_option maxHeartbeats 1000000 in
theorem tokWordV_any (l : Bs) (w : World) (hl : l.length ≤ maxLen) :
    Calls Tryz.prog 8 #[str l, .func (Fn.func 43) #[] #[]] w fun e w' => e = .returned (.tuple #[str (l.takeWhile nb1), str (l.dropWhile nb1)]) ∧ Below w.heap.size w w' := by
  unfold maxLen at hl
  go_enter Tryz.func8, Tryz.ntmps8
  go_wp2
  go_loopw [6] (fun i wr => ∃ k : Nat, k ≤ l.length ∧ i = .int .i64 k ∧ Hid (∀ (j : Nat) c, j < k → l[j]? = some c → (nb1) c = true) ∧ Below w.heap.size w wr) (fun i _ => l.length - (intOf i).toNat)
  case atStart => exact ⟨0, Nat.zero_le _, rfl, Lib.hid (fun j c h => by omega), brf _⟩
  case round =>
    obtain ⟨k, hk, rfl, hf, hb⟩ := hrel
    by_cases hlt : k < l.length
    · have g1 : (0 : Int) ≤ (k : Int) := by omega
      have g2 : (k : Int) ≤ (l.length : Int) := by omega
      obtain ⟨c, hc⟩ : ∃ c, l[k]? = some c := ⟨_, List.getElem?_eq_getElem hlt⟩
      have hg := str_get hc
      have hc' := Lib.hid hc
      clear hc
      go_wp2_with fail
      refine (tokEndV_any c wr).mono ?_
      rintro e w1 ⟨rfl, hb1⟩
      cases hp : (nb1) c with
      | true =>
        have hnx : Hid (∀ (j : Nat) d, j < k + 1 → l[j]? = some d → (nb1) d = true) := Lib.hid (fun j d hj hd => by
          by_cases hjk : j = k
          · subst hjk
            have := hc'.out
            rw [this] at hd
            cases hd
            exact hp
          · exact hf.out j d (by omega) hd)
        clear hf hg
        go_wp2
        go_roundw
        case rel => exact ⟨k + 1, by omega, by go_num, hnx, btr hb hb1⟩
        case measure => simp [intOf]; omega
      | false =>
        obtain ⟨h1, h2⟩ := tw_of hf.out (Or.inr ⟨c, hc'.out, hp⟩)
        have H1 := Lib.hid h1
        have H2 := Lib.hid h2
        clear hf hg h1 h2
        go_wp2
        go_region
        all_goals
          go_wp2
          go_ret2
          exact ⟨by rw [H1.out, H2.out, str_from, str_upto]; rfl, (btr hb hb1).drew⟩
    · obtain rfl : k = l.length := by omega
      obtain ⟨h1, h2⟩ := tw_of hf.out (Or.inl rfl)
      have H1 := Lib.hid h1
      have H2 := Lib.hid h2
      have g1 : (0 : Int) ≤ (l.length : Int) := by omega
      clear hf h1 h2
      go_wp2
      go_region
      all_goals
        go_wp2
        go_ret2
        exact ⟨by rw [H1.out, H2.out, List.take_length, List.drop_length, str_from, List.drop_zero]; rfl, hb.drew⟩
end Go.Proofs.YtkekjddkbmmckaaGreat
