/- R.WrittenSo: each character as it is written. -/
import Derived.Test.YtjbidchdjpmonaaDoorTok
import Derived.Test.YtjbidchdjpmonaaDoorPlY
namespace Go.Mh
theorem take_succ_write {S : Bs} {i : Nat} {c : UInt8} (h : S[i]? = some c) : writeE (S.take (i + 1)) = writeE (S.take i) ++ wr1 c := by
  rw [List.take_add_one, h, writeE_append]; simp [writeE]
theorem ext_one {S : Bs} {i : Nat} {c : UInt8} (h : S[i]? = some c) : (⟨S.toArray⟩ : ByteArray).extract i (i + 1) = ⟨#[c]⟩ := by
  have hl := (List.getElem?_eq_some_iff.1 h).1
  have hc := (List.getElem?_eq_some_iff.1 h).2
  apply ByteArray.ext
  simp only [ByteArray.data_extract]
  apply Array.ext'
  simp
  rw [List.drop_eq_getElem_cons hl, hc]
  simp
theorem wr_arm {S O : Bs} {i : Nat} {c : UInt8} (h : writeE (S.take (i + 1)) = O ++ wr1 c) (d : UInt8) (hd : ((c.toNat : Int) == (d.toNat : Int)) = true) (X : Bs) (hX : wr1 d = X) : Value.string ((⟨O.toArray⟩ : ByteArray) ++ (⟨X.toArray⟩ : ByteArray)) = str (writeE (S.take (i + 1))) := by
  have hcc : c = d := by rw [← UInt8.toNat_inj]; simp at hd; exact_mod_cast hd
  subst hcc
  subst hX
  rw [h]
  have e : ((⟨O.toArray⟩ : ByteArray) ++ (⟨(wr1 c).toArray⟩ : ByteArray)) = ⟨(O ++ wr1 c).toArray⟩ := by
    apply ByteArray.ext; simp [ByteArray.data_append]
  rw [e]
theorem wr_dflt {S O : Bs} {i : Nat} {c : UInt8} (h : writeE (S.take (i + 1)) = O ++ wr1 c) (h1 : ((c.toNat : Int) == 38) = false) (h2 : ((c.toNat : Int) == 60) = false) (h3 : ((c.toNat : Int) == 62) = false) (h4 : ((c.toNat : Int) == 34) = false) : Value.string ((⟨O.toArray⟩ : ByteArray) ++ (⟨#[c]⟩ : ByteArray)) = str (writeE (S.take (i + 1))) := by
  have n : ∀ d : UInt8, ((c.toNat : Int) == (d.toNat : Int)) = false → c ≠ d := fun d hd e => by subst e; simp at hd
  have hw : wr1 c = [c] := by unfold wr1; rw [if_neg (n 38 h1), if_neg (n 60 h2), if_neg (n 62 h3), if_neg (n 34 h4)]
  rw [h, hw]
  have e : ((⟨O.toArray⟩ : ByteArray) ++ (⟨#[c]⟩ : ByteArray)) = ⟨(O ++ [c]).toArray⟩ := by
    apply ByteArray.ext; simp [ByteArray.data_append]
  rw [e]
end Go.Mh
namespace Go.Proofs.YtjbidchdjpmonaaDoor
open Go.RowKit Go.Mh

set_option maxRecDepth 100000 in
set_option maxHeartbeats 4000000 in
theorem writtenSo_any (S : Bs) (w : World) (hS : S.length ≤ 140737488355328) :
    Calls Tryd.prog 34 #[str S] w fun e w' => e = .returned (str (writeE S)) ∧ w' = w := by
  go_enter Tryd.func34, Tryd.ntmps34
  go_wp2
  go_loopw [3, 7] (fun ov iv wr => ∃ i : Nat, i ≤ S.length ∧ iv = .int .i64 i ∧ ov = str (writeE (S.take i)) ∧ wr = w) (fun _ iv _ => S.length - (intOf iv).toNat)
  case atStart => exact ⟨0, Nat.zero_le _, by go_num, rfl, rfl⟩
  case round =>
    obtain ⟨i, hi, rfl, rfl, hw⟩ := hrel
    by_cases hlt : i < S.length
    · obtain ⟨c, hc⟩ : ∃ c, S[i]? = some c := ⟨_, List.getElem?_eq_getElem hlt⟩
      have hg := str_get hc (by exact hlt)
      have hnx := Lib.hid (take_succ_write hc)
      have hx := ext_one hc
      have hol : (writeE (S.take i)).length ≤ 6 * i := by have := (write_len (S.take i)).2; simp at this; omega
      generalize writeE (S.take i) = O at hnx hol ⊢
      clear hc
      cases h1 : ((c.toNat : Int) == 38) with
      | true =>
        have e := Lib.hid (wr_arm hnx.out 38 h1 eAmp rfl)
        go_wp2
        go_roundw
        case rel => exact ⟨i + 1, by omega, by go_num, e.out, trivial⟩
        case measure => simp [intOf]; omega
      | false =>
      cases h2 : ((c.toNat : Int) == 60) with
      | true =>
        have e := Lib.hid (wr_arm hnx.out 60 h2 eLt rfl)
        go_wp2
        go_roundw
        case rel => exact ⟨i + 1, by omega, by go_num, e.out, trivial⟩
        case measure => simp [intOf]; omega
      | false =>
      cases h3 : ((c.toNat : Int) == 62) with
      | true =>
        have e := Lib.hid (wr_arm hnx.out 62 h3 eGt rfl)
        go_wp2
        go_roundw
        case rel => exact ⟨i + 1, by omega, by go_num, e.out, trivial⟩
        case measure => simp [intOf]; omega
      | false =>
      cases h4 : ((c.toNat : Int) == 34) with
      | true =>
        have e := Lib.hid (wr_arm hnx.out 34 h4 eQuot rfl)
        go_wp2
        go_roundw
        case rel => exact ⟨i + 1, by omega, by go_num, e.out, trivial⟩
        case measure => simp [intOf]; omega
      | false =>
      have e := Lib.hid (wr_dflt hnx.out h1 h2 h3 h4)
      go_wp2
      go_roundw
      case rel => exact ⟨i + 1, by omega, by go_num, by first | (rw [hx]; exact e.out) | exact e.out, trivial⟩
      case measure => simp [intOf]; omega
    · obtain rfl : i = S.length := by omega
      go_wp2
      go_ret
      exact ⟨by simp only [List.take_length]; rfl, rfl⟩
end Go.Proofs.YtjbidchdjpmonaaDoor
