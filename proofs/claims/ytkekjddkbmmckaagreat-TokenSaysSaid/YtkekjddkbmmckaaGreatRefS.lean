/- The references on texts: Small, SchemeOf, MayBe. -/
import Derived.Test.YtkekjddkbmmckaaGreatLink
import Derived.Test.YtkekjddkbmmckaaGreatCmp
namespace Go.Proofs.YtkekjddkbmmckaaGreat
open Go.RowKit Go.Mh

def upB : Bs := [65, 66, 67, 68, 69, 70, 71, 72, 73, 74, 75, 76, 77, 78, 79, 80, 81, 82, 83, 84, 85, 86, 87, 88, 89, 90]
theorem idxUp_fin : ∀ n : Fin 256, Lib.indexByte upB (UInt8.ofNat n.val) = if 65 ≤ n.val ∧ n.val ≤ 90 then (n.val : Int) - 65 else -1 := by decide +kernel
theorem idxUp (c : UInt8) : Lib.indexByte upB c = if 65 ≤ c.toNat ∧ c.toNat ≤ 90 then (c.toNat : Int) - 65 else -1 := by
  have h := idxUp_fin ⟨c.toNat, c.toNat_lt⟩
  simpa using h

theorem get_str {l : Bs} {k : Nat} {c : UInt8} (h : l[k]? = some c) (hk : k < (⟨l.toArray⟩ : ByteArray).size) : (⟨l.toArray⟩ : ByteArray)[k] = c := by
  have := (List.getElem?_eq_some_iff.1 h).2
  exact this

theorem idxByte_any (l : Bs) (c : UInt8) (w : World) :
    Calls Tryz.prog 39 #[str l, .int .u8 c.toNat] w fun e w' => e = .returned (.int .i64 (Lib.indexByte l c)) ∧ w = w' := by
  refine (Tryz.strings_IndexByte ⟨l.toArray⟩ (c.toNat : Int) w).mono ?_
  rintro e w' ⟨rfl, rfl⟩
  simp

def loB : Bs := [97, 98, 99, 100, 101, 102, 103, 104, 105, 106, 107, 108, 109, 110, 111, 112, 113, 114, 115, 116, 117, 118, 119, 120, 121, 122]
theorem loGet_fin : ∀ n : Fin 26, loB[n.val]? = some (lowB (UInt8.ofNat (n.val + 65))) := by decide +kernel
theorem loGet {c : UInt8} {n : Nat} (hn : c.toNat = n + 65) (h : n < 26) : loB[n]? = some (lowB c) := by
  have := loGet_fin ⟨n, h⟩
  rw [← hn] at this
  simpa using this

theorem lower_snoc {l : Bs} {k : Nat} {c : UInt8} (h : l[k]? = some c) : lower (l.take (k + 1)) = lower (l.take k) ++ [lowB c] := by
  rw [List.take_add_one, h]
  simp [lower]

set_option maxRecDepth 100000 in
set_option maxHeartbeats 400000 in
theorem small_walk (l : Bs) (w : World) (hm : l.length ≤ maxLen) :
    Calls Tryz.prog 21 #[str l] w fun e w' => e = .returned (str (lower l)) ∧ Below w.heap.size w w' := by
  unfold maxLen at hm
  go_enter Tryz.func21, Tryz.ntmps21
  go_wp2
  go_loopw [3, 9] (fun s i wr => ∃ k : Nat, k ≤ l.length ∧ i = .int .i64 k ∧ s = str (lower (l.take k)) ∧ Below w.heap.size w wr) (fun _ i _ => l.length - (intOf i).toNat)
  case atStart => exact ⟨0, Nat.zero_le _, rfl, rfl, brf _⟩
  case round =>
    obtain ⟨k, hk, rfl, rfl, hb⟩ := hrel
    by_cases hlt : k < l.length
    · obtain ⟨c, hc⟩ : ∃ c, l[k]? = some c := ⟨_, List.getElem?_eq_getElem hlt⟩
      have hsn := Lib.hid (lower_snoc hc)
      have hc' := Lib.hid hc; clear hc
      have hup := Lib.hid (idxUp c)
      obtain ⟨p, hp⟩ : ∃ p, p = lower (l.take k) := ⟨_, rfl⟩
      rw [← hp]
      rw [← hp] at hsn
      have hpl : p.length < 9223372036854775807 := by rw [hp]; simp [lower]; omega
      clear hp
      by_cases hr : 65 ≤ c.toNat ∧ c.toNat ≤ 90
      · rw [if_pos hr] at hup
        obtain ⟨n, hn⟩ : ∃ n, c.toNat = n + 65 := ⟨c.toNat - 65, by omega⟩
        have hn26 : n < 26 := by omega
        have hup' : Hid (Lib.indexByte upB c = (n : Int)) := by show _ = _; rw [hup.out]; omega
        have hlo := loGet hn hn26
        clear hup hr hn
        generalize lowB c = d at *
        have hlo' := Lib.hid hlo; clear hlo
        go_wp2_with (first | (refine wpList_index_str rfl 9 (.tmp 12) (.tmp 13) rfl Tryz.underlying9 l .i64 k c rfl rfl hc'.out ?_) | (refine wpList_index_str rfl 9 _ (.tmp 19) rfl Tryz.underlying9 loB .i64 n _ rfl rfl hlo'.out ?_) | (go_at_call 39; refine (idxByte_any upB c _).mono ?_; rintro e w1 ⟨rfl, rfl⟩; rw [hup'.out]) | (refine wpList_string_of rfl (.tmp 23) rfl (fun _ => True) _ _ rfl (RBytes.one (by simp) trivial) ?_))
        go_roundw
        case rel => exact ⟨k + 1, by omega, by go_num, by rw [hsn.out]; exact str_append p _, bal hb _⟩
        case measure => simp [intOf]; omega
      · rw [if_neg hr] at hup
        have hid : lowB c = c := lowB_id (by omega)
        rw [hid] at hsn
        clear hid hr
        go_wp2_with (first | (refine wpList_index_str rfl 9 (.tmp 12) (.tmp 13) rfl Tryz.underlying9 l .i64 k c rfl rfl hc'.out ?_) | (go_at_call 39; refine (idxByte_any upB c _).mono ?_; rintro e w1 ⟨rfl, rfl⟩; rw [hup.out]) | (refine wpList_string_of rfl (.tmp 23) rfl (fun _ => True) _ _ rfl (RBytes.one (by simp) trivial) ?_))
        go_roundw
        case rel => exact ⟨k + 1, by omega, by go_num, by rw [hsn.out]; exact str_append p _, bal hb _⟩
        case measure => simp [intOf]; omega
    · obtain rfl : k = l.length := by omega
      rw [List.take_length]
      go_wp2
      go_ret
      exact ⟨rfl, hb⟩

def badB : Bs := [34, 39, 60, 62, 92, 96]
theorem okC_fin : ∀ n : Fin 256, okC (UInt8.ofNat n.val) = (decide (33 ≤ n.val) && decide (n.val ≤ 126) && decide (Lib.indexByte badB (UInt8.ofNat n.val) = -1)) := by decide +kernel
theorem okC_idx (c : UInt8) : okC c = (decide (33 ≤ c.toNat) && decide (c.toNat ≤ 126) && decide (Lib.indexByte badB c = -1)) := by
  have := okC_fin ⟨c.toNat, c.toNat_lt⟩
  simpa using this
theorem badIdx_fin : ∀ n : Fin 256, Lib.indexByte badB (UInt8.ofNat n.val) = -1 ∨ 0 ≤ Lib.indexByte badB (UInt8.ofNat n.val) := by decide +kernel
theorem badIdx (c : UInt8) : Lib.indexByte badB c = -1 ∨ 0 ≤ Lib.indexByte badB c := by
  have := badIdx_fin ⟨c.toNat, c.toNat_lt⟩
  simpa using this

theorem schemesCells2 {w w3 : World} (hb : Below (w.alloc (Obj.cells #[.string ⟨#[104, 116, 116, 112]⟩, .string ⟨#[104, 116, 116, 112, 115]⟩, .string ⟨#[109, 97, 105, 108, 116, 111]⟩] 9)).heap.size (w.alloc (Obj.cells #[.string ⟨#[104, 116, 116, 112]⟩, .string ⟨#[104, 116, 116, 112, 115]⟩, .string ⟨#[109, 97, 105, 108, 116, 111]⟩] 9)) w3) :
    ∀ j, j < schemesZ.length → w3.cell? ⟨w.heap.size, 0 + j, none⟩ = some (.string (schemesZ.getD j ByteArray.empty)) := by
  intro j hj
  rw [hb.cell (p := ⟨w.heap.size, 0 + j, none⟩) (by simp)]
  match j, hj with
  | 0, _ => simp; rfl
  | 1, _ => simp; rfl
  | 2, _ => simp; rfl

end Go.Proofs.YtkekjddkbmmckaaGreat
