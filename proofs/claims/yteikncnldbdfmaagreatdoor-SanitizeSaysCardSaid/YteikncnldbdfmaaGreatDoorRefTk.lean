/- The reference Tokens: its closures, and what it calls. -/
import Derived.Test.YteikncnldbdfmaaGreatDoorReadSo
import Derived.Test.YteikncnldbdfmaaGreatDoorTokQ
import Derived.Test.YteikncnldbdfmaaGreatDoorRefS
import Derived.Test.YteikncnldbdfmaaGreatDoorPl
namespace Go.Mh
open Go.RowKit
/-- The page's own box, and its bytes. -/
structure Src (bb b0 o0 cap : Nat) (S : Bs) (w : World) : Prop where
  box : w.cell? ⟨bb, 0, none⟩ = some (.slice (some ⟨b0, o0, none⟩) S.length cap)
  at' : ∀ (k : Nat) (c : UInt8), S[k]? = some c → w.cell? ⟨b0, o0 + k, none⟩ = some (.int .u8 c.toNat)
  le : S.length ≤ cap
  max : cap ≤ maxLen
theorem Src.to {bb b0 o0 cap : Nat} {S : Bs} {w w' : World} (h : Src bb b0 o0 cap S w) (hb : Below w.heap.size w w') : Src bb b0 o0 cap S w' :=
  ⟨(hb.cell (lt_of_cell h.box)).trans h.box, fun k c hk => (hb.cell (lt_of_cell (h.at' k c hk))).trans (h.at' k c hk), h.le, h.max⟩
end Go.Mh
namespace Go.Proofs.YteikncnldbdfmaaGreatDoor
open Go.RowKit Go.Mh

theorem refSpace_any (c : UInt8) (w : World) :
    Calls Tryz.prog 136 #[.int .u8 c.toNat] w fun e w' => e = .returned (.bool (isSp c)) ∧ w' = w := by
  have h : decide (Lib.indexByte [32, 9, 10, 13, 12] c ≥ 0) = isSp c := by
    suffices H : ∀ n : Fin 256, decide (Lib.indexByte [32, 9, 10, 13, 12] (UInt8.ofNat n.val) ≥ 0) = isSp (UInt8.ofNat n.val) by
      have := H ⟨c.toNat, c.toNat_lt⟩
      simpa using this
    decide +kernel
  have H := Lib.hid h
  clear h
  go_enter Tryz.func136, Tryz.ntmps136
  go_wp2_with fail
  have C := Tryz.strings_IndexByte ⟨#[32, 9, 10, 13, 12]⟩ (c.toNat : Int) w
  rw [show ((c.toNat : Int).toNat.toUInt8) = c by simp] at C
  refine C.mono ?_
  rintro e w1 ⟨rfl, rfl⟩
  go_wp2
  go_ret
  exact ⟨by rw [← H.out]; rfl, rfl⟩

theorem conv_empty (a : Addr) (n : Nat) (w : World) : (convert 41 9 (.slice (some a) 0 n)).run Tryz.prog w = .ok (str []) w :=
  run_convert_bytes_back w 41 9 5 a n [] Tryz.underlying41 Tryz.underlying5 Tryz.underlying9 fun j hj => by simp at hj
theorem src_conv {bb b0 o0 cap : Nat} {S : Bs} {w : World} (h : Src bb b0 o0 cap S w) {i k : Nat} (hk : k ≤ S.length) (c2 : Nat) : (convert 41 9 (.slice (some ⟨b0, o0 + i, none⟩) (k - i) c2)).run Tryz.prog w = .ok (str ((S.take k).drop i)) w := by
  have hl : ((S.take k).drop i).length = k - i := by simp; omega
  rw [← hl]
  refine run_convert_bytes_back w 41 9 5 ⟨b0, o0 + i, none⟩ c2 _ Tryz.underlying41 Tryz.underlying5 Tryz.underlying9 fun j hj => ?_
  have hj' : j < k - i := by rw [← hl]; exact hj
  rw [Addr.add_lit]
  have := h.at' (i + j) (((S.take k).drop i)[j]) (by
    rw [List.getElem_drop, List.getElem_take]
    exact List.getElem?_eq_getElem (by omega))
  rw [← this, Nat.add_assoc]

theorem tkAt_any (bb b0 o0 cap i : Nat) (S : Bs) (w : World) (h : Src bb b0 o0 cap S w) :
    Calls Tryz.prog 131 #[.int .i64 i, ptr bb] w fun e w' => e = .returned (.int .u8 (at0 S i).toNat) ∧ w' = w := by
  have hx := h.box
  by_cases hlt : i < S.length
  · obtain ⟨c, hc⟩ : ∃ c, S[i]? = some c := ⟨_, List.getElem?_eq_getElem hlt⟩
    have hr := h.at' i c hc
    rw [at0_in hc]
    clear h hc
    go_enter Tryz.func131, Tryz.ntmps131
    go_wp2
    go_ret
    exact ⟨rfl, rfl⟩
  · rw [at0_out (by omega)]
    clear h
    go_enter Tryz.func131, Tryz.ntmps131
    go_wp2
    go_ret
    exact ⟨rfl, rfl⟩
set_option maxRecDepth 100000 in
theorem tkFind_any (bb b0 o0 cap i : Nat) (S s : Bs) (w : World) (h : Src bb b0 o0 cap S w) (hi : i ≤ S.length) (hS : S.length ≤ 20000) (hm : ∃ m, w.cell? ⟨2, 0, none⟩ = some (.int .i64 m)) :
    Calls Tryz.prog 132 #[.int .i64 i, str s, ptr bb] w fun e w' => e = .returned (.int .i64 (fnd S i s : Nat)) ∧ w' = w := by
  have hx := h.box
  obtain ⟨m, hm⟩ := hm
  have hmn : min (i : Int) (S.length : Int) = i := by omega
  have hix := Tryz.strings_Index ⟨(S.drop i).toArray⟩ ⟨s.toArray⟩ m w (by show (S.drop i).length < _; simp; omega) hm
  have hfl := (fnd_le hi s)
  have D : (S.drop i).length ≤ 20000 := by simp; omega
  obtain ⟨r, hr⟩ : ∃ r, Lib.index (S.drop i) s = r := ⟨_, rfl⟩
  have hfd : (fnd S i s : Int) = if r < 0 then (S.length : Int) else i + r + s.length := by
    unfold fnd
    rw [hr]
    split <;> omega
  have hle := Lib.index_le (S.drop i) s
  rw [hr] at hle
  have hix' : Calls Tryz.prog 133 #[str (S.drop i), str s] w fun e w' => e = .returned (.int .i64 r) ∧ w' = w := by
    have := hix
    rw [show Lib.index ({ data := (S.drop i).toArray } : ByteArray).data.toList ({ data := s.toArray } : ByteArray).data.toList = r from hr] at this
    exact this
  have HX := Lib.hid hix'
  rw [hfd]
  have hsl : s.length ≤ 20000 ∨ r < 0 := by
    rcases Lib.index_spec (S.drop i) s with ⟨h1, _⟩ | ⟨j, h1, hj, ho, _⟩
    · right; omega
    · left
      have := occ_len ho hj
      omega
  clear hix hix' hfl hfd hr hm
  by_cases hcap : cap = i
  · obtain rfl : i = S.length := by have := h.le; omega
    have hcv := conv_empty ⟨b0, o0, none⟩ 0 w
    have hz : S.length - S.length = 0 := Nat.sub_self _
    rw [List.drop_length] at HX hle
    simp at hle
    clear h
    by_cases hneg : r < 0
    · rw [if_pos hneg]
      go_enter Tryz.func132, Tryz.ntmps132
      go_wp2_with fail
      refine HX.out.mono ?_
      rintro e w1 ⟨rfl, rfl⟩
      go_wp2
      exact bodyPost_ret (v := .int .i64 S.length) (by simp [results, Tryz.results132, go_sem]) rfl ⟨rfl, rfl⟩
    · rw [if_neg hneg]
      rcases hsl with hsl | hsl
      · have hnn : 0 ≤ r := by omega
        go_enter Tryz.func132, Tryz.ntmps132
        go_wp2_with fail
        refine HX.out.mono ?_
        rintro e w1 ⟨rfl, rfl⟩
        go_wp2
        exact bodyPost_ret (v := .int .i64 (S.length + r + s.length)) (by simp [results, Tryz.results132, go_sem]) rfl ⟨rfl, rfl⟩
      · exact absurd hsl hneg
  · have hcv := src_conv h (i := i) (Nat.le_refl S.length) (cap - i)
    rw [List.take_length] at hcv
    clear h
    have hcap' : ¬ cap = i := hcap
    by_cases hneg : r < 0
    · rw [if_pos hneg]
      go_enter Tryz.func132, Tryz.ntmps132
      go_wp2_with fail
      refine HX.out.mono ?_
      rintro e w1 ⟨rfl, rfl⟩
      go_wp2
      exact bodyPost_ret (v := .int .i64 S.length) (by simp [results, Tryz.results132, go_sem]) rfl ⟨rfl, rfl⟩
    · rw [if_neg hneg]
      rcases hsl with hsl | hsl
      · have hnn : 0 ≤ r := by omega
        have hr2 : r ≤ 20000 := by omega
        go_enter Tryz.func132, Tryz.ntmps132
        go_wp2_with fail
        refine HX.out.mono ?_
        rintro e w1 ⟨rfl, rfl⟩
        go_wp2
        exact bodyPost_ret (v := .int .i64 (i + r + s.length)) (by simp [results, Tryz.results132, go_sem]) rfl ⟨rfl, rfl⟩
      · exact absurd hsl hneg
end Go.Proofs.YteikncnldbdfmaaGreatDoor
