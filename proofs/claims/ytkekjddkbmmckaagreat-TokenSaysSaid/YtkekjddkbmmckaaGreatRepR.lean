/- strings.Replacer.Replace and the reference ReadSo. -/
import Derived.Test.YtkekjddkbmmckaaGreatReadSo
import Derived.Test.YtkekjddkbmmckaaGreatReplN
import Derived.Laws.MakeOwn
namespace Go.Proofs.YtkekjddkbmmckaaGreat
open Go.RowKit Go.Mh

theorem aswOne : (Tryz.prog.info? 152).map (fun i => (i.zero, i.size)) = some (some (.slice none 0 0), 1) := by kernel_rfl
theorem conv_nil (w : World) : (convert 152 9 (.slice none 0 0)).run Tryz.prog w = .ok (str []) w := by kernel_rfl
/-- What the writer holds, as a string. -/
theorem conv_buf {B n : Nat} {w : World} {bv : Value} {out : Bs} (h : w.ownsRow B 5 1 bv n (Lib.byteCells out)) (hn : n = out.length) : (convert 152 9 bv).run Tryz.prog w = .ok (str out) w := by
  subst hn
  have hc := @World.ownsRow.cells _ _ _ _ _ _ _ h
  rcases h.2 with ⟨rfl, h0⟩ | ⟨g, cap, cur, rfl, _⟩
  · have : out = [] := List.length_eq_zero_iff.1 h0
    subst this
    exact conv_nil w
  · refine run_convert_bytes_back w 152 9 5 ⟨g, 0, none⟩ cap out Tryz.underlying152 Tryz.underlying5 Tryz.underlying9 fun j hj => ?_
    exact hc rfl j _ (by simp [Lib.byteCells, hj])

set_option maxRecDepth 1000000 in
set_option maxHeartbeats 4000000 in
theorem genReplace_any (gr : Nat) (S : Bs) (w : World) (hS : S.length ≤ 120000) (h : Built w gr) :
    Calls Tryz.prog 106 #[ptr gr, str S] w fun e w' => e = .returned (str (readE S)) ∧ Below w.heap.size w w' := by
  obtain ⟨i0, hi, hz0, hz1, hz2⟩ := info_parts aswInfo
  obtain ⟨w1, hmk, hown, hgrow⟩ := run_makeSlice_owned (w := w) w.heap.size 152 5 i0 _ 1 Tryz.underlying152 hi hz0 hz1 .i64 .i64 S.length (by omega) (by rw [hz2]; omega) (by unfold maxLen; omega) (Nat.le_refl _)
  have hb1 : Below w.heap.size w w1 := (Below.refl _ _).grown hgrow (Nat.le_refl _) (fun k hk => by cases hk)
  have hlt : w.heap.size < w1.heap.size := (hown.lt _ rfl).2
  have HO := Lib.hid hown
  have HB := Lib.hid h
  clear hown hgrow h hi hz0 hz1 hz2
  go_enter Tryz.func106, Tryz.ntmps106
  go_wp2_with fail
  have hA2 : Below w.heap.size w (w1.alloc (.cells #[.slice (some ⟨w.heap.size, 0, none⟩) 0 S.length] 152)) := hb1.alloc (Nat.le_of_lt hlt) _
  have hbuf : BufAt w.heap.size w1.heap.size (w1.alloc (.cells #[.slice (some ⟨w.heap.size, 0, none⟩) 0 S.length] 152)) [] := by
    refine ⟨_, heap_new _ _, owns_below HO.out ((brf w1).alloc (Nat.le_refl _) _), ?_⟩
    intro e
    simp [Value.ownBlock] at e
    omega
  refine (genWrite_any w.heap.size gr w1.heap.size S _ hS (fun w' hw => HB.out.below (hA2.trans hw)) hA2.size (Nat.le_of_lt hlt) hbuf).mono ?_
  rintro e w3 ⟨⟨z, rfl⟩, ⟨bv, hbk, hown, _⟩, hb3⟩
  have c0 := cellAt' (i := 0) (v := bv) hbk rfl
  have cv := conv_buf hown rfl
  have hb3' := hA2.trans hb3
  clear hbuf hb3 hown hmk hA2
  go_wp2
  go_ret
  exact ⟨rfl, hb3'⟩

theorem methodR (n b : Nat) (w : World) : Sem.run Tryz.prog (method (n + 1) 98 (ptr b) "Replace") w = .ok (106, ptr b) w := by kernel_rfl
set_option maxRecDepth 1000000 in
set_option maxHeartbeats 4000000 in
theorem replReplace_any (rb b cap : Nat) (S : Bs) (w : World) (hS : S.length ≤ 120000) (h : ReplAt w rb 0 0 .nilIface (.slice (some ⟨b, 0, none⟩) 8 cap)) (hb : b < w.heap.size) (hp : Pairs w b) (hrb : b ≠ rb) :
    Calls Tryz.prog 38 #[ptr rb, str S] w fun e w' => e = .returned (str (readE S)) ∧ Stays rb w w' := by
  have C := Lib.hid (replDo_any rb b cap w h hb hp hrb)
  have mR := methodR
  clear h hp
  go_enter Tryz.func38, Tryz.ntmps38
  go_wp2_with fail
  refine C.out.mono ?_
  rintro e w2 ⟨rfl, gr, hR, hlt, hB, hst⟩
  have c1 := cellAt' (i := 3) (v := ifaceR gr) hR rfl
  go_wp2_with (first | rw [methodR] | fail)
  refine (genReplace_any gr S w2 hS hB).mono ?_
  rintro e w3 ⟨rfl, hb3⟩
  go_wp2
  go_ret
  exact ⟨rfl, hst.trans (Stays.of hb3 (Nat.le_of_lt (lt_of_heap hR)))⟩

set_option maxRecDepth 1000000 in
set_option maxHeartbeats 4000000 in
theorem readSo_any (S : Bs) (w : World) (hS : S.length ≤ 120000) :
    Calls Tryz.prog 18 #[str S] w fun e w' => e = .returned (str (readE S)) ∧ Below w.heap.size w w' := by
  go_enter Tryz.func18, Tryz.ntmps18
  go_wp2_with fail
  refine (newRepl_any (· = w.heap.size) _ _ (rs_lit (heap_new _ _))).mono ?_
  rintro e w2 ⟨rb, b, cap, rfl, hR, hp, hne, hrb, hb2⟩
  have hws : w.heap.size + 1 ≤ rb := by simpa using hrb
  have hb2' : Below w.heap.size w w2 := (bal (brf w) _).trans (hb2.mono (by simp))
  have C := Lib.hid (fun hbl => replReplace_any rb b cap S w2 hS hR hbl hp hne)
  clear hb2 hrb
  have hbl : b < w2.heap.size := by
    obtain ⟨h1, _⟩ := hp 0 eAmp [38] rfl rfl
    exact lt_of_cell h1
  go_wp2_with fail
  refine (C.out hbl).mono ?_
  rintro e w3 ⟨rfl, hst⟩
  go_wp2
  go_ret
  exact ⟨rfl, hb2'.trans (hst.bel.mono (by omega))⟩
end Go.Proofs.YtkekjddkbmmckaaGreat
