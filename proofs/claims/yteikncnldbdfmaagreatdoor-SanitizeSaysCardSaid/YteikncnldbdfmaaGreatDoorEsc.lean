/- Package escape: pairs, Read. -/
import Derived.Test.YteikncnldbdfmaaGreatDoorTok
import Derived.Test.YteikncnldbdfmaaGreatDoorBld
import Derived.Test.YteikncnldbdfmaaGreatDoorMem
import Derived.Deep.DeepCutAuto
import Derived.Deep.CutBlock
import Derived.WalkMore
namespace Go.Mh
open Go.RowKit
theorem first_1 {c : UInt8} {r : Bs} (h : eAmp.isPrefixOf (c :: r) = true) : readE (c :: r) = 38 :: readE ((c :: r).drop 5) := by
  rw [readE_cons, first1, if_pos h]; rfl
theorem first_2 {c : UInt8} {r : Bs} (h1 : eAmp.isPrefixOf (c :: r) = false) (h : eLt.isPrefixOf (c :: r) = true) : readE (c :: r) = 60 :: readE ((c :: r).drop 4) := by
  rw [readE_cons, first1, if_neg (by rw [h1]; simp), if_pos h]; rfl
theorem first_3 {c : UInt8} {r : Bs} (h1 : eAmp.isPrefixOf (c :: r) = false) (h2 : eLt.isPrefixOf (c :: r) = false) (h : eGt.isPrefixOf (c :: r) = true) : readE (c :: r) = 62 :: readE ((c :: r).drop 4) := by
  rw [readE_cons, first1, if_neg (by rw [h1]; simp), if_neg (by rw [h2]; simp), if_pos h]; rfl
theorem first_4 {c : UInt8} {r : Bs} (h1 : eAmp.isPrefixOf (c :: r) = false) (h2 : eLt.isPrefixOf (c :: r) = false) (h3 : eGt.isPrefixOf (c :: r) = false) (h : eQuot.isPrefixOf (c :: r) = true) : readE (c :: r) = 34 :: readE ((c :: r).drop 6) := by
  rw [readE_cons, first1, if_neg (by rw [h1]; simp), if_neg (by rw [h2]; simp), if_neg (by rw [h3]; simp), if_pos h]; rfl
theorem first_5 {c : UInt8} {r : Bs} (h1 : eAmp.isPrefixOf (c :: r) = false) (h2 : eLt.isPrefixOf (c :: r) = false) (h3 : eGt.isPrefixOf (c :: r) = false) (h4 : eQuot.isPrefixOf (c :: r) = false) : readE (c :: r) = c :: readE r := by
  rw [readE_cons, first1, if_neg (by rw [h1]; simp), if_neg (by rw [h2]; simp), if_neg (by rw [h3]; simp), if_neg (by rw [h4]; simp)]; rfl
/-- What escape.Read returns. -/
def readP (l : Bs) : Bs × Int := if 120000 < l.length then ([], 2) else (readE l, 0)
end Go.Mh
namespace Go.Proofs.YteikncnldbdfmaaGreatDoor
open Go.RowKit Go.Mh

theorem IsBld.below {B b : Nat} {l : Bs} {w w' : World} (h : IsBld B b l w) (hb : Below w.heap.size w w') : IsBld B b l w' := by
  rcases h with ⟨hB, v, h1, h2, h3⟩ | ⟨hB, v, h1, h2, h3⟩
  · exact Or.inl ⟨hB, v, (hb.block b (lt_of_heap h1)).trans h1, ownsRow_below h2 (fun k hk => hb.block k (h2.lt k hk).2), h3⟩
  · exact Or.inr ⟨hB, v, (hb.block b (lt_of_heap h1)).trans h1, ownsRow_below h2 (fun k hk => hb.block k (h2.lt k hk).2), h3⟩
theorem IsBld.new (w : World) : IsBld w.heap.size w.heap.size [] (w.alloc (.cells #[.pointer none, .slice none 0 0] 177)) :=
  Or.inl ⟨Nat.le_refl _, .slice none 0 0, heap_new _ _, World.ownsRow_nil _ _ _ _, by simp [Value.ownBlock]⟩

theorem pairs_at0 (w : World) : (Instr.index 216 (.agg #[.string ⟨#[38]⟩, .string ⟨#[38, 97, 109, 112, 59]⟩, .string ⟨#[60]⟩, .string ⟨#[38, 108, 116, 59]⟩, .string ⟨#[62]⟩, .string ⟨#[38, 103, 116, 59]⟩, .string ⟨#[34]⟩, .string ⟨#[38, 113, 117, 111, 116, 59]⟩]) (.int .i64 0)).run Tryz.prog w = .ok (.agg #[.string ⟨#[38]⟩, .string ⟨#[38, 97, 109, 112, 59]⟩]) w := by
  simp [Instr.index, run_underlying Tryz.underlying216, asIntOf, go_sem]
theorem pairs_at1 (w : World) : (Instr.index 216 (.agg #[.string ⟨#[38]⟩, .string ⟨#[38, 97, 109, 112, 59]⟩, .string ⟨#[60]⟩, .string ⟨#[38, 108, 116, 59]⟩, .string ⟨#[62]⟩, .string ⟨#[38, 103, 116, 59]⟩, .string ⟨#[34]⟩, .string ⟨#[38, 113, 117, 111, 116, 59]⟩]) (.int .i64 1)).run Tryz.prog w = .ok (.agg #[.string ⟨#[60]⟩, .string ⟨#[38, 108, 116, 59]⟩]) w := by
  simp [Instr.index, run_underlying Tryz.underlying216, asIntOf, go_sem]
theorem pairs_at2 (w : World) : (Instr.index 216 (.agg #[.string ⟨#[38]⟩, .string ⟨#[38, 97, 109, 112, 59]⟩, .string ⟨#[60]⟩, .string ⟨#[38, 108, 116, 59]⟩, .string ⟨#[62]⟩, .string ⟨#[38, 103, 116, 59]⟩, .string ⟨#[34]⟩, .string ⟨#[38, 113, 117, 111, 116, 59]⟩]) (.int .i64 2)).run Tryz.prog w = .ok (.agg #[.string ⟨#[62]⟩, .string ⟨#[38, 103, 116, 59]⟩]) w := by
  simp [Instr.index, run_underlying Tryz.underlying216, asIntOf, go_sem]
theorem pairs_at3 (w : World) : (Instr.index 216 (.agg #[.string ⟨#[38]⟩, .string ⟨#[38, 97, 109, 112, 59]⟩, .string ⟨#[60]⟩, .string ⟨#[38, 108, 116, 59]⟩, .string ⟨#[62]⟩, .string ⟨#[38, 103, 116, 59]⟩, .string ⟨#[34]⟩, .string ⟨#[38, 113, 117, 111, 116, 59]⟩]) (.int .i64 3)).run Tryz.prog w = .ok (.agg #[.string ⟨#[34]⟩, .string ⟨#[38, 113, 117, 111, 116, 59]⟩]) w := by
  simp [Instr.index, run_underlying Tryz.underlying216, asIntOf, go_sem]

set_option maxHeartbeats 1000000 in
theorem pairs_any (w : World) :
    Calls Tryz.prog 170 #[] w fun e w' => e = .returned (.agg #[.string ⟨#[38]⟩, .string ⟨#[38, 97, 109, 112, 59]⟩, .string ⟨#[60]⟩, .string ⟨#[38, 108, 116, 59]⟩, .string ⟨#[62]⟩, .string ⟨#[38, 103, 116, 59]⟩, .string ⟨#[34]⟩, .string ⟨#[38, 113, 117, 111, 116, 59]⟩]) ∧ Below w.heap.size w w' := by
  go_enter Tryz.func170, Tryz.ntmps170
  go_wp2
  exact bodyPost_ret (v := .agg #[.string ⟨#[38]⟩, .string ⟨#[38, 97, 109, 112, 59]⟩, .string ⟨#[60]⟩, .string ⟨#[38, 108, 116, 59]⟩, .string ⟨#[62]⟩, .string ⟨#[38, 103, 116, 59]⟩, .string ⟨#[34]⟩, .string ⟨#[38, 113, 117, 111, 116, 59]⟩]) (by simp [results, Tryz.results170, go_sem]) rfl ⟨rfl, (Below.refl _ _).alloc (Nat.le_refl _) _⟩

set_option maxRecDepth 100000 in
set_option maxHeartbeats 8000000 in
theorem escRead_any (l : Bs) (w : World) (_ : l.length ≤ maxLen) :
    Calls Tryz.prog 119 #[str l] w fun e w' => e = .returned (.tuple #[str (readP l).1, .int .i64 (readP l).2]) ∧ Below w.heap.size w w' := by
  go_enter Tryz.func119, Tryz.ntmps119
  by_cases hlong : 120000 < l.length
  · have hr : readP l = ([], 2) := if_pos hlong
    have hR := Lib.hid hr
    have d1 : decide ((120000 : Int) < (l.length : Int)) = true := by simp; omega
    have d2 : decide (120000 < l.length) = true := by simpa using hlong
    clear hlong hr
    go_wp2
    go_step3
    go_wp2
    rw [Exit.noGoto_ret]
    go_ret2
    exact ⟨by rw [hR.out]; rfl, brf _⟩
  · have hR := Lib.hid (show readP l = (readE l, 0) from if_neg hlong)
    have d1 : decide ((120000 : Int) < (l.length : Int)) = false := by simp; omega
    have d2 : decide (120000 < l.length) = false := by simpa using hlong
    have hl12 : l.length ≤ 120000 := by omega
    clear hlong
    go_wp2
    go_step3
    go_wp2
    go_step3
    go_wp2
    clear d1 d2
    go_loopw [0] (fun sv wr => ∃ s out, sv = str s ∧ out.length + s.length ≤ l.length ∧ Hid (readE l = out ++ readE s) ∧ IsBld w.heap.size w.heap.size out wr ∧ Below w.heap.size w wr) (fun sv _ => szOf sv)
    case atStart => exact ⟨l, [], rfl, by simp, Lib.hid rfl, IsBld.new w, bal (brf w) _⟩
    case round =>
      obtain ⟨s, out, rfl, hlen, hf, hbl, hb⟩ := hrel
      cases s with
      | nil =>
        have hfin : readE l = out := by rw [hf.out]; simp [readE, readS]
        clear hf
        go_wp2_with fail
        refine (bld_String _ _ out wr hbl hb.size).mono ?_
        rintro e w1 ⟨rfl, hb1⟩
        have hfin := Lib.hid hfin
        go_wp2
        rw [Exit.noGoto_ret]
        go_ret2
        exact ⟨by rw [hR.out, hfin.out]; rfl, hb.trans hb1⟩
      | cons c r =>
        have H := Lib.hid hbl
        clear hbl
        have i0 := pairs_at0
        have i1 := pairs_at1
        have i2 := pairs_at2
        have i3 := pairs_at3
        go_wp2_with fail
        refine (pairs_any wr).mono ?_
        rintro e w1 ⟨rfl, hb1⟩
        go_wp2
        refine wp_loop_rounds 5 ?_
        rw [rounds_succ]
        go_wp2_with fail
        refine (Tryz.strings_CutPrefix ⟨(c :: r).toArray⟩ ⟨#[38, 97, 109, 112, 59]⟩ _).mono ?_
        rintro e w2 ⟨rfl, hw2⟩
        rw [show Lib.trimPrefix (⟨(c :: r).toArray⟩ : ByteArray).data.toList (⟨#[38, 97, 109, 112, 59]⟩ : ByteArray).data.toList = if eAmp.isPrefixOf (c :: r) = true then (c :: r).drop 5 else c :: r from rfl, show Lib.hasPrefix (⟨(c :: r).toArray⟩ : ByteArray).data.toList (⟨#[38, 97, 109, 112, 59]⟩ : ByteArray).data.toList = eAmp.isPrefixOf (c :: r) from rfl]
        have hbw0 : Below wr.heap.size wr w2 := by rw [hw2]; exact (bal hb1 _)
        subst hw2
        cases h1 : eAmp.isPrefixOf (c :: r) with
        | true =>
          rw [if_pos rfl]
          have hnx : Hid (readE l = (out ++ [38]) ++ readE ((c :: r).drop 5)) := Lib.hid (by rw [hf.out, first_1 h1]; simp)
          clear hf h1
          go_wp2_with fail
          refine (bld_WriteString _ _ out ⟨#[38]⟩ _ (IsBld.below H.out hbw0) (by show out.length + 1 ≤ 140737488355328; simp at hlen; omega) (Nat.le_trans hb.size hbw0.size)).mono ?_
          rintro e w3 ⟨rfl, hbl3, hb3⟩
          go_wp2
          go_roundw
          case rel => exact ⟨(c :: r).drop 5, out ++ [38], rfl, by simp at hlen ⊢; omega, hnx, hbl3, (btr hb hbw0).trans hb3⟩
          case measure => rw [szOf_str, szOf_str]; simp; omega
        | false =>
          rw [if_neg (by simp)]
          go_wp2
          rw [rounds_succ]
          go_wp2_with fail
          refine (Tryz.strings_CutPrefix ⟨(c :: r).toArray⟩ ⟨#[38, 108, 116, 59]⟩ _).mono ?_
          rintro e w2 ⟨rfl, hw2⟩
          rw [show Lib.trimPrefix (⟨(c :: r).toArray⟩ : ByteArray).data.toList (⟨#[38, 108, 116, 59]⟩ : ByteArray).data.toList = if eLt.isPrefixOf (c :: r) = true then (c :: r).drop 4 else c :: r from rfl, show Lib.hasPrefix (⟨(c :: r).toArray⟩ : ByteArray).data.toList (⟨#[38, 108, 116, 59]⟩ : ByteArray).data.toList = eLt.isPrefixOf (c :: r) from rfl]
          have hbw1 : Below wr.heap.size wr w2 := by rw [hw2]; exact (bal (bal hb1 _) _)
          subst hw2
          cases h2 : eLt.isPrefixOf (c :: r) with
          | true =>
            rw [if_pos rfl]
            have hnx : Hid (readE l = (out ++ [60]) ++ readE ((c :: r).drop 4)) := Lib.hid (by rw [hf.out, first_2 h1 h2]; simp)
            clear hf h1 h2
            go_wp2_with fail
            refine (bld_WriteString _ _ out ⟨#[60]⟩ _ (IsBld.below H.out hbw1) (by show out.length + 1 ≤ 140737488355328; simp at hlen; omega) (Nat.le_trans hb.size hbw1.size)).mono ?_
            rintro e w3 ⟨rfl, hbl3, hb3⟩
            go_wp2
            go_roundw
            case rel => exact ⟨(c :: r).drop 4, out ++ [60], rfl, by simp at hlen ⊢; omega, hnx, hbl3, (btr hb hbw1).trans hb3⟩
            case measure => rw [szOf_str, szOf_str]; simp; omega
          | false =>
            rw [if_neg (by simp)]
            go_wp2
            rw [rounds_succ]
            go_wp2_with fail
            refine (Tryz.strings_CutPrefix ⟨(c :: r).toArray⟩ ⟨#[38, 103, 116, 59]⟩ _).mono ?_
            rintro e w2 ⟨rfl, hw2⟩
            rw [show Lib.trimPrefix (⟨(c :: r).toArray⟩ : ByteArray).data.toList (⟨#[38, 103, 116, 59]⟩ : ByteArray).data.toList = if eGt.isPrefixOf (c :: r) = true then (c :: r).drop 4 else c :: r from rfl, show Lib.hasPrefix (⟨(c :: r).toArray⟩ : ByteArray).data.toList (⟨#[38, 103, 116, 59]⟩ : ByteArray).data.toList = eGt.isPrefixOf (c :: r) from rfl]
            have hbw2 : Below wr.heap.size wr w2 := by rw [hw2]; exact (bal (bal (bal hb1 _) _) _)
            subst hw2
            cases h3 : eGt.isPrefixOf (c :: r) with
            | true =>
              rw [if_pos rfl]
              have hnx : Hid (readE l = (out ++ [62]) ++ readE ((c :: r).drop 4)) := Lib.hid (by rw [hf.out, first_3 h1 h2 h3]; simp)
              clear hf h1 h2 h3
              go_wp2_with fail
              refine (bld_WriteString _ _ out ⟨#[62]⟩ _ (IsBld.below H.out hbw2) (by show out.length + 1 ≤ 140737488355328; simp at hlen; omega) (Nat.le_trans hb.size hbw2.size)).mono ?_
              rintro e w3 ⟨rfl, hbl3, hb3⟩
              go_wp2
              go_roundw
              case rel => exact ⟨(c :: r).drop 4, out ++ [62], rfl, by simp at hlen ⊢; omega, hnx, hbl3, (btr hb hbw2).trans hb3⟩
              case measure => rw [szOf_str, szOf_str]; simp; omega
            | false =>
              rw [if_neg (by simp)]
              go_wp2
              rw [rounds_succ]
              go_wp2_with fail
              refine (Tryz.strings_CutPrefix ⟨(c :: r).toArray⟩ ⟨#[38, 113, 117, 111, 116, 59]⟩ _).mono ?_
              rintro e w2 ⟨rfl, hw2⟩
              rw [show Lib.trimPrefix (⟨(c :: r).toArray⟩ : ByteArray).data.toList (⟨#[38, 113, 117, 111, 116, 59]⟩ : ByteArray).data.toList = if eQuot.isPrefixOf (c :: r) = true then (c :: r).drop 6 else c :: r from rfl, show Lib.hasPrefix (⟨(c :: r).toArray⟩ : ByteArray).data.toList (⟨#[38, 113, 117, 111, 116, 59]⟩ : ByteArray).data.toList = eQuot.isPrefixOf (c :: r) from rfl]
              have hbw3 : Below wr.heap.size wr w2 := by rw [hw2]; exact (bal (bal (bal (bal hb1 _) _) _) _)
              subst hw2
              cases h4 : eQuot.isPrefixOf (c :: r) with
              | true =>
                rw [if_pos rfl]
                have hnx : Hid (readE l = (out ++ [34]) ++ readE ((c :: r).drop 6)) := Lib.hid (by rw [hf.out, first_4 h1 h2 h3 h4]; simp)
                clear hf h1 h2 h3 h4
                go_wp2_with fail
                refine (bld_WriteString _ _ out ⟨#[34]⟩ _ (IsBld.below H.out hbw3) (by show out.length + 1 ≤ 140737488355328; simp at hlen; omega) (Nat.le_trans hb.size hbw3.size)).mono ?_
                rintro e w3 ⟨rfl, hbl3, hb3⟩
                go_wp2
                go_roundw
                case rel => exact ⟨(c :: r).drop 6, out ++ [34], rfl, by simp at hlen ⊢; omega, hnx, hbl3, (btr hb hbw3).trans hb3⟩
                case measure => rw [szOf_str, szOf_str]; simp; omega
              | false =>
                rw [if_neg (by simp)]
                go_wp2
                rw [rounds_succ]
                have hg : ∀ hk, (⟨(c :: r).toArray⟩ : ByteArray)[0]'hk = c := str_get rfl
                have h1le : (1 : Int) ≤ (r.length : Int) + 1 := by omega
                have hnx : Hid (readE l = (out ++ [c]) ++ readE r) := Lib.hid (by rw [hf.out, first_5 h1 h2 h3 h4]; simp)
                clear hf h1 h2 h3 h4
                go_wp2_with fail
                refine (bld_WriteByte _ _ out c _ (IsBld.below H.out hbw3) (by simp at hlen; omega) (Nat.le_trans hb.size hbw3.size)).mono ?_
                rintro e w3 ⟨rfl, hbl3, hb3⟩
                go_wp2
                go_roundw
                case rel => exact ⟨r, out ++ [c], str_tail c r, by simp at hlen ⊢; omega, hnx, hbl3, (btr hb hbw3).trans hb3⟩
                case measure => rw [str_tail, szOf_str, szOf_str]; simp
end Go.Proofs.YteikncnldbdfmaaGreatDoor
