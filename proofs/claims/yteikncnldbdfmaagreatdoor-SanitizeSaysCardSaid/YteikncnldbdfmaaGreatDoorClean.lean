/- link.Clean; the closed fact led. -/
import Derived.Test.YteikncnldbdfmaaGreatDoorAny
import Derived.Test.YteikncnldbdfmaaGreatDoorEscW
import Derived.Test.YteikncnldbdfmaaGreatDoorPl
import Derived.Shelf.Strings.SlTrimAscii
namespace Go.Mh
def cleanP (l : Bs) : Bs × Int := if 20000 < l.length then ([], 2) else (cleanT l, 0)
def rdw (p : UInt8 → Bool) (l : Bs) : Bs := (l.reverse.dropWhile p).reverse
theorem rdw_cons (p : UInt8 → Bool) (x : UInt8) (l : Bs) : rdw p (x :: l) = if (rdw p l).isEmpty = true then (if p x = true then [] else [x]) else x :: rdw p l := by
  unfold rdw
  rw [List.reverse_cons, List.dropWhile_append]
  by_cases h : (l.reverse.dropWhile p).isEmpty = true
  · have h2 : ((l.reverse.dropWhile p).reverse).isEmpty = true := by simpa using h
    rw [if_pos h, if_pos h2]
    by_cases hp : p x = true
    · simp [hp]
    · simp [hp]
  · have h2 : ¬ ((l.reverse.dropWhile p).reverse).isEmpty = true := by simpa using h
    rw [if_neg h, if_neg h2]
    simp
theorem trim_comm (p : UInt8 → Bool) : ∀ l : Bs, rdw p (l.dropWhile p) = (rdw p l).dropWhile p
  | [] => rfl
  | x :: l => by
    have ih := trim_comm p l
    by_cases hp : p x = true
    · rw [List.dropWhile_cons, if_pos hp, ih, rdw_cons]
      by_cases he : (rdw p l).isEmpty = true
      · rw [if_pos he, if_pos hp]
        have : rdw p l = [] := by simpa using he
        rw [this]
      · rw [if_neg he, List.dropWhile_cons, if_pos hp]
    · rw [List.dropWhile_cons, if_neg hp, rdw_cons]
      by_cases he : (rdw p l).isEmpty = true
      · rw [if_pos he, if_neg hp, List.dropWhile_cons, if_neg hp]
      · rw [if_neg he, List.dropWhile_cons, if_neg hp]
theorem trimS_eq (l : Bs) : Lib.trimS l [32, 9, 13, 10, 12] = trimT l := by
  have e : (fun b => ([32, 9, 13, 10, 12] : Bs).contains b) = tset := by
    funext b
    unfold tset
    simp only [List.contains_cons, List.contains_nil, Bool.or_false, Bool.or_assoc]
  show ((rdw (fun b => ([32, 9, 13, 10, 12] : Bs).contains b) l).dropWhile (fun b => ([32, 9, 13, 10, 12] : Bs).contains b)) = _
  rw [e, ← trim_comm]
  rfl
end Go.Mh
namespace Go.Proofs.YteikncnldbdfmaaGreatDoor
open Go.RowKit Go.Mh

theorem trim_any (l : Bs) (w : World) (hl : l.length ≤ 140737488355328) :
    Calls Tryz.prog 181 #[str l, .string ⟨#[32, 9, 13, 10, 12]⟩] w fun e w' => e = .returned (str (trimT l)) ∧ Below w.heap.size w w' := by
  rw [← trimS_eq]
  exact Any.strings_Trim_laid Tryz.lays160 info_ascii ⟨l.toArray⟩ ⟨#[32, 9, 13, 10, 12]⟩ w (by show l.length ≤ _; omega) (by decide) (ascii_of_all (by decide))

set_option maxHeartbeats 1000000 in
theorem clean_any (l : Bs) (w : World) :
    Calls Tryz.prog 125 #[str l] w fun e w' => e = .returned (.tuple #[str (cleanP l).1, .int .i64 (cleanP l).2]) ∧ Below w.heap.size w w' := by
  by_cases hlong : 20000 < l.length
  · have hR := Lib.hid (show cleanP l = ([], 2) from if_pos hlong)
    go_enter Tryz.func125, Tryz.ntmps125
    go_wp2
    go_ret2
    exact ⟨by rw [hR.out]; rfl, brf _⟩
  · have hR := Lib.hid (show cleanP l = (cleanT l, 0) from if_neg hlong)
    have C := Lib.hid (fun w' => trim_any l w' (by omega))
    have hc := Lib.hid (show cleanT l = if may (trimT l) = true then trimT l else [] from rfl)
    generalize trimT l = t at C hc
    go_enter Tryz.func125, Tryz.ntmps125
    go_wp2_with fail
    refine (C.out _).mono ?_
    rintro e w1 ⟨rfl, hb1⟩
    go_wp2_with fail
    refine (may_any _ _).mono ?_
    rintro e w2 ⟨rfl, hb2⟩
    cases hm : may t with
    | true =>
      go_wp2
      go_ret2
      exact ⟨by rw [hR.out, hc.out, if_pos hm]; rfl, btr hb1 hb2⟩
    | false =>
      go_wp2
      go_ret2
      exact ⟨by rw [hR.out, hc.out, if_neg (by rw [hm]; decide)]; rfl, btr hb1 hb2⟩

theorem clean_p (l : Bs) (p : Bs × Int) (hp : cleanP l = p) (w : World) :
    Calls Tryz.prog 125 #[str l] w fun e w' => e = .returned (.tuple #[str p.1, .int .i64 p.2]) ∧ Below w.heap.size w w' := by
  subst hp; exact clean_any l w
end Go.Proofs.YteikncnldbdfmaaGreatDoor
