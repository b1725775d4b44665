/- link.Clean; the closed fact led. -/
import Derived.Test.YtjbidchdjpmonaaDoorAny
import Derived.Test.YtjbidchdjpmonaaDoorEscW
import Derived.Test.YtjbidchdjpmonaaDoorPlL
import Derived.Shelf.Strings.SlTrimAscii
namespace Go.Mh
def cleanP (l : Bs) : Bs × Int := if 20000 < l.length then ([], 2) else (cleanT l, 0)
def rdw (p : UInt8 → Bool) (l : Bs) : Bs := (l.reverse.dropWhile p).reverse
theorem rdw_cons (p : UInt8 → Bool) (x : UInt8) (l : Bs) : rdw p (x :: l) = if (rdw p l).isEmpty = true then (if p x = true then [] else [x]) else x :: rdw p l := by
  unfold rdw
  rw [List.reverse_cons, List.dropWhile_append]
  by_cases h : (l.reverse.dropWhile p).isEmpty = true
  · have h2 : ((l.reverse.dropWhile p).reverse).isEmpty = true := by simpa using h
    rw [if_pos h, if_pos h2]
    by_cases hp : p x = true
    · simp [hp]
    · simp [hp]
  · have h2 : ¬ ((l.reverse.dropWhile p).reverse).isEmpty = true := by simpa using h
    rw [if_neg h, if_neg h2]
    simp
theorem trim_comm (p : UInt8 → Bool) : ∀ l : Bs, rdw p (l.dropWhile p) = (rdw p l).dropWhile p
  | [] => rfl
  | x :: l => by
    have ih := trim_comm p l
    by_cases hp : p x = true
    · rw [List.dropWhile_cons, if_pos hp, ih, rdw_cons]
      by_cases he : (rdw p l).isEmpty = true
      · rw [if_pos he, if_pos hp]
        have : rdw p l = [] := by simpa using he
        rw [this]
      · rw [if_neg he, List.dropWhile_cons, if_pos hp]
    · rw [List.dropWhile_cons, if_neg hp, rdw_cons]
      by_cases he : (rdw p l).isEmpty = true
      · rw [if_pos he, if_neg hp, List.dropWhile_cons, if_neg hp]
      · rw [if_neg he, List.dropWhile_cons, if_neg hp]
theorem trimS_eq (l : Bs) : Lib.trimS l [32, 9, 13, 10, 12] = trimT l := by
  have e : (fun b => ([32, 9, 13, 10, 12] : Bs).contains b) = tset := by
    funext b
    unfold tset
    simp only [List.contains_cons, List.contains_nil, Bool.or_false, Bool.or_assoc]
  show ((rdw (fun b => ([32, 9, 13, 10, 12] : Bs).contains b) l).dropWhile (fun b => ([32, 9, 13, 10, 12] : Bs).contains b)) = _
  rw [e, ← trim_comm]
  rfl
end Go.Mh
namespace Go.Proofs.YtjbidchdjpmonaaDoor
open Go.RowKit Go.Mh

theorem ascii_of {l : Bs} (h : l.all (fun b => decide (b.toNat < 128)) = true) : Ascii l := fun j b hj => by
  have := List.all_eq_true.1 h b (List.mem_of_getElem? hj)
  simpa using this
theorem may_ascii {l : Bs} (h : may l = true) : Ascii l := fun j b hj => by
  have := (okC_iff b).1 (may_ok h b (List.mem_of_getElem? hj))
  omega

theorem trim_any (l : Bs) (w : World) (hl : l.length ≤ 140737488355328) :
    Calls Tryd.prog 62 #[str l, .string ⟨#[32, 9, 13, 10, 12]⟩] w fun e w' => e = .returned (str (trimT l)) ∧ Below w.heap.size w w' := by
  rw [← trimS_eq]
  exact Any.strings_Trim_laid Tryd.lays160 info_ascii ⟨l.toArray⟩ ⟨#[32, 9, 13, 10, 12]⟩ w (by show l.length ≤ _; omega) (by decide) (ascii_of_all (by decide))

set_option maxHeartbeats 1000000 in
theorem clean_any (l : Bs) (w : World) :
    Calls Tryd.prog 21 #[str l] w fun e w' => e = .returned (.tuple #[str (cleanP l).1, .int .i64 (cleanP l).2]) ∧ Below w.heap.size w w' := by
  by_cases hlong : 20000 < l.length
  · have hR := Lib.hid (show cleanP l = ([], 2) from if_pos hlong)
    go_enter Tryd.func21, Tryd.ntmps21
    go_wp2
    go_ret2
    exact ⟨by rw [hR.out]; rfl, brf _⟩
  · have hR := Lib.hid (show cleanP l = (cleanT l, 0) from if_neg hlong)
    have C := Lib.hid (fun w' => trim_any l w' (by omega))
    have hc := Lib.hid (show cleanT l = if may (trimT l) = true then trimT l else [] from rfl)
    generalize trimT l = t at C hc
    go_enter Tryd.func21, Tryd.ntmps21
    go_wp2_with fail
    refine (C.out _).mono ?_
    rintro e w1 ⟨rfl, hb1⟩
    go_wp2_with fail
    refine (may_any _ _).mono ?_
    rintro e w2 ⟨rfl, hb2⟩
    cases hm : may t with
    | true =>
      go_wp2
      go_ret2
      exact ⟨by rw [hR.out, hc.out, if_pos hm]; rfl, btr hb1 hb2⟩
    | false =>
      go_wp2
      go_ret2
      exact ⟨by rw [hR.out, hc.out, if_neg (by rw [hm]; decide)]; rfl, btr hb1 hb2⟩

theorem clean_p (l : Bs) (p : Bs × Int) (hp : cleanP l = p) (w : World) :
    Calls Tryd.prog 21 #[str l] w fun e w' => e = .returned (.tuple #[str p.1, .int .i64 p.2]) ∧ Below w.heap.size w w' := by
  subst hp; exact clean_any l w
theorem may_p (l : Bs) (b : Bool) (hp : may l = b) (w : World) :
    Calls Tryd.prog 23 #[str l] w fun e w' => e = .returned (.bool b) ∧ Below w.heap.size w w' := by
  subst hp; exact may_any l w
theorem scheme_p (l s : Bs) (hp : scheme l = s) (w : World) (hs : l.length < 4294967281) (ha : Ascii l) :
    Calls Tryd.prog 25 #[str l] w fun e w' => e = .returned (str s) ∧ Below w.heap.size w w' := by
  subst hp; exact scheme_any l w hs ha

set_option maxHeartbeats 1000000 in
theorem led_any (w : World) :
    Calls Tryd.prog 22 #[] w fun e w' => e = .returned (.bool true) ∧ Below w.heap.size w w' := by
  have C := Lib.hid (fun w' => clean_p [32, 72, 84, 84, 80, 58, 47, 47, 120, 32, 10] ([72, 84, 84, 80, 58, 47, 47, 120], 0) (by decide +kernel) w')
  have M1 := Lib.hid (fun w' => may_p [109, 97, 105, 108, 116, 111, 58, 97] true (by decide +kernel) w')
  have M2 := Lib.hid (fun w' => may_p [106, 97, 118, 97, 115, 99, 114, 105, 112, 116, 58, 97] false (by decide +kernel) w')
  have S1 := Lib.hid (fun w' => scheme_p [65, 58, 98] [97] (by decide +kernel) w' (by decide) (ascii_of (by decide)))
  have S2 := Lib.hid (fun w' => scheme_p [47, 97, 58, 98] [] (by decide +kernel) w' (by decide) (ascii_of (by decide)))
  go_enter Tryd.func22, Tryd.ntmps22
  go_wp2_with fail
  refine (C.out _).mono ?_
  rintro e w1 ⟨rfl, hb1⟩
  go_wp2_with fail
  refine (M1.out _).mono ?_
  rintro e w2 ⟨rfl, hb2⟩
  go_wp2_with fail
  refine (M2.out _).mono ?_
  rintro e w3 ⟨rfl, hb3⟩
  go_wp2_with fail
  refine (S1.out _).mono ?_
  rintro e w4 ⟨rfl, hb4⟩
  go_wp2_with fail
  refine (S2.out _).mono ?_
  rintro e w5 ⟨rfl, hb5⟩
  go_wp2
  go_ret
  exact ⟨rfl, btr (btr (btr (btr hb1 hb2) hb3) hb4) hb5⟩
end Go.Proofs.YtjbidchdjpmonaaDoor
