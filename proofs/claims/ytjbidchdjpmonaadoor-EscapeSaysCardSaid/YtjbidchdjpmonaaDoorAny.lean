/- strings.IndexRune at a rune beyond ASCII, strings.IndexAny and ContainsAny at any bytes, chars in ASCII. -/
import Derived.Test.YtjbidchdjpmonaaDoorTok
import Derived.Test.YtjbidchdjpmonaaDoorAnyP
import Derived.Lib.OthersKept
import Derived.Laws.Runes
import Derived.BigQuiet
import Derived.Deep.Cut
import Derived.Deep.LoopGhost
namespace Go.Proofs.YtjbidchdjpmonaaDoor
open Go.RowKit Go.Mh

theorem ascii_not {s : Bs} (hs : Ascii s) {x : UInt8} (hx : 128 ≤ x.toNat) : x ∉ s := fun h => by
  obtain ⟨j, hj⟩ := List.getElem?_of_mem h
  have := hs j x hj
  omega
theorem Ascii.drop {s : Bs} (hs : Ascii s) (k : Nat) : Ascii (s.drop k) := fun j b h => hs (k + j) b (by rw [List.getElem?_drop] at h; exact h)

theorem enc_last (r : Nat) (h0 : 128 ≤ r) (hv : r < 55296 ∨ 57343 < r) (h1 : r ≤ 1114111) : ∃ (e : ByteArray) (b : Nat), Utf8.encode (r : Int) = e ∧ e.size = b + 1 ∧ 1 ≤ b ∧ b ≤ 3 ∧ ∀ h, 128 ≤ (e[b]'h).toNat := by
  have hval : Utf8.valid (r : Int) = true := by simp [Utf8.valid]; omega
  obtain ⟨a1, a2, a3⟩ := encode_facts (r : Int) hval (by omega)
  refine ⟨_, (Utf8.encode (r : Int)).size - 1, rfl, by omega, by omega, by omega, a3⟩

set_option maxRecDepth 1000000 in
set_option maxHeartbeats 4000000 in
theorem idxRune_high (s : Bs) (r : Nat) (w : World) (hs : Ascii s) (h0 : 128 ≤ r) (hv : r < 55296 ∨ 57343 < r) (h1 : r ≤ 1114111) (hne : r ≠ 65533) :
    Calls Tryd.prog 97 #[str s, .int .i32 r] w fun e w' => e = .returned (.int .i64 (-1)) ∧ Below w.heap.size w w' := by
  have V := Lib.hid (fun w' => Tryd.utf8_ValidRune (r : Int) w')
  have hvr : Lib.validRune (r : Int) = true := by unfold Lib.validRune; simp; omega
  have d1 : decide ((r : Int) < 128) = false := by simp; omega
  have d2 : ((r : Int) == 65533) = false := by rw [beq_eq_false_iff_ne]; omega
  have d0 : (0 : Int) ≤ (r : Int) := by omega
  obtain ⟨e, b, he, hsz, hb1, hb3, hlast⟩ := enc_last r h0 hv h1
  obtain ⟨x, hx⟩ : ∃ x : UInt8, e[b]'(by omega) = x := ⟨_, rfl⟩
  have hx128 : 128 ≤ x.toNat := by rw [← hx]; exact hlast _
  have hxx : ∀ h, e[b]'h = x := fun _ => hx
  clear hx hlast
  have X := Lib.hid hx128
  clear hx128
  have hS := Lib.hid hs
  clear hs hne hv h1 h0
  go_enter Tryd.func97, Tryd.ntmps97
  go_wp2_with fail
  refine (V.out _).mono ?_
  rintro e1 w1 ⟨rfl, rfl⟩
  rw [hvr]
  by_cases hlt : b < s.length
  · obtain ⟨c, hc⟩ : ∃ c, s[b]? = some c := ⟨_, List.getElem?_eq_getElem hlt⟩
    have hcx : ((c.toNat : Int) == (x.toNat : Int)) = false := by rw [beq_eq_false_iff_ne]; have := hS.out b c hc; have := X.out; omega
    have hg := str_get hc
    clear hc
    have hsl : (s.drop (b + 1)).length = s.length - (b + 1) := List.length_drop
    have C := Lib.hid (fun w' => show Calls Tryd.prog 64 #[.string ((⟨s.toArray⟩ : ByteArray).extract (b + 1) s.length), .int .u8 x.toNat] w' (fun e w'' => e = .returned (.int .i64 (-1)) ∧ w'' = w') from (Tryd.strings_IndexByte _ _ w').mono (fun e w'' h => ⟨h.1.trans (by
      have e1 : ((x.toNat : Int)).toNat.toUInt8 = x := by simp
      have e2 : ((⟨s.toArray⟩ : ByteArray).extract (b + 1) s.length).data.toList = s.drop (b + 1) := by rw [ext_str, List.take_length]
      rw [e1, e2, indexByte_none (ascii_not (hS.out.drop _) X.out)]), h.2⟩))
    have hw : wrap64 ((e.size : Int) - 1) = (b : Int) := by unfold wrap64; omega
    have HS := Lib.hid hsz
    have dl : decide ((b : Int) < (s.length : Int)) = true := by simp; omega
    have hbs : b < e.size := by omega
    have hw1 : IntKind.i64.wrap ((b : Int) + 1) = (b : Int) + 1 := by unfold IntKind.wrap; simp [IntKind.bits, IntKind.signed]; omega
    have hw2 : ((b : Int) + 1).toNat = b + 1 := by omega
    have q1 : (0 : Int) ≤ (b : Int) + 1 := by omega
    have q2 : (b : Int) + 1 ≤ (s.length : Int) := by omega
    clear hsz hb1 hb3
    go_wp2
    go_step3
    go_upto_region 5 with fail
    rw [hw]
    refine wp_loop_rounds 2 ?_
    rw [rounds_succ]
    go_upto_region 6 with fail
    go_step3
    go_upto_region 6 with fail
    go_quiet (fail)
    go_upto_region 7 with fail
    go_quiet (go_must (go_at_call 64; exact (C.out _).mono (fun _ _ h => ⟨h.1, _, h.2⟩)))
    go_wp2
    rw [Exit.noGoto_ret]
    go_wp2
    rw [Exit.noGoto_ret]
    go_ret
    exact ⟨rfl, bdrewN (brf _) _⟩
  · have hw : wrap64 ((e.size : Int) - 1) = (b : Int) := by unfold wrap64; omega
    have dl : decide ((b : Int) < (s.length : Int)) = false := by simp; omega
    clear hsz hb1 hb3
    go_wp2
    go_step3
    go_upto_region 5 with fail
    rw [hw]
    refine wp_loop_rounds 2 ?_
    rw [rounds_succ]
    go_wp2
    rw [Exit.noGoto_ret]
    go_ret
    exact ⟨rfl, brf _⟩

set_option maxRecDepth 1000000 in
set_option maxHeartbeats 4000000 in
theorem idxRune_fffd (s : Bs) (w : World) (hs : Ascii s) :
    Calls Tryd.prog 97 #[str s, .int .i32 65533] w fun e w' => e = .returned (.int .i64 (-1)) ∧ Below w.heap.size w w' := by
  have hS := Lib.hid hs
  clear hs
  go_enter Tryd.func97, Tryd.ntmps97
  go_wp2
  go_loopg [5, 6] s.length (fun g _ _ wx => ∃ i : Nat, i + g = s.length ∧ wx = w.iter ⟨s.toArray⟩ i)
  case atStart => exact ⟨0, by omega, rfl⟩
  case round =>
    obtain ⟨i, hig, rfl⟩ := hrel
    cases gk with
    | zero =>
      obtain rfl : i = s.length := by omega
      have hnx := fun ty => run_next_end (P := Tryd.prog) w ⟨s.toArray⟩ s.length ty (Nat.lt_irrefl _)
      go_wp2
      go_ret
      exact ⟨rfl, bal (brf w) _⟩
    | succ g =>
      have hi : i < s.length := by omega
      obtain ⟨c, hc⟩ : ∃ c, s[i]? = some c := ⟨_, List.getElem?_eq_getElem hi⟩
      have hc0 := hS.out i c hc
      have hg := str_get hc (by exact hi)
      have hnx := fun ty => run_next_ascii (P := Tryd.prog) w ⟨s.toArray⟩ i ty hi (by rw [hg]; exact hc0)
      rw [hg] at hnx
      have hne : ((c.toNat : Int) == 65533) = false := by rw [beq_eq_false_iff_ne]; omega
      clear hg hc hc0
      go_wp2
      go_roundg g
      case measure => omega
      case rel => exact ⟨i + 1, by omega, rfl⟩

/-- A rune beyond ASCII, as a string's decoding gives it, is nowhere in an ASCII text. -/
theorem idxRune_beyond (s : Bs) (r : Nat) (w : World) (hs : Ascii s) (h : r = 65533 ∨ (128 ≤ r ∧ (r < 55296 ∨ 57343 < r) ∧ r ≤ 1114111)) :
    Calls Tryd.prog 97 #[str s, .int .i32 r] w fun e w' => e = .returned (.int .i64 (-1)) ∧ Below w.heap.size w w' := by
  by_cases hr : r = 65533
  · subst hr; exact idxRune_fffd s w hs
  · rcases h with h | ⟨h0, h1, h2⟩
    · exact absurd h hr
    · exact idxRune_high s r w hs h0 h1 h2 hr

theorem noAny_skip {s cs : Bs} {i k : Nat} (h : Lib.NoAny s cs i) (hc : Ascii cs) (hk : ∀ (j : Nat) b, i ≤ j → j < i + k → s[j]? = some b → 128 ≤ b.toNat) : Lib.NoAny s cs (i + k) := fun j b hj hb => by
  by_cases hji : j < i
  · exact h j b hji hb
  · have := hk j b (by omega) hj hb
    have hn := ascii_not hc this
    simpa using hn

set_option maxRecDepth 1000000 in
set_option maxHeartbeats 8000000 in
theorem indexAny_short (s cs : Bs) (w : World) (hcs : Ascii cs) (h2 : 2 ≤ cs.length) (h8 : s.length ≤ 8) :
    Calls Tryd.prog 58 #[str s, str cs] w fun e w' => e = .returned (.int .i64 (Lib.indexAny s cs)) ∧ Below w.heap.size w w' := by
  have hS := Lib.hid hcs
  have hemp : cs.isEmpty = false := by cases cs with
    | nil => simp at h2
    | cons _ _ => rfl
  have hemp2 : (cs == []) = false := by cases cs with
    | nil => simp at h2
    | cons _ _ => rfl
  have hn1 : ((cs.length : Int) == 1) = false := beq_eq_false_iff_ne.2 (by omega)
  have h8z : decide ((8 : Int) < (s.length : Int)) = false := decide_eq_false (by omega)
  have U := Lib.hid (fun w' => Tryd.strings_shouldUseASCIISet (s.length : Int) w')
  clear hcs h2 h8
  go_enter Tryd.func58, Tryd.ntmps58
  go_wp2_with fail
  refine (U.out _).mono ?_
  rintro e w1 ⟨rfl, rfl⟩
  rw [h8z]
  clear U
  go_wp2
  go_loopg [9, 10] s.length (fun g _ _ wx => ∃ i : Nat, i + g = s.length ∧ wx.heap[w1.heap.size]? = some (.stringIter ⟨s.toArray⟩ i) ∧ Hid (Lib.NoAny s cs i) ∧ Below w1.heap.size w1 wx)
  case atStart => exact ⟨0, by omega, World.iter_heap _ _ _, Lib.hid (Lib.NoAny.zero _ _), bal (brf w1) _⟩
  case round =>
    obtain ⟨i, hig, hit, hno, hb⟩ := hrel
    cases gk with
    | zero =>
      obtain rfl : i = s.length := by omega
      have hnx := fun ty => Lib.run_next_end_at (P := Tryd.prog) _ w1.heap.size ⟨s.toArray⟩ s.length ty hit (Nat.lt_irrefl _)
      have hit' := Lib.hid hit
      clear hit
      go_wp2
      go_ret
      exact ⟨by rw [Lib.indexAny_none hno.out]; rfl, hb⟩
    | succ g =>
      have hi : i < s.length := by omega
      obtain ⟨c, hc⟩ : ∃ c, s[i]? = some c := ⟨_, List.getElem?_eq_getElem hi⟩
      by_cases hc0 : c.toNat < 128
      · have hg := str_get hc (by exact hi)
        have hnx := fun ty => Lib.run_next_ascii_at (P := Tryd.prog) _ w1.heap.size ⟨s.toArray⟩ i ty hit hi (by rw [hg]; exact hc0)
        rw [hg] at hnx
        have hit2 := Lib.iterAt_heap _ w1.heap.size ⟨s.toArray⟩ i (i + 1) hit
        have hb2 := Lib.below_iterAt hb (Nat.le_refl _) ⟨s.toArray⟩ (i + 1)
        generalize World.iterAt _ w1.heap.size ⟨s.toArray⟩ (i + 1) = wy at hnx hit2 hb2
        have hI := Lib.hid hit2
        have C := Lib.hid (fun w' => Tryd.strings_IndexRune_ascii ⟨cs.toArray⟩ (c.toNat : Int) w' (by omega) (by omega))
        have hcc : ((c.toNat : Int)).toNat.toUInt8 = c := by simp
        have hcon := Lib.contains_iff_indexByte cs c
        clear hit hit2 hb hg
        cases hin : cs.contains c with
        | true =>
          rw [hin] at hcon
          have hd : decide ((0 : Int) ≤ Lib.indexByte cs c) = true := hcon.symm
          have hfin := Lib.hid (Lib.indexAny_hit hno.out hc hin)
          clear hcon hno hc hin hc0
          go_wp2_with fail
          refine (C.out _).mono ?_
          rintro e w2 ⟨rfl, rfl⟩
          rw [hcc]
          go_wp2
          go_ret
          exact ⟨by rw [hfin.out]; rfl, hb2⟩
        | false =>
          rw [hin] at hcon
          have hd : decide ((0 : Int) ≤ Lib.indexByte cs c) = false := hcon.symm
          have hnx2 := Lib.hid (hno.out.succ hc hin)
          clear hcon hno hc hin hc0
          go_wp2_with fail
          refine (C.out _).mono ?_
          rintro e w2 ⟨rfl, rfl⟩
          rw [hcc]
          go_wp2
          go_roundg g
          case measure => omega
          case rel => exact ⟨i + 1, by omega, hI.out, hnx2, hb2⟩
      · obtain ⟨r, k, hd, hk1, hkl, hkb, hr⟩ := decode_beyond s i hi c hc (by omega)
        have hnx := fun ty => Lib.run_next_any_at (P := Tryd.prog) _ w1.heap.size ⟨s.toArray⟩ i ty hit hi
        rw [hd] at hnx
        have hit2 := Lib.iterAt_heap _ w1.heap.size ⟨s.toArray⟩ i (i + k) hit
        have hb2 := Lib.below_iterAt hb (Nat.le_refl _) ⟨s.toArray⟩ (i + k)
        dsimp only at hnx
        generalize World.iterAt _ w1.heap.size ⟨s.toArray⟩ (i + k) = wy at hnx hit2 hb2
        have hI := Lib.hid hit2
        have C := Lib.hid (fun w' => idxRune_beyond cs r w' hS.out hr)
        have hnx2 := Lib.hid (noAny_skip hno.out hS.out hkb)
        have hd1 : decide ((0 : Int) ≤ -1) = false := by decide
        clear hit hit2 hb hno hc hc0 hkb hr hd
        go_wp2_with fail
        refine (C.out _).mono ?_
        rintro e w2 ⟨rfl, hb3⟩
        have hI3 := Lib.hid ((hb3.block w1.heap.size (Array.getElem?_eq_some_iff.1 hI.out).1).trans hI.out)
        have hb4 := btr hb2 hb3
        go_wp2
        obtain ⟨g', hg'⟩ : ∃ g', g' = s.length - (i + k) := ⟨_, rfl⟩
        go_roundg g'
        case measure => omega
        case rel => exact ⟨i + k, by omega, hI3.out, hnx2, hb4⟩

theorem info_ascii : (Tryd.prog.info? 105).map (fun i => (i.zero, i.size)) = some (some (.agg (Array.replicate 256 (.bool false))), 256) := by kernel_rfl

theorem indexAny_any (s cs : Bs) (w : World) (hcs : Ascii cs) (h2 : 2 ≤ cs.length) (hc3 : cs.length < 4294967281) (hs : s.length < 4294967281) :
    Calls Tryd.prog 58 #[str s, str cs] w fun e w' => e = .returned (.int .i64 (Lib.indexAny s cs)) ∧ Below w.heap.size w w' := by
  by_cases h8 : s.length ≤ 8
  · exact indexAny_short s cs w hcs h2 h8
  · refine (Tryd.strings_IndexAny_long (zero_of_info info_ascii).1 ⟨s.toArray⟩ ⟨cs.toArray⟩ w h2 (by show 8 < s.length; omega) hs hc3 hcs).mono ?_
    rintro e w' ⟨rfl, rfl⟩
    exact ⟨rfl, bal (bal (brf w) _) _⟩

set_option maxHeartbeats 400000 in
theorem containsAny_any (s cs : Bs) (w : World) (hcs : Ascii cs) (h2 : 2 ≤ cs.length) (hc3 : cs.length < 4294967281) (hs : s.length < 4294967281) :
    Calls Tryd.prog 19 #[str s, str cs] w fun e w' => e = .returned (.bool (Lib.containsAny s cs)) ∧ Below w.heap.size w w' := by
  have C := Lib.hid (fun w' => indexAny_any s cs w' hcs h2 hc3 hs)
  clear hcs h2 hc3 hs
  go_enter Tryd.func19, Tryd.ntmps19
  go_wp2_with fail
  refine (C.out _).mono ?_
  rintro e w1 ⟨rfl, hb⟩
  go_wp2
  go_ret
  exact ⟨rfl, hb⟩

theorem containsAny_iff (cs : Bs) : ∀ s : Bs, Lib.containsAny s cs = s.any (cs.contains ·)
  | [] => rfl
  | b :: s => by
    have ih := containsAny_iff cs s
    unfold Lib.containsAny at ih ⊢
    rw [Lib.indexAny, List.any_cons, ← ih]
    cases h : cs.contains b with
    | true => simp
    | false =>
      have hge := Lib.indexAny_ge cs s
      simp only [Bool.false_eq_true, if_false, Bool.false_or]
      by_cases hm : Lib.indexAny s cs = -1
      · rw [hm]; simp
      · rw [if_neg (by simpa using hm)]
        exact decide_eq_decide.2 (by omega)

end Go.Proofs.YtjbidchdjpmonaaDoor
