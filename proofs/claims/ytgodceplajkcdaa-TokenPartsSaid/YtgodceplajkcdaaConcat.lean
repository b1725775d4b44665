/- slices.Concat at bytes and at tokens; slices.Grow of nothing. -/
import Derived.Test.YtgodceplajkcdaaTokQ
import Derived.Lib.AppendZerosOnto
import Derived.Lib.Walk
namespace Go.Mh
open Go.RowKit
/-- A slice in a row of slices. -/
def RSl {α : Type} (sz : Nat) (R : World → List Value → α → Prop) (F : Nat → Prop) (w : World) (cs : List Value) (l : List α) : Prop := ∃ v, cs = [v] ∧ RdS sz R F w v l
theorem RdS.at1 {α : Type} {sz : Nat} {R : World → List Value → α → Prop} {F : Nat → Prop} {w wr : World} {a : Option Addr} {n cap : Nat} {LL : List (List α)} (h : RdS 1 (RSl sz R F) F w (.slice a n cap) LL) (hs : 0 < sz) (hR : ∀ cs x, R w cs x → R wr cs x) (hb : Below w.heap.size w wr) {k : Nat} {l : List α} (hx : LL[k]? = some l) :
    ∃ b o v, a = some ⟨b, o, none⟩ ∧ wr.cell? ⟨b, o + k, none⟩ = some v ∧ RdS sz R F wr v l := by
  obtain ⟨a', cap', e, _, _, _, hel⟩ := h
  cases e
  obtain ⟨b, o, cs, h1, _, _, hat, v, hcs, hr⟩ := hel k l hx
  subst hcs
  refine ⟨b, o, v, h1, ?_, hr.to hs (fun k hF hk => ⟨hF, hb.block k hk⟩) (fun cs x _ r => hR cs x r)⟩
  have := (hat.to (hb.block b (hat.lt (by simp)))).one
  simpa using this
theorem OwnS.low {α : Type} {b b' e sz : Nat} {R : World → List Value → α → Prop} {w : World} {v : Value} {L : List α} (h : OwnS b e sz R w v L) (hb : b' ≤ b) : OwnS b' e sz R w v L := by
  obtain ⟨css, ⟨h0, h1⟩, h2, h3⟩ := h
  refine ⟨css, ⟨h0, ?_⟩, h2, h3⟩
  rcases h1 with h1 | ⟨g, cap, cur, e1, hg, hr⟩
  · exact Or.inl h1
  · exact Or.inr ⟨g, cap, cur, e1, Nat.le_trans hb hg, hr⟩
/-- How long what stands ahead is. -/
def lenN {α : Type} (LL : List (List α)) (k : Nat) : Nat := (LL.take k).flatten.length
theorem lenN_step {α : Type} {LL : List (List α)} {k : Nat} {l : List α} (h : LL[k]? = some l) : lenN LL (k + 1) = lenN LL k + l.length := by
  unfold lenN; rw [List.take_add_one, h]; simp
theorem flat_step {α : Type} {LL : List (List α)} {k : Nat} {l : List α} (h : LL[k]? = some l) : (LL.take (k + 1)).flatten = (LL.take k).flatten ++ l := by
  rw [List.take_add_one, h]; simp
theorem lenN_le {α : Type} (LL : List (List α)) (k : Nat) : lenN LL k ≤ LL.flatten.length := by
  unfold lenN
  conv => rhs; rw [← List.take_append_drop k LL, List.flatten_append, List.length_append]
  omega
end Go.Mh
namespace Go.Proofs.Ytgodceplajkcdaa
open Go.RowKit Go.Mh

set_option maxRecDepth 100000 in
set_option maxHeartbeats 2000000 in
theorem growB (n : Nat) (w : World) (h0 : 0 < n) (hn : n ≤ 140737488355328) :
    Calls Try.prog 79 #[.slice none 0 0, .int .i64 n] w fun e w' => ∃ v, e = .returned v ∧ OwnS w.heap.size 5 1 RB w' v [] ∧ Below w.heap.size w w' := by
  obtain ⟨i0, hi, hz0, hz1, hz2⟩ := info_parts elBytes.info
  have hcs := elBytes.cells
  have hrz : ∀ ty, (Builtin.append_ #[27, 3] ty #[.slice none 0 0, .int .i64 (n : Int)]).run Try.prog w =
      .ok (.slice (some ⟨w.heap.size, 0, none⟩) n (grownCap w n 0 5)) (w.drew.alloc (.cells (Builtin.zeroCells (.int .u8 0 : Value).cells n ++ Builtin.zeroCells (.int .u8 0 : Value).cells (grownCap w n 0 5 - n)) 5)) := fun ty => by
    have h := Lib.run_append_grow_zeros w 27 3 ty 5 i0 _ .i64 .i64 elBytes.under Try.underlying3 hi hz0 none 0 0 [] (run_firstCells_none w.drew i0.size 0 0 0) n h0 (by rw [hz1]; decide) (by omega) (by omega)
      (by rw [hz2]; omega) (by rw [hz2]; exact growslice_fits (by omega) (by omega))
    simpa using h
  have hGn : n ≤ grownCap w n 0 5 := grownCap_ge w _ _ _
  have hG63 := grownCap_le_maxLen w n 0 5 (by unfold maxLen; omega)
  generalize grownCap w n 0 5 = G at *
  have hG' : G ≤ 9223372036854775807 := hG63
  have hfin : OwnS w.heap.size 5 1 RB (w.drew.alloc (.cells (Builtin.zeroCells (.int .u8 0 : Value).cells n ++ Builtin.zeroCells (.int .u8 0 : Value).cells (G - n)) 5)) (.slice (some ⟨w.heap.size, 0, none⟩) 0 G) [] := by
    refine ⟨[], ⟨by simp, Or.inr ⟨_, G, _, rfl, Nat.le_refl _, heap_new w.drew _, Nat.zero_le _, hG63, ?_, by simp⟩⟩, rfl, fun i cs x h => by simp at h⟩
    simp only [Array.size_append, size_zeroCells, hcs]
    omega
  have hbel : Below w.heap.size w (w.drew.alloc (.cells (Builtin.zeroCells (.int .u8 0 : Value).cells n ++ Builtin.zeroCells (.int .u8 0 : Value).cells (G - n)) 5)) := bal (brf w).drew _
  have h1 : decide ((n : Int) < 0) = false := by simp
  have hF := Lib.hid hfin
  have hB := Lib.hid hbel
  clear hfin hbel hcs hi hz0 hz1 hz2
  generalize (w.drew.alloc (.cells (Builtin.zeroCells (.int .u8 0 : Value).cells n ++ Builtin.zeroCells (.int .u8 0 : Value).cells (G - n)) 5)) = wq at *
  go_enter Try.func79, Try.ntmps79
  go_wp2_with (at_builtin; refine Lib.wpList_append_run _ rfl _ _ _ _ rfl _ _ rfl rfl _ _ (hrz _) ?_)
  go_ret
  exact ⟨_, rfl, hF.out, hB.out⟩

set_option maxRecDepth 100000 in
set_option maxHeartbeats 2000000 in
theorem concatB (F : Nat → Prop) (v : Value) (LL : List (List UInt8)) (w : World) (h : RdS 1 (RSl 1 RB F) F w v LL) (h10 : LL.length ≤ 10) (hmax : LL.flatten.length ≤ 140737488355328) (h0 : 0 < LL.flatten.length) :
    Calls Try.prog 22 #[v] w fun e w' => ∃ r, e = .returned r ∧ OwnS w.heap.size 5 1 RB w' r LL.flatten ∧ Below w.heap.size w w' := by
  obtain ⟨a, cap, rfl, hn⟩ := RdS.len h
  have H := Lib.hid h
  obtain ⟨N, hN⟩ : ∃ N, LL.flatten.length = N := ⟨_, rfl⟩
  have hall : Hid (lenN LL LL.length = N) := Lib.hid (by unfold lenN; rw [List.take_length, hN])
  have hle := Lib.hid (lenN_le LL)
  rw [hN] at hle hmax h0
  clear h hN
  go_enter Try.func22, Try.ntmps22
  go_wp2
  go_loopw [3, 11] (fun sv i wr => ∃ k : Nat, k ≤ LL.length ∧ i = .int .i64 k ∧ sv = .int .i64 (lenN LL k) ∧ Below w.heap.size w wr) (fun _ i _ => LL.length - (intOf i).toNat)
  case atStart => exact ⟨0, Nat.zero_le _, rfl, rfl, brf _⟩
  case round =>
    obtain ⟨k, hk, rfl, rfl, hb⟩ := hrel
    by_cases hlt : k < LL.length
    · obtain ⟨l, hl⟩ : ∃ l, LL[k]? = some l := ⟨_, List.getElem?_eq_getElem hlt⟩
      obtain ⟨b, o, lv, rfl, hc, hr⟩ := RdS.at1 (wr := wr) H.out (by decide) (fun _ _ r => r) hb hl
      obtain ⟨la, lc, rfl, _⟩ := RdS.len hr
      have hst := Lib.hid (lenN_step hl)
      have h1 := hle.out (k + 1)
      rw [hst.out] at h1
      have h2 : ¬ ((lenN LL k : Int) + (l.length : Int) < 0) := by omega
      have h3 : wrap64 ((lenN LL k : Int) + (l.length : Int)) = (lenN LL k : Int) + (l.length : Int) := by unfold wrap64; omega
      clear hr hl
      go_wp2
      go_roundw
      case rel => exact ⟨k + 1, by omega, by go_num, by rw [hst.out]; go_num, hb⟩
      case measure => simp [intOf]; omega
    · obtain rfl : k = LL.length := by omega
      rw [hall.out]
      clear hlt hk
      go_wp2_with fail
      refine (growB N wr h0 hmax).mono ?_
      rintro e w1 ⟨gv, rfl, hown, hb1⟩
      have hB1 := btr hb hb1
      have hwb := hb.size
      have hO2 : OwnS w.heap.size 5 1 RB w1 gv [] := hown.low hwb
      clear hown hb1 hb
      go_wp2
      go_loopw [6, 27] (fun rv i ws => ∃ k : Nat, k ≤ LL.length ∧ i = .int .i64 k ∧ OwnS w.heap.size 5 1 RB ws rv (LL.take k).flatten ∧ Below w.heap.size w ws) (fun _ i _ => LL.length - (intOf i).toNat)
      case atStart => exact ⟨0, Nat.zero_le _, rfl, hO2, hB1⟩
      case round =>
        clear hO2 hB1
        obtain ⟨k, hk, rfl, ho, hb⟩ := hrel
        have ho' := Lib.hid ho
        clear ho
        by_cases hlt : k < LL.length
        · obtain ⟨l, hl⟩ : ∃ l, LL[k]? = some l := ⟨_, List.getElem?_eq_getElem hlt⟩
          obtain ⟨b, o, lv, rfl, hc, hr⟩ := RdS.at1 (wr := wr) H.out (by decide) (fun _ _ r => r) hb hl
          have hst := Lib.hid (flat_step hl)
          have h1 := hle.out (k + 1)
          rw [lenN_step hl] at h1
          have h2 : (LL.take k).flatten.length = lenN LL k := rfl
          have hr' := Lib.hid hr
          have hz := hb.size
          clear hr hl
          go_wp2_with (at_builtin; refine wpList_app rfl (.tmp 31) (.tmp 32) 27 rfl w.heap.size 5 1 1 _ elBytes RB _ (LL.take k).flatten l rfl ho'.out F _ rfl hr'.out RB_one (by unfold maxLen; omega) (by omega) hz (fun _ _ _ _ _ r => r) ?_; intro v2 w2 ho2 _ hb2)
          have ho2' := Lib.hid ho2
          clear ho2
          go_wp2
          go_roundw
          case rel => exact ⟨k + 1, by omega, by go_num, by rw [hst.out]; exact ho2'.out, hb.trans hb2⟩
          case measure => simp [intOf]; omega
        · obtain rfl : k = LL.length := by omega
          rw [List.take_length] at ho'
          go_wp2
          go_ret
          exact ⟨_, rfl, ho'.out, hb⟩

set_option maxRecDepth 100000 in
set_option maxHeartbeats 2000000 in
theorem growT (n : Nat) (w : World) (h0 : 0 < n) (hn : n ≤ 1000000) :
    Calls Try.prog 80 #[.slice none 0 0, .int .i64 n] w fun e w' => ∃ v, e = .returned v ∧ OwnS w.heap.size 33 4 RTok w' v [] ∧ Below w.heap.size w w' := by
  obtain ⟨i0, hi, hz0, hz1, hz2⟩ := info_parts elToks.info
  have hcs := elToks.cells
  have hrz : ∀ ty, (Builtin.append_ #[28, 3] ty #[.slice none 0 0, .int .i64 (n : Int)]).run Try.prog w =
      .ok (.slice (some ⟨w.heap.size, 0, none⟩) n (grownCap w n 0 33)) (w.drew.alloc (.cells (Builtin.zeroCells (.agg #[.int .i64 0, .string ⟨#[]⟩, .string ⟨#[]⟩, .string ⟨#[]⟩] : Value).cells n ++ Builtin.zeroCells (.agg #[.int .i64 0, .string ⟨#[]⟩, .string ⟨#[]⟩, .string ⟨#[]⟩] : Value).cells (grownCap w n 0 33 - n)) 33)) := fun ty => by
    have h := Lib.run_append_grow_zeros w 28 3 ty 33 i0 _ .i64 .i64 elToks.under Try.underlying3 hi hz0 none 0 0 [] (run_firstCells_none w.drew i0.size 0 0 0) n h0 (by rw [hz1]; decide) (by omega) (by omega)
      (by rw [hz2]; omega) (by rw [hz2]; exact growslice_fits (by omega) (by omega))
    simpa using h
  have hGn : n ≤ grownCap w n 0 33 := grownCap_ge w _ _ _
  have hG63 := grownCap_le_maxLen w n 0 33 (by unfold maxLen; omega)
  generalize grownCap w n 0 33 = G at *
  have hG' : G ≤ 9223372036854775807 := hG63
  have hfin : OwnS w.heap.size 33 4 RTok (w.drew.alloc (.cells (Builtin.zeroCells (.agg #[.int .i64 0, .string ⟨#[]⟩, .string ⟨#[]⟩, .string ⟨#[]⟩] : Value).cells n ++ Builtin.zeroCells (.agg #[.int .i64 0, .string ⟨#[]⟩, .string ⟨#[]⟩, .string ⟨#[]⟩] : Value).cells (G - n)) 33)) (.slice (some ⟨w.heap.size, 0, none⟩) 0 G) [] := by
    refine ⟨[], ⟨by simp, Or.inr ⟨_, G, _, rfl, Nat.le_refl _, heap_new w.drew _, Nat.zero_le _, hG63, ?_, by simp⟩⟩, rfl, fun i cs x h => by simp at h⟩
    simp only [Array.size_append, size_zeroCells, hcs]
    omega
  have hbel : Below w.heap.size w (w.drew.alloc (.cells (Builtin.zeroCells (.agg #[.int .i64 0, .string ⟨#[]⟩, .string ⟨#[]⟩, .string ⟨#[]⟩] : Value).cells n ++ Builtin.zeroCells (.agg #[.int .i64 0, .string ⟨#[]⟩, .string ⟨#[]⟩, .string ⟨#[]⟩] : Value).cells (G - n)) 33)) := bal (brf w).drew _
  have h1 : decide ((n : Int) < 0) = false := by simp
  have hF := Lib.hid hfin
  have hB := Lib.hid hbel
  clear hfin hbel hcs hi hz0 hz1 hz2
  generalize (w.drew.alloc (.cells (Builtin.zeroCells (.agg #[.int .i64 0, .string ⟨#[]⟩, .string ⟨#[]⟩, .string ⟨#[]⟩] : Value).cells n ++ Builtin.zeroCells (.agg #[.int .i64 0, .string ⟨#[]⟩, .string ⟨#[]⟩, .string ⟨#[]⟩] : Value).cells (G - n)) 33)) = wq at *
  go_enter Try.func80, Try.ntmps80
  go_wp2_with (at_builtin; refine Lib.wpList_append_run _ rfl _ _ _ _ rfl _ _ rfl rfl _ _ (hrz _) ?_)
  go_ret
  exact ⟨_, rfl, hF.out, hB.out⟩

set_option maxRecDepth 100000 in
set_option maxHeartbeats 2000000 in
theorem concatT (F : Nat → Prop) (v : Value) (LL : List (List Tok)) (w : World) (h : RdS 1 (RSl 4 RTok F) F w v LL) (h10 : LL.length ≤ 10) (hmax : LL.flatten.length ≤ 1000000) (h0 : 0 < LL.flatten.length) :
    Calls Try.prog 25 #[v] w fun e w' => ∃ r, e = .returned r ∧ OwnS w.heap.size 33 4 RTok w' r LL.flatten ∧ Below w.heap.size w w' := by
  obtain ⟨a, cap, rfl, hn⟩ := RdS.len h
  have H := Lib.hid h
  obtain ⟨N, hN⟩ : ∃ N, LL.flatten.length = N := ⟨_, rfl⟩
  have hall : Hid (lenN LL LL.length = N) := Lib.hid (by unfold lenN; rw [List.take_length, hN])
  have hle := Lib.hid (lenN_le LL)
  rw [hN] at hle hmax h0
  clear h hN
  go_enter Try.func25, Try.ntmps25
  go_wp2
  go_loopw [3, 11] (fun sv i wr => ∃ k : Nat, k ≤ LL.length ∧ i = .int .i64 k ∧ sv = .int .i64 (lenN LL k) ∧ Below w.heap.size w wr) (fun _ i _ => LL.length - (intOf i).toNat)
  case atStart => exact ⟨0, Nat.zero_le _, rfl, rfl, brf _⟩
  case round =>
    obtain ⟨k, hk, rfl, rfl, hb⟩ := hrel
    by_cases hlt : k < LL.length
    · obtain ⟨l, hl⟩ : ∃ l, LL[k]? = some l := ⟨_, List.getElem?_eq_getElem hlt⟩
      obtain ⟨b, o, lv, rfl, hc, hr⟩ := RdS.at1 (wr := wr) H.out (by decide) (fun _ _ r => r) hb hl
      obtain ⟨la, lc, rfl, _⟩ := RdS.len hr
      have hst := Lib.hid (lenN_step hl)
      have h1 := hle.out (k + 1)
      rw [hst.out] at h1
      have h2 : ¬ ((lenN LL k : Int) + (l.length : Int) < 0) := by omega
      have h3 : wrap64 ((lenN LL k : Int) + (l.length : Int)) = (lenN LL k : Int) + (l.length : Int) := by unfold wrap64; omega
      clear hr hl
      go_wp2
      go_roundw
      case rel => exact ⟨k + 1, by omega, by go_num, by rw [hst.out]; go_num, hb⟩
      case measure => simp [intOf]; omega
    · obtain rfl : k = LL.length := by omega
      rw [hall.out]
      clear hlt hk
      go_wp2_with fail
      refine (growT N wr h0 hmax).mono ?_
      rintro e w1 ⟨gv, rfl, hown, hb1⟩
      have hB1 := btr hb hb1
      have hwb := hb.size
      have hO2 : OwnS w.heap.size 33 4 RTok w1 gv [] := hown.low hwb
      clear hown hb1 hb
      go_wp2
      go_loopw [6, 27] (fun rv i ws => ∃ k : Nat, k ≤ LL.length ∧ i = .int .i64 k ∧ OwnS w.heap.size 33 4 RTok ws rv (LL.take k).flatten ∧ Below w.heap.size w ws) (fun _ i _ => LL.length - (intOf i).toNat)
      case atStart => exact ⟨0, Nat.zero_le _, rfl, hO2, hB1⟩
      case round =>
        clear hO2 hB1
        obtain ⟨k, hk, rfl, ho, hb⟩ := hrel
        have ho' := Lib.hid ho
        clear ho
        by_cases hlt : k < LL.length
        · obtain ⟨l, hl⟩ : ∃ l, LL[k]? = some l := ⟨_, List.getElem?_eq_getElem hlt⟩
          obtain ⟨b, o, lv, rfl, hc, hr⟩ := RdS.at1 (wr := wr) H.out (by decide) (fun _ _ r => r) hb hl
          have hst := Lib.hid (flat_step hl)
          have h1 := hle.out (k + 1)
          rw [lenN_step hl] at h1
          have h2 : (LL.take k).flatten.length = lenN LL k := rfl
          have hr' := Lib.hid hr
          have hz := hb.size
          clear hr hl
          go_wp2_with (at_builtin; refine wpList_app rfl (.tmp 31) (.tmp 32) 28 rfl w.heap.size 33 4 56 _ elToks RTok _ (LL.take k).flatten l rfl ho'.out F _ rfl hr'.out RTok_one (by unfold maxLen; omega) (by omega) hz (fun _ _ _ _ _ r => r) ?_; intro v2 w2 ho2 _ hb2)
          have ho2' := Lib.hid ho2
          clear ho2
          go_wp2
          go_roundw
          case rel => exact ⟨k + 1, by omega, by go_num, by rw [hst.out]; exact ho2'.out, hb.trans hb2⟩
          case measure => simp [intOf]; omega
        · obtain rfl : k = LL.length := by omega
          rw [List.take_length] at ho'
          go_wp2
          go_ret
          exact ⟨_, rfl, ho'.out, hb⟩
end Go.Proofs.Ytgodceplajkcdaa
