/- doc.Runs. -/
import Derived.Test.YtgodceplajkcdaaDoc
import Derived.IntWalk
namespace Go.Proofs.Ytgodceplajkcdaa
open Go.RowKit Go.Mh

set_option maxRecDepth 100000 in
set_option maxHeartbeats 2000000 in
theorem runs_ok (F : Nat → Prop) (v : Value) (L : List It) (w : World) (h : RItems F w v L) (hc : chkDoc L = 0) (hl : L.length ≤ 80) :
    Calls Try.prog 26 #[v] w fun e w' => ∃ u, e = .returned (.tuple #[u, .int .i64 0]) ∧ RInts (w.heap.size ≤ ·) w' u (runs L) ∧ Below w.heap.size w w' := by
  have hchk := Lib.hid (check_any F v L w h)
  obtain ⟨a, cap, rfl, hn⟩ := RdS.len h
  have hc' := Lib.hid hc; clear hc
  have H := Lib.hid h; clear h
  go_enter Try.func26, Try.ntmps26
  go_wp2_with (go_at_call 30; refine hchk.out.mono ?_; rintro e w1 ⟨rfl, hb1⟩; rw [hc'.out])
  go_loopw [5, 6, 7, 15] (fun v _ _ i wr => ∃ k : Nat, k ≤ L.length ∧ i = .int .i64 k ∧ OwnS w.heap.size 3 1 RI wr v (((List.range k).filter (beg L)).map Int.ofNat) ∧ Below w.heap.size w wr) (fun _ _ _ i _ => L.length - (intOf i).toNat)
  case atStart => exact ⟨0, Nat.zero_le _, rfl, OwnS.nil, hb1⟩
  case round =>
    obtain ⟨k, hk, rfl, ho, hb⟩ := hrel
    have ho' := Lib.hid ho; clear ho
    by_cases hlt : k < L.length
    · obtain ⟨x, hx⟩ : ∃ x, L[k]? = some x := ⟨_, List.getElem?_eq_getElem hlt⟩
      obtain ⟨b, o, rfl, c0, c1, c2⟩ := RItems.at H.out hb hx
      have hx' := Lib.hid hx; clear hx
      obtain ⟨c, m, l⟩ := x
      have hlk := Lib.hid (runs_len L k)
      have hlk := Lib.hid (runs_len L k)
      have hlk := Lib.hid (runs_len L k)
      have hlk := Lib.hid (runs_len L k)
      have hlk := Lib.hid (runs_len L k)
      by_cases h0 : k = 0
      · have hbeg : Hid (beg L k = true) := by have := hx'.out; rw [h0] at this; show beg L k = true; rw [h0]; exact beg_zero this
        have hk0 : ((k : Int) == 0) = true := by simpa using h0
        have h0' := Lib.hid h0; clear h0
        go_wp2_with fail
        go_quiet (fail)
        go_wp2_with (at_builtin; refine wpList_app1 rfl (.tmp 58) (.tmp 60) 24 rfl w.heap.size 3 1 8 _ elInts RI _ _ rfl (ho'.out.below ((Below.refl _ _).alloc (Nat.le_refl _) _) fun _ _ _ r => r) (k : Int) [.int .i64 (k : Int)] 3 _ rfl (by simp) rfl (fun _ _ => rfl) RI_one (by have := hlk.out; unfold maxLen; omega) (by have := hlk.out; omega) (by have := hb.size; simp; omega) (fun _ _ _ _ _ r => r) ?_; intro v2 w2 ho2 hb2 hz2 _)
        go_roundw
        case rel => exact ⟨k + 1, by omega, by go_num, by rw [runs_step, hbeg.out, if_pos rfl]; exact ho2, (bdrewN (hb.alloc hb.size _) _).trans hb2⟩
        case measure => simp [intOf]; omega
      · obtain ⟨j, rfl⟩ : ∃ j, k = j + 1 := ⟨k - 1, by omega⟩
        clear h0
        obtain ⟨y, hy⟩ : ∃ y, L[j]? = some y := ⟨_, List.getElem?_eq_getElem (by omega)⟩
        obtain ⟨b', o', e', d0, d1, d2⟩ := RItems.at H.out hb hy
        cases e'
        have hb0 := Lib.hid (beg_succ hx'.out hy)
        clear hy
        obtain ⟨c', m', l'⟩ := y
        have hk0 : ((j : Int) + 1 == 0) = false := by rw [beq_eq_false_iff_ne]; omega
        have hs1 : IntKind.i64.wrap (j : Int) = (j : Int) := IntWalk.i64_in _ (by omega)
        have hs2 : (j : Int) < (L.length : Int) := by omega
        have hbs : b < wr.heap.size := lt_of_cell c0
        by_cases q0 : ((c.toNat : Int) == 10) = true
        · have hbeg : Hid (beg L (j + 1) = true) := by show beg L (j + 1) = true; rw [hb0.out]; simp [q0]
          go_wp2_with fail
          go_quiet (fail)
          go_wp2_with (at_builtin; refine wpList_app1 rfl (.tmp 58) (.tmp 60) 24 rfl w.heap.size 3 1 8 _ elInts RI _ _ rfl (ho'.out.below ((Below.refl _ _).alloc (Nat.le_refl _) _) fun _ _ _ r => r) ((j : Int) + 1 : Int) [.int .i64 ((j : Int) + 1 : Int)] 3 _ rfl (by simp) rfl (fun _ _ => rfl) RI_one (by have := hlk.out; unfold maxLen; omega) (by have := hlk.out; omega) (by have := hb.size; simp; omega) (fun _ _ _ _ _ r => r) ?_; intro v2 w2 ho2 hb2 hz2 _)
          go_roundw
          case rel => exact ⟨(j + 1) + 1, by omega, by go_num, by rw [runs_step, hbeg.out, if_pos rfl]; exact ho2, (bdrewN (hb.alloc hb.size _) _).trans hb2⟩
          case measure => simp [intOf]; omega
        have r0 : ((c.toNat : Int) == 10) = false := by simpa using q0
        clear q0
        by_cases q1 : ((c'.toNat : Int) == 10) = true
        · have hbeg : Hid (beg L (j + 1) = true) := by show beg L (j + 1) = true; rw [hb0.out]; simp [q1]
          go_wp2_with fail
          go_quiet (fail)
          go_wp2_with (at_builtin; refine wpList_app1 rfl (.tmp 58) (.tmp 60) 24 rfl w.heap.size 3 1 8 _ elInts RI _ _ rfl (ho'.out.below ((Below.refl _ _).alloc (Nat.le_refl _) _) fun _ _ _ r => r) ((j : Int) + 1 : Int) [.int .i64 ((j : Int) + 1 : Int)] 3 _ rfl (by simp) rfl (fun _ _ => rfl) RI_one (by have := hlk.out; unfold maxLen; omega) (by have := hlk.out; omega) (by have := hb.size; simp; omega) (fun _ _ _ _ _ r => r) ?_; intro v2 w2 ho2 hb2 hz2 _)
          go_roundw
          case rel => exact ⟨(j + 1) + 1, by omega, by go_num, by rw [runs_step, hbeg.out, if_pos rfl]; exact ho2, (bdrewN (hb.alloc hb.size _) _).trans hb2⟩
          case measure => simp [intOf]; omega
        have r1 : ((c'.toNat : Int) == 10) = false := by simpa using q1
        clear q1
        by_cases q2 : (m' != m) = true
        · have hbeg : Hid (beg L (j + 1) = true) := by show beg L (j + 1) = true; rw [hb0.out]; simp [q2]
          go_wp2_with fail
          go_quiet (fail)
          go_wp2_with (at_builtin; refine wpList_app1 rfl (.tmp 58) (.tmp 60) 24 rfl w.heap.size 3 1 8 _ elInts RI _ _ rfl (ho'.out.below ((Below.refl _ _).alloc (Nat.le_refl _) _) fun _ _ _ r => r) ((j : Int) + 1 : Int) [.int .i64 ((j : Int) + 1 : Int)] 3 _ rfl (by simp) rfl (fun _ _ => rfl) RI_one (by have := hlk.out; unfold maxLen; omega) (by have := hlk.out; omega) (by have := hb.size; simp; omega) (fun _ _ _ _ _ r => r) ?_; intro v2 w2 ho2 hb2 hz2 _)
          go_roundw
          case rel => exact ⟨(j + 1) + 1, by omega, by go_num, by rw [runs_step, hbeg.out, if_pos rfl]; exact ho2, (bdrewN (hb.alloc hb.size _) _).trans hb2⟩
          case measure => simp [intOf]; omega
        have r2 : (m' != m) = false := by simpa using q2
        clear q2
        by_cases q3 : (l' != l) = true
        · have hbeg : Hid (beg L (j + 1) = true) := by show beg L (j + 1) = true; rw [hb0.out]; simp [q3]
          have q3' : (l' == l) = false := by simpa using q3
          go_wp2_with fail
          go_quiet (fail)
          go_wp2_with (at_builtin; refine wpList_app1 rfl (.tmp 58) (.tmp 60) 24 rfl w.heap.size 3 1 8 _ elInts RI _ _ rfl (ho'.out.below ((Below.refl _ _).alloc (Nat.le_refl _) _) fun _ _ _ r => r) ((j : Int) + 1 : Int) [.int .i64 ((j : Int) + 1 : Int)] 3 _ rfl (by simp) rfl (fun _ _ => rfl) RI_one (by have := hlk.out; unfold maxLen; omega) (by have := hlk.out; omega) (by have := hb.size; simp; omega) (fun _ _ _ _ _ r => r) ?_; intro v2 w2 ho2 hb2 hz2 _)
          go_roundw
          case rel => exact ⟨(j + 1) + 1, by omega, by go_num, by rw [runs_step, hbeg.out, if_pos rfl]; exact ho2, (bdrewN (hb.alloc hb.size _) _).trans hb2⟩
          case measure => simp [intOf]; omega
        have r3 : (l' != l) = false := by simpa using q3
        clear q3
        have r3' : (l' == l) = true := by simpa using r3
        have hbeg : Hid (beg L (j + 1) = false) := by show beg L (j + 1) = false; rw [hb0.out, r0, r1, r2, r3]; rfl
        go_wp2_with fail
        go_quiet (fail)
        go_wp2
        go_roundw
        case rel => exact ⟨(j + 1) + 1, by omega, by go_num, by rw [runs_step, hbeg.out, if_neg (by decide), List.append_nil]; exact ho'.out.below (bdrewN ((Below.refl _ _).alloc (Nat.le_refl _) _) _) fun _ _ _ r => r, bdrewN (hb.alloc hb.size _) _⟩
        case measure => simp [intOf]; omega
    · obtain rfl : k = L.length := by omega
      go_wp2
      go_ret2
      exact ⟨_, rfl, ho'.out.rd, hb⟩
end Go.Proofs.Ytgodceplajkcdaa
