/- Package token: lower, value, tag. -/
import Derived.Test.YtkekjddkbmmckaaGreatTok
import Derived.Deep.RegionWith
import Derived.Deep.DeepCutAuto
import Derived.Deep.CutBlock
import Derived.Test.YtkekjddkbmmckaaGreatRegT
namespace Go.Mh
open Go.RowKit
theorem str_one (c : UInt8) (s : Bs) : Value.string ((⟨(c :: s).toArray⟩ : ByteArray).extract 0 1) = .string ⟨#[c]⟩ := str_upto (c :: s) 1
theorem str_cat (a b : Bs) : Value.string ((⟨a.toArray⟩ : ByteArray) ++ ⟨b.toArray⟩) = str (a ++ b) := by
  unfold str
  congr 1
theorem suf_blanks (s : Bs) : Suf (blanks s) s := suf_dw isSp s
/-- What token.tag returns. -/
def tagV : Option (Bs × Bs × Bs) → Value
  | none => .tuple #[str [], str [], str [], .bool false]
  | some (n, h, r) => .tuple #[str n, str h, str r, .bool true]
end Go.Mh
namespace Go.Proofs.YtkekjddkbmmckaaGreat
open Go.RowKit Go.Mh

set_option maxHeartbeats 400000 in
theorem tokLower_any (l : Bs) (w : World) (hs : l.length ≤ maxLen) :
    Calls Tryz.prog 32 #[str l] w fun e w' => e = .returned (str (lower l)) ∧ Below w.heap.size w w' := by
  unfold maxLen at hs
  go_enter Tryz.func32, Tryz.ntmps32
  go_wp2_with (refine wpList_bytes_of_string _ rfl 9 22 (.tmp 6) rfl 5 Tryz.underlying9 Tryz.underlying22 Tryz.underlying5 l rfl ?_; intro w1 cap hc hf hz hb)
  go_loopw [4, 5, 10] (fun _ _ i wr => ∃ k : Nat, k ≤ l.length ∧ i = .int .i64 k ∧ (∀ j c, l[j]? = some c → wr.cell? ⟨w.heap.size, j, none⟩ = some (.int .u8 ((if j < k then lowB c else c).toNat : Int))) ∧ (∀ j, j < l.length → wr.frozen? ⟨w.heap.size, j, none⟩ = false) ∧ Below w.heap.size w wr) (fun _ _ i _ => l.length - (intOf i).toNat)
  case atStart => exact ⟨0, Nat.zero_le _, rfl, by simpa using hc, hf, hb⟩
  case round =>
    obtain ⟨k, hk, rfl, hc', hf', hb'⟩ := hrel
    clear hc hf hz hb
    by_cases hlt : k < l.length
    · obtain ⟨c, hck'⟩ : ∃ c, l[k]? = some c := ⟨_, List.getElem?_eq_getElem hlt⟩
      have hck := hc' k c hck'
      simp only [Nat.lt_irrefl, if_false] at hck
      have hfk := hf' k hlt
      have hcz := Lib.hid hc'; clear hc'
      have hfz := Lib.hid hf'; clear hf'
      have hcv := Lib.hid hck'; clear hck'
      go_wp2
      · go_roundw
        case rel =>
          refine ⟨k + 1, by omega, by go_num, fun j d h => ?_, fun j h => by rw [World.frozen?_setCell]; exact hfz.out j h, hb'.setCell (Nat.le_refl _) _⟩
          rw [cell_set (hcz.out j d h)]
          by_cases hkj : k = j
          · subst hkj
            obtain rfl : c = d := by have := hcv.out; rw [this] at h; exact Option.some.inj h
            rw [if_pos rfl, if_pos (by omega), lowB_up ‹_› ‹_›]
          · rw [if_neg hkj]
            have : (j < k + 1) = (j < k) := by simp; omega
            simp only [this]
        case measure => simp [intOf]; omega
      all_goals
        go_roundw
        case rel =>
          refine ⟨k + 1, by omega, by go_num, fun j d h => ?_, hfz.out, hb'⟩
          rw [hcz.out j d h]
          by_cases hkj : k = j
          · subst hkj
            obtain rfl : c = d := by have := hcv.out; rw [this] at h; exact Option.some.inj h
            rw [if_neg (by omega), if_pos (by omega), lowB_id (by omega)]
          · have : (j < k + 1) = (j < k) := by simp; omega
            simp only [this]
        case measure => simp [intOf]; omega
    · obtain rfl : k = l.length := by omega
      have hback := run_convert_bytes_back (P := Tryz.prog) wr 22 9 5 ⟨w.heap.size, 0, none⟩ cap (lower l) Tryz.underlying22 Tryz.underlying5 Tryz.underlying9 (fun j hj => by
        have hj' : j < l.length := by simpa [lower] using hj
        have := hc' j _ (List.getElem?_eq_getElem hj')
        rw [if_pos hj'] at this
        simpa [Addr.add_lit, lower] using this)
      have hl : (lower l).length = l.length := by simp [lower]
      rw [hl] at hback
      clear hc' hf' hl
      go_wp2
      go_ret
      exact ⟨rfl, hb'⟩


set_option maxRecDepth 100000 in
set_option maxHeartbeats 2000000 in
theorem tokValue_any (l : Bs) (w : World) (hl : l.length ≤ maxLen) :
    Calls Tryz.prog 35 #[str l] w fun e w' => e = .returned (.tuple #[str (valueT l).1, str (valueT l).2]) ∧ Below w.heap.size w w' := by
  have hbl := (suf_blanks l).len
  have hres : ∃ r, Hid (valueT l = r) := ⟨_, Lib.hid rfl⟩
  obtain ⟨⟨R1, R2⟩, hres⟩ := hres
  rw [hres.out]
  go_enter Tryz.func35, Tryz.ntmps35
  go_wp2_with fail
  refine (tokBlanks_any l w hl).mono ?_
  rintro e w1 ⟨rfl, hb1⟩
  have hr := hres.out
  unfold valueT at hr
  cases hB : blanks l with
  | nil =>
    rw [hB] at hr
    cases hr
    clear hres
    go_wp2_with fail
    refine (tokWordV_any [] w1 (by simp)).mono ?_
    rintro e w2 ⟨rfl, hb2⟩
    go_wp2
    go_ret2
    exact ⟨rfl, btr hb1 hb2⟩
  | cons c r =>
    rw [hB] at hr hbl
    simp only at hr
    have hrl : r.length ≤ maxLen := by simp at hbl; omega
    have hcl : (c :: r).length ≤ maxLen := by omega
    have hg : ∀ hk, (⟨(c :: r).toArray⟩ : ByteArray)[0]'hk = c := str_get rfl
    by_cases hq : c = 34 ∨ c = 39
    · rw [if_pos hq] at hr
      cases hr
      have C := Lib.hid (cut1_any r c w1.drew hrl)
      have way : ((c.toNat : Int) == 34) = true ∨ (((c.toNat : Int) == 34) = false ∧ ((c.toNat : Int) == 39) = true) := by
        rcases hq with h | h
        · left; subst h; rfl
        · right; subst h; exact ⟨rfl, rfl⟩
      clear hres hq hB
      rcases way with d1 | ⟨d1, d2⟩
      all_goals
        go_upto_region 3 with fail
        have h1le : (1 : Int) ≤ (r.length : Int) + 1 := by omega
        have Q0 : Below w1.heap.size w1 w1.drew := (brf w1).drew
        refine wp_region_held (S := fun w' => Below w1.heap.size w1 w') (by kernel_rfl) ?_
        refine wpAnyH_takeD 0 22 (v := ?_) rfl rfl (by kernel_rfl) (by kernel_rfl) (by kernel_rfl) (fun _ _ _ h => h) (Or.inl ⟨by rfl, ?_⟩) Q0 ?_
        rotate_left
        · (intro w' hw'; (try dsimp only at hw'); go_simp; try with_reducible rfl)
        simp only [List.set_cons_zero, List.set_cons_succ]
        refine wpAnyH_takeD 1 23 (v := ?_) rfl rfl (by kernel_rfl) (by kernel_rfl) (by kernel_rfl) (fun _ _ _ h => h) (Or.inl ⟨by rfl, ?_⟩) Q0 ?_
        rotate_left
        · (intro w' hw'; (try dsimp only at hw'); go_simp; try with_reducible rfl)
        simp only [List.set_cons_zero, List.set_cons_succ]
        refine wpAnyH_takeD 2 24 (v := ?_) rfl rfl (by kernel_rfl) (by kernel_rfl) (by kernel_rfl) (fun _ _ _ h => h) (Or.inl ⟨by rfl, ?_⟩) Q0 ?_
        rotate_left
        · (intro w' hw'; (try dsimp only at hw'); go_simp; try with_reducible rfl)
        simp only [List.set_cons_zero, List.set_cons_succ]
        refine wpAnyH_takeD 3 25 (v := ?_) rfl rfl (by kernel_rfl) (by kernel_rfl) (by kernel_rfl) (fun _ _ _ h => h) (Or.inl ⟨by rfl, ?_⟩) Q0 ?_
        rotate_left
        · (intro w' hw'; (try dsimp only at hw'); go_simp; try with_reducible rfl)
        simp only [List.set_cons_zero, List.set_cons_succ]
        refine wpAnyH_step 4 rfl (by kernel_rfl) (fun K' hK' => ?_)
        rw [if_pos (by rfl)]
        go_simp
        go_at_call 12
        rw [str_tail, str_one]
        refine (C.out).mono ?_
        rintro e w2 ⟨rfl, hb2⟩
        have Q1 := btr Q0 hb2
        go_wp2_with fail
        refine hK'.out _ _ Q1 ?_
        clear hK' K'
        refine wpAnyH_takeD 5 21 (v := ?_) rfl rfl (by kernel_rfl) (by kernel_rfl) (by kernel_rfl) (fun _ _ _ h => h) (Or.inl ⟨by rfl, ?_⟩) Q1 ?_
        rotate_left
        · (intro w' hw'; (try dsimp only at hw'); go_simp; try with_reducible rfl)
        simp only [List.set_cons_zero, List.set_cons_succ]
        refine wpAnyH_takeD 6 27 (v := ?_) rfl rfl (by kernel_rfl) (by kernel_rfl) (by kernel_rfl) (fun _ _ _ h => h) (Or.inl ⟨by rfl, ?_⟩) Q1 ?_
        rotate_left
        · (intro w' hw'; (try dsimp only at hw'); go_simp; try with_reducible rfl)
        simp only [List.set_cons_zero, List.set_cons_succ]
        refine wpAnyH_takeD 7 28 (v := ?_) rfl rfl (by kernel_rfl) (by kernel_rfl) (by kernel_rfl) (fun _ _ _ h => h) (Or.inl ⟨by rfl, ?_⟩) Q1 ?_
        rotate_left
        · (intro w' hw'; (try dsimp only at hw'); go_simp; try with_reducible rfl)
        simp only [List.set_cons_zero, List.set_cons_succ]
        refine wpAnyH_takeD 8 29 (v := ?_) rfl rfl (by kernel_rfl) (by kernel_rfl) (by kernel_rfl) (fun _ _ _ h => h) (Or.inl ⟨by rfl, ?_⟩) Q1 ?_
        rotate_left
        · (intro w' hw'; (try dsimp only at hw'); go_simp; try with_reducible rfl)
        simp only [List.set_cons_zero, List.set_cons_succ]
        refine wpAnyH_takeD 9 4 (v := ?_) rfl rfl (by kernel_rfl) (by kernel_rfl) (by kernel_rfl) (fun _ _ _ h => h) (Or.inl ⟨by rfl, ?_⟩) Q1 ?_
        rotate_left
        · (intro w' hw'; (try dsimp only at hw'); go_simp; try with_reducible rfl)
        simp only [List.set_cons_zero, List.set_cons_succ]
        refine wpAnyH_takeD 10 5 (v := ?_) rfl rfl (by kernel_rfl) (by kernel_rfl) (by kernel_rfl) (fun _ _ _ h => h) (Or.inl ⟨by rfl, ?_⟩) Q1 ?_
        rotate_left
        · (intro w' hw'; (try dsimp only at hw'); go_simp; try with_reducible rfl)
        simp only [List.set_cons_zero, List.set_cons_succ]
        refine wpAnyH_takeD 11 6 (v := ?_) rfl rfl (by kernel_rfl) (by kernel_rfl) (by kernel_rfl) (fun _ _ _ h => h) (Or.inl ⟨by rfl, ?_⟩) Q1 ?_
        rotate_left
        · (intro w' hw'; (try dsimp only at hw'); go_simp; try with_reducible rfl)
        simp only [List.set_cons_zero, List.set_cons_succ]
        refine wpAnyH_done (by kernel_rfl) ?_ _
        go_wp2
        go_ret2
        exact ⟨rfl, btr hb1 Q1⟩
    · rw [if_neg hq] at hr
      cases hr
      have d1 : ((c.toNat : Int) == 34) = false := by rw [← show (c == 34) = ((c.toNat : Int) == 34) from u8eq c 34]; simp; exact fun h => hq (Or.inl h)
      have d2 : ((c.toNat : Int) == 39) = false := by rw [← show (c == 39) = ((c.toNat : Int) == 39) from u8eq c 39]; simp; exact fun h => hq (Or.inr h)
      clear hres hq hB
      go_wp2_with fail
      refine (tokWordV_any (c :: r) w1 hcl).mono ?_
      rintro e w2 ⟨rfl, hb2⟩
      go_wp2
      go_ret2
      exact ⟨rfl, btr hb1 hb2⟩
end Go.Proofs.YtkekjddkbmmckaaGreat
