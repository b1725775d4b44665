/- The reference ReadSo: strings.NewReplacer(..).Replace. -/
import Derived.Test.YtkekjddkbmmckaaGreatAsw
namespace Go.Mh
open Go.RowKit
theorem first1_other (c : UInt8) (r : Bs) (h : c ≠ 38) : first1 c r = (c, 0) := by
  have e : ((38 : UInt8) == c) = false := by simpa using fun e => h e.symm
  simp [first1, eAmp, eLt, eGt, eQuot, List.isPrefixOf, e]
theorem numK_root_fin : ∀ n : Fin 256, n.val ≠ 38 → numK n.val = 11 ∨ (1 ≤ numK n.val ∧ numK n.val ≤ 10) := by decide +kernel
theorem numK_root (c : UInt8) (h : c ≠ 38) : numK c.toNat = 11 ∨ (1 ≤ numK c.toNat ∧ numK c.toNat ≤ 10) :=
  numK_root_fin ⟨c.toNat, c.toNat_lt⟩ (fun e => h (UInt8.toNat_inj.1 e))
theorem first1_len (r : Bs) : (first1 38 r).2 ≤ r.length := by
  unfold first1
  split
  · rename_i h; have := (List.isPrefixOf_iff_prefix.1 h).length_le; simp [eAmp] at this; omega
  · split
    · rename_i h; have := (List.isPrefixOf_iff_prefix.1 h).length_le; simp [eLt] at this; omega
    · split
      · rename_i h; have := (List.isPrefixOf_iff_prefix.1 h).length_le; simp [eGt] at this; omega
      · split
        · rename_i h; have := (List.isPrefixOf_iff_prefix.1 h).length_le; simp [eQuot] at this; omega
        · simp
theorem first1_zero (r : Bs) (h : (first1 38 r).2 = 0) : (first1 38 r).1 = 38 := by
  revert h
  unfold first1
  split
  · intro h; simp at h
  · split
    · intro h; simp at h
    · split
      · intro h; simp at h
      · split
        · intro h; simp at h
        · intro _; rfl
/-- What is read so far, what waits, what is left. -/
def RdAt (S out : Bs) (last i : Nat) : Prop := readE S = out ++ (S.take i).drop last ++ readE (S.drop i)
theorem RdAt.skip {S out : Bs} {last i : Nat} {c : UInt8} (h : RdAt S out last i) (hc : S[i]? = some c) (hl : last ≤ i) (hf : first1 c (S.drop (i + 1)) = (c, 0)) : RdAt S out last (i + 1) := by
  have hlt := (List.getElem?_eq_some_iff.1 hc).1
  have hd : S.drop i = c :: S.drop (i + 1) := by rw [List.drop_eq_getElem_cons hlt, (List.getElem?_eq_some_iff.1 hc).2]
  unfold RdAt at h ⊢
  rw [h, hd, readE_cons, hf, List.take_add_one, hc, List.drop_append_of_le_length (by simp; omega)]
  simp
theorem RdAt.hit {S out : Bs} {last i : Nat} (h : RdAt S out last i) (hc : S[i]? = some 38) (k : Nat) (hk : (first1 38 (S.drop (i + 1))).2 = k) : RdAt S (out ++ (S.take i).drop last ++ [(first1 38 (S.drop (i + 1))).1]) (i + (k + 1)) (i + (k + 1)) := by
  have hlt := (List.getElem?_eq_some_iff.1 hc).1
  have hd : S.drop i = 38 :: S.drop (i + 1) := by rw [List.drop_eq_getElem_cons hlt, (List.getElem?_eq_some_iff.1 hc).2]
  unfold RdAt at h ⊢
  rw [h, hd, readE_cons, hk, List.drop_drop]
  have e : (S.take (i + (k + 1))).drop (i + (k + 1)) = [] := List.drop_eq_nil_of_le (by simp; omega)
  rw [e, show i + 1 + k = i + (k + 1) by omega]
  simp
theorem read_len (S : Bs) : (readE S).length ≤ S.length := by
  suffices H : ∀ (S : Bs) k, (readS k S).length ≤ S.length from H S 0
  intro S
  induction S with
  | nil => intro k; cases k <;> simp [readS]
  | cons c r ih => intro k; cases k with
    | zero => have := ih (first1 c r).2; simp only [readS, List.length_cons]; omega
    | succ k => have := ih k; simp only [readS, List.length_cons]; omega
theorem RdAt.out_len {S out : Bs} {last i : Nat} (h : RdAt S out last i) : out.length ≤ S.length := by
  have h1 : (readE S).length = out.length + ((S.take i).drop last).length + (readE (S.drop i)).length := by unfold RdAt at h; rw [h]; simp only [List.length_append]
  have := read_len S
  omega
theorem RdAt.past {S out : Bs} {last : Nat} (h : RdAt S out last S.length) : RdAt S out last (S.length + 1) := by
  unfold RdAt at h ⊢
  rw [h, List.take_of_length_le (Nat.le_refl _), List.take_of_length_le (Nat.le_succ _), List.drop_eq_nil_of_le (Nat.le_refl _), List.drop_eq_nil_of_le (Nat.le_succ _)]
theorem RdAt.done {S out : Bs} {last : Nat} (h : RdAt S out last (S.length + 1)) : readE S = out ++ S.drop last := by
  unfold RdAt at h
  rw [h, List.take_of_length_le (Nat.le_succ _), List.drop_eq_nil_of_le (Nat.le_succ _)]
  simp [readE, readS]
end Go.Mh
namespace Go.Proofs.YtkekjddkbmmckaaGreat
open Go.RowKit Go.Mh

theorem nilW (n b : Nat) (w : World) : Sem.run Tryz.prog (nilAhead (n + 1) 153 (ptr b) "WriteString") w = .ok (some false) w := by kernel_rfl
theorem methodW (n b : Nat) (w : World) : Sem.run Tryz.prog (method (n + 1) 153 (ptr b) "WriteString") w = .ok (119, ptr b) w := by kernel_rfl
theorem asw_str (B gb : Nat) (out D : Bs) (w : World) (h : BufAt B gb w out) (hlen : out.length + D.length ≤ 140737488355328) (hB : B ≤ w.heap.size) (hgb : B ≤ gb) :
    Calls Tryz.prog 119 #[ptr gb, str D] w fun e w' => e = .returned (.tuple #[.int .i64 D.length, .nilIface]) ∧ BufAt B gb w' (out ++ D) ∧ Below B w w' := by
  have hs : (⟨D.toArray⟩ : ByteArray).size = D.length := by simp [ByteArray.size]
  have := asw_any B gb out ⟨D.toArray⟩ w h (by rw [hs]; exact hlen) hB hgb
  rw [hs] at this
  exact this
theorem BufAt.drew {B gb : Nat} {out : Bs} {w : World} (h : BufAt B gb w out) : BufAt B gb w.drew out := h.below ((brf w).drew)
abbrev ifaceW (gb : Nat) : Value := .iface 153 (ptr gb)
set_option maxRecDepth 1000000 in
set_option maxHeartbeats 16000000 in
theorem genWrite_any (B gr gb : Nat) (S : Bs) (w : World) (hS : S.length ≤ 120000) (hT : ∀ w', Below B w w' → Built w' gr) (hB : B ≤ w.heap.size) (hgb : B ≤ gb) (hbuf : BufAt B gb w []) :
    Calls Tryz.prog 107 #[ptr gr, ifaceW gb, str S] w fun e w' => (∃ z, e = .returned (.tuple #[.int .i64 z, .nilIface])) ∧ BufAt B gb w' (readE S) ∧ Below B w w' := by
  have HT := Lib.hid hT
  clear hT
  have GS := Lib.hid (getSw_any gb)
  go_enter Tryz.func107, Tryz.ntmps107
  go_wp2_with fail
  refine (GS.out _).mono ?_
  rintro e w1 ⟨rfl, rfl⟩
  go_wp2
  go_loopw [6, 7, 9, 11, 12] (fun nv ev lv pv iv wr => ∃ (z : Int) (last i : Nat) (out : Bs), nv = .int .i64 z ∧ ev = .nilIface ∧ lv = .int .i64 last ∧ pv = .bool false ∧ iv = .int .i64 i ∧ last ≤ i ∧ last ≤ S.length ∧ i ≤ S.length + 1 ∧ Hid (RdAt S out last i) ∧ Hid (BufAt B gb wr out) ∧ Below B w1 wr) (fun _ _ _ _ iv _ => S.length + 1 - (intOf iv).toNat)
  case atStart => exact ⟨0, 0, 0, [], rfl, rfl, rfl, rfl, rfl, Nat.le_refl _, Nat.zero_le _, Nat.zero_le _, Lib.hid (by simp [RdAt]), Lib.hid hbuf, Below.refl _ _⟩
  case round =>
    clear hbuf
    obtain ⟨z, last, i, out, rfl, rfl, rfl, rfl, rfl, hl, hlS, hi, hrd, hbf, hb⟩ := hrel
    have hBt := HT.out _ hb
    have hol := hrd.out.out_len
    have hws := hb.size
    obtain ⟨T0, hg, ht⟩ := hBt.ex
    have r1 := hg.lo (i := 1) (v := .int .i64 0) (by decide) rfl
    have r4 := hg.lo (i := 4) (v := tab T0) (by decide) rfl
    have r5 := hg.lo (i := 5) (v := .int .i64 11) (by decide) rfl
    by_cases hlt : i < S.length
    · obtain ⟨c, hc⟩ : ∃ c, S[i]? = some c := ⟨_, List.getElem?_eq_getElem hlt⟩
      have u0 := str_get hc (by exact hlt)
      have b0 : (c.toNat : Int) < 256 := by have := c.toNat_lt; omega
      have rm := hg.cell c.toNat_lt
      have i1 : (i : Int) ≤ (S.length : Int) := by omega
      have i2 : ((i : Int) == (S.length : Int)) = false := by rw [beq_eq_false_iff_ne]; omega
      have i3 : (i == S.length) = false := by rw [beq_eq_false_iff_ne]; omega
      obtain ⟨A, hTA⟩ : ∃ A, w1 = w1 ∧ TabAt wr (gr + 1) T0 (ts1 A) := by
        obtain ⟨A, _, _, _, _, _, h, _⟩ := ht
        exact ⟨A, rfl, h⟩
      by_cases hc38 : c = 38
      · have hd : S.drop i = c :: S.drop (i + 1) := by rw [List.drop_eq_getElem_cons hlt, (List.getElem?_eq_some_iff.1 hc).2]
        have s0 := str_from S i
        rw [hd] at s0
        have hlook := look_any gr (S.drop (i + 1)) wr hBt (by simp; omega)
        have n38 : numK c.toNat = 0 := by rw [hc38]; exact num38.1
        have t0 := cellAt' (i := 0) (v := ptr A) hTA.2.1 rfl
        rw [n38] at rm
        have HC := Lib.hid hc
        have HR := Lib.hid hrd.out
        have h38 := Lib.hid hc38
        rw [← hc38] at hlook
        clear hlook
        obtain ⟨k, hk⟩ : ∃ k, (first1 c (S.drop (i + 1))).2 = k := ⟨_, rfl⟩
        have rm0 : wr.cell? ⟨gr, 6 + c.toNat, none⟩ = some (.int .u8 0) := rm
        have hkl : k ≤ S.length - (i + 1) := by
          have := first1_len (S.drop (i + 1))
          rw [← hc38, hk] at this
          simpa using this
        obtain ⟨x, hx⟩ : ∃ x, (first1 c (S.drop (i + 1))).1 = x := ⟨_, rfl⟩
        have h38 := Lib.hid hc38
        have hBn : Hid (∀ n, Built (wr.drewN n) gr) := Lib.hid fun n => hBt.below (bdrewN (brf wr) n)
        by_cases hk0 : k = 0
        · have hres : ∀ n, Calls Tryz.prog 109 #[ptr gr, str (c :: S.drop (i + 1)), .bool false] (wr.drewN n) fun e w' => e = .returned (.tuple #[str [], .int .i64 0, .bool false]) ∧ Below wr.heap.size wr w' := fun n => by
            refine (show Calls _ _ _ _ _ from ?_)
            have := look_any gr (S.drop (i + 1)) (wr.drewN n) (hBn.out n) (by simp; omega)
            rw [← hc38] at this
            refine this.mono ?_
            rintro e w' ⟨rfl, hb'⟩
            have hl0 : lookR (S.drop (i + 1)) = ([], 0, false) := by unfold lookR; rw [← hc38, hk, if_pos hk0]
            rw [hl0]
            exact ⟨rfl, (bdrewN (brf wr) n).trans hb'⟩
          have hf : first1 c (S.drop (i + 1)) = (c, 0) := by
            rw [hk0] at hk
            have h1 := first1_zero (S.drop (i + 1)) (by rw [← hc38]; exact hk)
            rw [← hc38] at h1
            exact Prod.ext h1 hk
          have hnx := Lib.hid (hrd.out.skip hc hl hf)
          have HL := Lib.hid hres
          clear hres hc38 hc n38 hd hBt hTA hrd hg ht hk hx hf hk0 rm
          go_upto_region 7 with fail
          go_quiet (fail)
          go_wp2_with fail
          refine (HL.out _).mono ?_
          rintro e w2 ⟨rfl, hb2⟩
          go_wp2
          exact ⟨⟨z, last, i + 1, out, rfl, rfl, rfl, rfl, by go_num, by omega, hlS, by omega, hnx, Lib.hid (hbf.out.below hb2), hb.trans (hb2.mono (by omega))⟩, by simp only [intOf]; omega⟩
        · have hres : ∀ n, Calls Tryz.prog 109 #[ptr gr, str (c :: S.drop (i + 1)), .bool false] (wr.drewN n) fun e w' => e = .returned (.tuple #[str [x], .int .i64 (k + 1 : Nat), .bool true]) ∧ Below wr.heap.size wr w' := fun n => by
            have := look_any gr (S.drop (i + 1)) (wr.drewN n) (hBn.out n) (by simp; omega)
            rw [← hc38] at this
            refine this.mono ?_
            rintro e w' ⟨rfl, hb'⟩
            have hl0 : lookR (S.drop (i + 1)) = ([x], k + 1, true) := by unfold lookR; rw [← hc38, hk, hx, if_neg hk0]
            rw [hl0]
            exact ⟨rfl, (bdrewN (brf wr) n).trans hb'⟩
          have hnx := Lib.hid (hrd.out.hit (by rw [← hc38]; exact hc) k (by rw [← hc38]; exact hk))
          rw [← hc38, hx] at hnx
          have HL := Lib.hid hres
          have hk1 : ((k : Int) + 1 == 0) = false := by rw [beq_eq_false_iff_ne]; omega
          obtain ⟨D, hD⟩ : ∃ D, (S.take i).drop last = D := ⟨_, rfl⟩
          have hDl : out.length + D.length ≤ 240000 := by rw [← hD]; simp; omega
          have hA : ∀ w', BufAt B gb w' out → B ≤ w'.heap.size → Calls Tryz.prog 119 #[ptr gb, .string ((⟨S.toArray⟩ : ByteArray).extract last i)] w' fun e w'' => e = .returned (.tuple #[.int .i64 D.length, .nilIface]) ∧ BufAt B gb w'' (out ++ D) ∧ Below B w' w'' := fun w' h1 h2 => by
            rw [ext_str, hD]
            exact asw_str B gb out D w' h1 (by omega) h2 hgb
          have hX : ∀ w', BufAt B gb w' (out ++ D) → B ≤ w'.heap.size → Calls Tryz.prog 119 #[ptr gb, str [x]] w' fun e w'' => e = .returned (.tuple #[.int .i64 1, .nilIface]) ∧ BufAt B gb w'' (out ++ D ++ [x]) ∧ Below B w' w'' := fun w' h1 h2 =>
            asw_str B gb (out ++ D) [x] w' h1 (by simp only [List.length_append, List.length_cons, List.length_nil]; omega) h2 hgb
          rw [hD] at hnx
          have HA := Lib.hid hA
          have HX := Lib.hid hX
          clear hres hc38 hc n38 hd hBt hTA hrd hg ht hk hx rm hA hX hD
          go_upto_region 7 with fail
          go_quiet (fail)
          go_wp2_with fail
          refine (HL.out _).mono ?_
          rintro e w2 ⟨rfl, hb2⟩
          have hws2 := hb2.size
          go_upto_region 13 with fail
          refine wp_region_held (S := fun _ => True) (by kernel_rfl) ?_
          refine wpAnyH_takeD 0 80 (v := ?_) rfl rfl (by kernel_rfl) (by kernel_rfl) (by kernel_rfl) (fun _ _ _ h => h) (Or.inl ⟨by rfl, ?_⟩) trivial ?_
          rotate_left
          · (intro w' hw'; (try dsimp only at hw'); go_simp; try with_reducible rfl)
          simp only [List.set_cons_zero, List.set_cons_succ]
          refine wpAnyH_takeD 1 81 (v := ?_) rfl rfl (by kernel_rfl) (by kernel_rfl) (by kernel_rfl) (fun _ _ _ h => h) (Or.inl ⟨by rfl, ?_⟩) trivial ?_
          rotate_left
          · (intro w' hw'; (try dsimp only at hw'); go_simp; try with_reducible rfl)
          simp only [List.set_cons_zero, List.set_cons_succ]
          refine wpAnyH_takeD 2 82 (v := ?_) rfl rfl (by kernel_rfl) (by kernel_rfl) (by kernel_rfl) (fun _ _ _ h => h) (Or.inl ⟨by rfl, ?_⟩) trivial ?_
          rotate_left
          · (intro w' hw'; (try dsimp only at hw'); go_simp; try with_reducible rfl)
          simp only [List.set_cons_zero, List.set_cons_succ]
          refine wpAnyH_takeD 3 83 (v := ?_) rfl rfl (by kernel_rfl) (by kernel_rfl) (by kernel_rfl) (fun _ _ _ h => h) (Or.inl ⟨by rfl, ?_⟩) trivial ?_
          rotate_left
          · (intro w' hw'; (try dsimp only at hw'); go_simp; try with_reducible rfl)
          simp only [List.set_cons_zero, List.set_cons_succ]
          refine wpAnyH_takeD 4 84 (v := ?_) rfl rfl (by kernel_rfl) (by kernel_rfl) (by kernel_rfl) (fun _ _ _ h => h) (Or.inl ⟨by rfl, ?_⟩) trivial ?_
          rotate_left
          · (intro w' hw'; (try dsimp only at hw'); go_simp; try with_reducible rfl)
          simp only [List.set_cons_zero, List.set_cons_succ]
          refine wpAnyH_takeD 5 85 (v := ?_) rfl rfl (by kernel_rfl) (by kernel_rfl) (by kernel_rfl) (fun _ _ _ h => h) (Or.inl ⟨by rfl, ?_⟩) trivial ?_
          rotate_left
          · (intro w' hw'; (try dsimp only at hw'); go_simp; try with_reducible rfl)
          simp only [List.set_cons_zero, List.set_cons_succ]
          refine wpAnyH_takeD 6 86 (v := ?_) rfl rfl (by kernel_rfl) (by kernel_rfl) (by kernel_rfl) (fun _ _ _ h => h) (Or.inl ⟨by rfl, ?_⟩) trivial ?_
          rotate_left
          · (intro w' hw'; (try dsimp only at hw'); go_simp; rw [nilW]; rfl)
          simp only [List.set_cons_zero, List.set_cons_succ]
          refine wpAnyH_takeD 7 87 (v := ?_) rfl rfl (by kernel_rfl) (by kernel_rfl) (by kernel_rfl) (fun _ _ _ h => h) (Or.inl ⟨by rfl, ?_⟩) trivial ?_
          rotate_left
          · (intro w' hw'; (try dsimp only at hw'); go_simp; try with_reducible rfl)
          simp only [List.set_cons_zero, List.set_cons_succ]
          refine wpAnyH_step 8 rfl (by kernel_rfl) (fun K' hK' => ?_)
          rw [if_pos (by rfl)]
          go_simp
          rw [methodW]
          go_simp
          refine (HA.out _ (hbf.out.below hb2).drew (show B ≤ w2.heap.size by omega)).mono ?_
          rintro e w3 ⟨rfl, hbf3, hb3⟩
          have hws3 : w2.heap.size ≤ w3.heap.size := hb3.size
          dsimp only
          clear HA hbf
          refine hK'.out _ _ trivial ?_
          clear hK' K'
          refine wpAnyH_takeD 9 79 (v := ?_) rfl rfl (by kernel_rfl) (by kernel_rfl) (by kernel_rfl) (fun _ _ _ h => h) (Or.inl ⟨by rfl, ?_⟩) trivial ?_
          rotate_left
          · (intro w' hw'; (try dsimp only at hw'); go_simp; try with_reducible rfl)
          simp only [List.set_cons_zero, List.set_cons_succ]
          refine wpAnyH_takeD 10 89 (v := ?_) rfl rfl (by kernel_rfl) (by kernel_rfl) (by kernel_rfl) (fun _ _ _ h => h) (Or.inl ⟨by rfl, ?_⟩) trivial ?_
          rotate_left
          · (intro w' hw'; (try dsimp only at hw'); go_simp; try with_reducible rfl)
          simp only [List.set_cons_zero, List.set_cons_succ]
          refine wpAnyH_takeD 11 90 (v := ?_) rfl rfl (by kernel_rfl) (by kernel_rfl) (by kernel_rfl) (fun _ _ _ h => h) (Or.inl ⟨by rfl, ?_⟩) trivial ?_
          rotate_left
          · (intro w' hw'; (try dsimp only at hw'); go_simp; try with_reducible rfl)
          simp only [List.set_cons_zero, List.set_cons_succ]
          refine wpAnyH_takeD 12 10 (v := ?_) rfl rfl (by kernel_rfl) (by kernel_rfl) (by kernel_rfl) (fun _ _ _ h => h) (Or.inl ⟨by rfl, ?_⟩) trivial ?_
          rotate_left
          · (intro w' hw'; (try dsimp only at hw'); go_simp; try with_reducible rfl)
          simp only [List.set_cons_zero, List.set_cons_succ]
          refine wpAnyH_takeD 13 7 (v := ?_) rfl rfl (by kernel_rfl) (by kernel_rfl) (by kernel_rfl) (fun _ _ _ h => h) (Or.inl ⟨by rfl, ?_⟩) trivial ?_
          rotate_left
          · (intro w' hw'; (try dsimp only at hw'); go_simp; try with_reducible rfl)
          simp only [List.set_cons_zero, List.set_cons_succ]
          refine wpAnyH_done (by kernel_rfl) ?_ _
          have HB3 := Lib.hid hbf3
          clear hbf3
          go_upto_region 16 with fail
          go_wp2_with (first | rw [methodW] | fail)
          refine (HX.out _ HB3.out (show B ≤ w3.heap.size by omega)).mono ?_
          rintro e w4 ⟨rfl, hbf4, hb4⟩
          dsimp only
          clear HX HB3
          go_wp2
          exact ⟨⟨_, i + (k + 1), i + (k + 1), out ++ D ++ [x], rfl, rfl, by go_num, rfl, by go_num, Nat.le_refl _, by omega, by omega, hnx, Lib.hid hbf4, ((hb.trans (hb2.mono (by omega))).drew.trans hb3).trans hb4⟩, by simp only [intOf]; omega⟩
      · have hnx := Lib.hid (hrd.out.skip hc hl (first1_other c _ hc38))
        have hnum := numK_root c hc38
        have hTab := Lib.hid hTA.2
        obtain ⟨m, hm⟩ : ∃ m, numK c.toNat = m := ⟨_, rfl⟩
        rw [hm] at rm hnum
        clear hm hc hc38 hg ht hBt hTA hrd
        rcases hnum with rfl | ⟨h1, h2⟩
        · go_upto_region 7 with fail
          go_quiet (fail)
          go_wp2
          exact ⟨⟨z, last, i + 1, out, rfl, rfl, rfl, rfl, by go_num, by omega, hlS, by omega, hnx, Lib.hid (hbf.out.below (bdrewN (brf wr) _)), bdrewN hb _⟩, by simp only [intOf]; omega⟩
        · have tm := cellAt' (i := m) (v := nilP) hTab.out.1 (by rcases (by omega : m = 1 ∨ m = 2 ∨ m = 3 ∨ m = 4 ∨ m = 5 ∨ m = 6 ∨ m = 7 ∨ m = 8 ∨ m = 9 ∨ m = 10) with rfl | rfl | rfl | rfl | rfl | rfl | rfl | rfl | rfl | rfl <;> rfl)
          have h3 : (m : Int) < 11 := by omega
          have h4 : ((m : Int) == 11) = false := by rw [beq_eq_false_iff_ne]; omega
          go_upto_region 7 with fail
          go_quiet (fail)
          go_wp2
          exact ⟨⟨z, last, i + 1, out, rfl, rfl, rfl, rfl, by go_num, by omega, hlS, by omega, hnx, Lib.hid (hbf.out.below (bdrewN (brf wr) _)), bdrewN hb _⟩, by simp only [intOf]; omega⟩
    · rcases (show i = S.length ∨ i = S.length + 1 by omega) with rfl | rfl
      · have hnx := Lib.hid hrd.out.past
        have HN := Lib.hid fun n => lookNil_any gr (wr.drewN n) (hBt.below (bdrewN (brf wr) n))
        have HI := Lib.hid hrd
        clear hrd hBt hg ht
        go_wp2_with fail
        refine (HN.out 0).mono ?_
        rintro e w2 ⟨rfl, hb2⟩
        go_wp2
        exact ⟨⟨z, last, S.length + 1, out, rfl, rfl, rfl, rfl, by go_num, by omega, hlS, by omega, hnx, Lib.hid (hbf.out.below hb2), hb.trans (hb2.mono (show B ≤ wr.heap.size by omega))⟩, by simp only [intOf]; omega⟩
      · have hfin := Lib.hid hrd.out.done
        clear hrd hBt hg ht
        have i1 : ¬ ((S.length : Int) + 1 ≤ (S.length : Int)) := by omega
        by_cases hll : last = S.length
        · have l1 : ((last : Int) != (S.length : Int)) = false := by rw [hll]; simp
          go_wp2
          refine bodyPost_ret (v := .tuple #[.int .i64 z, .nilIface]) (by simp [results, Tryz.results107, go_sem]) rfl ⟨⟨z, rfl⟩, ?_, hb⟩
          have e := hfin.out
          rw [hll, List.drop_length, List.append_nil] at e
          rw [e]
          exact hbf.out
        · have l1 : ((last : Int) != (S.length : Int)) = true := by rw [bne_iff_ne]; omega
          have hA : ∀ w', BufAt B gb w' out → B ≤ w'.heap.size → Calls Tryz.prog 119 #[ptr gb, .string ((⟨S.toArray⟩ : ByteArray).extract last S.length)] w' fun e w'' => e = .returned (.tuple #[.int .i64 (S.drop last).length, .nilIface]) ∧ BufAt B gb w'' (readE S) ∧ Below B w' w'' := fun w' h1 h2 => by
            rw [show (⟨S.toArray⟩ : ByteArray).extract last S.length = ⟨(S.drop last).toArray⟩ by rw [ext_str, List.take_length], hfin.out]
            exact asw_str B gb out (S.drop last) w' h1 (by simp; omega) h2 hgb
          obtain ⟨m, hm⟩ : ∃ m, (S.drop last).length = m := ⟨_, rfl⟩
          rw [hm] at hA
          have HA := Lib.hid hA
          clear hA hm
          go_upto_region 23 with fail
          refine wp_region_held (S := fun _ => True) (by kernel_rfl) ?_
          refine wpAnyH_takeD 0 118 (v := ?_) rfl rfl (by kernel_rfl) (by kernel_rfl) (by kernel_rfl) (fun _ _ _ h => h) (Or.inl ⟨by rfl, ?_⟩) trivial ?_
          rotate_left
          · (intro w' hw'; (try dsimp only at hw'); go_simp; try with_reducible rfl)
          simp only [List.set_cons_zero, List.set_cons_succ]
          refine wpAnyH_takeD 1 119 (v := ?_) rfl rfl (by kernel_rfl) (by kernel_rfl) (by kernel_rfl) (fun _ _ _ h => h) (Or.inl ⟨by rfl, ?_⟩) trivial ?_
          rotate_left
          · (intro w' hw'; (try dsimp only at hw'); go_simp; try with_reducible rfl)
          simp only [List.set_cons_zero, List.set_cons_succ]
          refine wpAnyH_takeD 2 120 (v := ?_) rfl rfl (by kernel_rfl) (by kernel_rfl) (by kernel_rfl) (fun _ _ _ h => h) (Or.inl ⟨by rfl, ?_⟩) trivial ?_
          rotate_left
          · (intro w' hw'; (try dsimp only at hw'); go_simp; try with_reducible rfl)
          simp only [List.set_cons_zero, List.set_cons_succ]
          refine wpAnyH_takeD 3 121 (v := ?_) rfl rfl (by kernel_rfl) (by kernel_rfl) (by kernel_rfl) (fun _ _ _ h => h) (Or.inl ⟨by rfl, ?_⟩) trivial ?_
          rotate_left
          · (intro w' hw'; (try dsimp only at hw'); go_simp; try with_reducible rfl)
          simp only [List.set_cons_zero, List.set_cons_succ]
          refine wpAnyH_takeD 4 122 (v := ?_) rfl rfl (by kernel_rfl) (by kernel_rfl) (by kernel_rfl) (fun _ _ _ h => h) (Or.inl ⟨by rfl, ?_⟩) trivial ?_
          rotate_left
          · (intro w' hw'; (try dsimp only at hw'); go_simp; try with_reducible rfl)
          simp only [List.set_cons_zero, List.set_cons_succ]
          refine wpAnyH_takeD 5 123 (v := ?_) rfl rfl (by kernel_rfl) (by kernel_rfl) (by kernel_rfl) (fun _ _ _ h => h) (Or.inl ⟨by rfl, ?_⟩) trivial ?_
          rotate_left
          · (intro w' hw'; (try dsimp only at hw'); go_simp; rw [nilW]; rfl)
          simp only [List.set_cons_zero, List.set_cons_succ]
          refine wpAnyH_takeD 6 124 (v := ?_) rfl rfl (by kernel_rfl) (by kernel_rfl) (by kernel_rfl) (fun _ _ _ h => h) (Or.inl ⟨by rfl, ?_⟩) trivial ?_
          rotate_left
          · (intro w' hw'; (try dsimp only at hw'); go_simp; try with_reducible rfl)
          simp only [List.set_cons_zero, List.set_cons_succ]
          refine wpAnyH_step 7 rfl (by kernel_rfl) (fun K' hK' => ?_)
          rw [if_pos (by rfl)]
          go_simp
          rw [methodW]
          go_simp
          refine (HA.out _ hbf.out.drew (show B ≤ wr.heap.size by omega)).mono ?_
          rintro e w3 ⟨rfl, hbf3, hb3⟩
          dsimp only
          refine hK'.out _ _ trivial ?_
          clear hK' K'
          refine wpAnyH_takeD 8 117 (v := ?_) rfl rfl (by kernel_rfl) (by kernel_rfl) (by kernel_rfl) (fun _ _ _ h => h) (Or.inl ⟨by rfl, ?_⟩) trivial ?_
          rotate_left
          · (intro w' hw'; (try dsimp only at hw'); go_simp; try with_reducible rfl)
          simp only [List.set_cons_zero, List.set_cons_succ]
          refine wpAnyH_takeD 9 126 (v := ?_) rfl rfl (by kernel_rfl) (by kernel_rfl) (by kernel_rfl) (fun _ _ _ h => h) (Or.inl ⟨by rfl, ?_⟩) trivial ?_
          rotate_left
          · (intro w' hw'; (try dsimp only at hw'); go_simp; try with_reducible rfl)
          simp only [List.set_cons_zero, List.set_cons_succ]
          refine wpAnyH_takeD 10 127 (v := ?_) rfl rfl (by kernel_rfl) (by kernel_rfl) (by kernel_rfl) (fun _ _ _ h => h) (Or.inl ⟨by rfl, ?_⟩) trivial ?_
          rotate_left
          · (intro w' hw'; (try dsimp only at hw'); go_simp; try with_reducible rfl)
          simp only [List.set_cons_zero, List.set_cons_succ]
          refine wpAnyH_takeD 11 10 (v := ?_) rfl rfl (by kernel_rfl) (by kernel_rfl) (by kernel_rfl) (fun _ _ _ h => h) (Or.inl ⟨by rfl, ?_⟩) trivial ?_
          rotate_left
          · (intro w' hw'; (try dsimp only at hw'); go_simp; try with_reducible rfl)
          simp only [List.set_cons_zero, List.set_cons_succ]
          refine wpAnyH_takeD 12 7 (v := ?_) rfl rfl (by kernel_rfl) (by kernel_rfl) (by kernel_rfl) (fun _ _ _ h => h) (Or.inl ⟨by rfl, ?_⟩) trivial ?_
          rotate_left
          · (intro w' hw'; (try dsimp only at hw'); go_simp; try with_reducible rfl)
          simp only [List.set_cons_zero, List.set_cons_succ]
          refine wpAnyH_done (by kernel_rfl) ?_ _
          go_wp2
          exact bodyPost_ret (v := .tuple #[.int .i64 (wrap64 (z + m)), .nilIface]) (by simp [results, Tryz.results107, go_sem]) rfl ⟨⟨_, rfl⟩, hbf3, hb.drew.trans hb3⟩
end Go.Proofs.YtkekjddkbmmckaaGreat
