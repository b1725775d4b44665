/- LinkSays: any address is told, and cleaned, as the document says; walked. -/
import Derived.Test.YtjbidchdjpmonaaDoorClean
import Derived.Test.YtjbidchdjpmonaaDoorRefS
namespace Go.Mh
theorem tset_idx_fin : ∀ n : Fin 256, Lib.contains [32, 9, 13, 10, 12] [UInt8.ofNat n.val] = tset (UInt8.ofNat n.val) := by decide +kernel
theorem tset_idx (c : UInt8) : Lib.contains [32, 9, 13, 10, 12] [c] = tset c := by
  have := tset_idx_fin ⟨c.toNat, c.toNat_lt⟩
  simpa using this
theorem nil_or_snoc (l : Bs) : l = [] ∨ ∃ p z, l = p ++ [z] := by
  rcases List.eq_nil_or_concat l with h | ⟨p, z, h⟩
  · exact Or.inl h
  · exact Or.inr ⟨p, z, by rw [h]; simp⟩
theorem trimT_rdw (l : Bs) : trimT l = rdw tset (l.dropWhile tset) := rfl
theorem rdw_snoc (p : UInt8 → Bool) (l : Bs) (c : UInt8) : rdw p (l ++ [c]) = if p c = true then rdw p l else l ++ [c] := by
  unfold rdw
  rw [List.reverse_append, List.reverse_singleton, List.singleton_append, List.dropWhile_cons]
  split
  · rfl
  · simp
end Go.Mh
namespace Go.Proofs.YtjbidchdjpmonaaDoor
open Go.RowKit Go.Mh

set_option maxRecDepth 1000000 in
set_option maxHeartbeats 8000000 in
/-- strings.IndexAny by a set, at any bytes of any length. -/
theorem indexAny_big (s cs : Bs) (w : World) (hcs : Ascii cs) (h2 : 2 ≤ cs.length) (hc3 : cs.length < 4294967281) (h8 : 8 < s.length) (hs : s.length ≤ 140737488355328) :
    Calls Tryd.prog 58 #[str s, str cs] w fun e w' => e = .returned (.int .i64 (Lib.indexAny s cs)) ∧ Below w.heap.size w w' := by
  have hz := (zero_of_info info_ascii).1
  have hM := Lib.hid (fun w' => Tryd.strings_makeASCIISet hz ⟨cs.toArray⟩ w' hc3 hcs)
  have hU := Lib.hid (fun w' => Tryd.strings_shouldUseASCIISet (s.length : Int) w')
  have h8z : decide ((8 : Int) < (s.length : Int)) = true := decide_eq_true (by omega)
  have hemp : cs.isEmpty = false := by cases cs with
    | nil => simp at h2
    | cons _ _ => rfl
  have hemp2 : (cs == []) = false := by cases cs with
    | nil => simp at h2
    | cons _ _ => rfl
  have hn1 : ((cs.length : Int) == 1) = false := beq_eq_false_iff_ne.2 (by omega)
  obtain ⟨w2, hw2⟩ : ∃ w2, w2 = (w.alloc (.cells (Lib.setCells cs) 105)).alloc (.cells (Lib.setCells cs) 105) := ⟨_, rfl⟩
  have hsc : (storeCells ⟨w.heap.size + 1, 0, none⟩ (Lib.setCells cs).toList 0).run Tryd.prog ((w.alloc (.cells (Lib.setCells cs) 105)).alloc (.cells (Array.replicate 256 (.bool false)) 105)) = .ok () w2 := by
    rw [hw2]
    have := run_storeCells_new (P := Tryd.prog) (w.alloc (.cells (Lib.setCells cs) 105)) 105 (Array.replicate 256 (.bool false)) (Lib.setCells cs) (by rw [Lib.setCells_size]; exact (zero_of_info info_ascii).2) (by rw [Lib.setCells_size, Array.size_replicate]) (Lib.setCells_one _)
    simpa using this
  have hcell : ∀ x : UInt8, w2.cell? ⟨w.heap.size + 1, x.toNat, none⟩ = some (.bool (cs.contains x)) := fun x => by
    rw [hw2, World.cell?_alloc_at _ _ _ _ (by simp), Lib.setCells_at]
  have HC := Lib.hid hcell
  have hsz := Lib.setCells_size cs
  have hb2 := Lib.hid (show Below w.heap.size w w2 by rw [hw2]; exact bal (bal (brf w) _) _)
  clear hcell hw2 h2 h8 hcs
  go_enter Tryd.func58, Tryd.ntmps58
  go_wp2_with fail
  refine (hU.out _).mono ?_
  rintro e w1 ⟨rfl, rfl⟩
  rw [h8z]
  go_wp2_with fail
  refine (hM.out _).mono ?_
  rintro e w3 ⟨rfl, rfl⟩
  go_wp2
  go_loopw [8] (fun iv wx => ∃ i : Nat, i ≤ s.length ∧ iv = .int .i64 i ∧ wx = w2 ∧ Hid (Lib.NoAny s cs i)) (fun iv _ => s.length - (intOf iv).toNat)
  case atStart => exact ⟨0, Nat.zero_le _, rfl, rfl, Lib.hid (Lib.NoAny.zero _ _)⟩
  case round =>
    obtain ⟨i, hi, rfl, rfl, hno⟩ := hrel
    by_cases hlt : i < s.length
    · obtain ⟨c, hc⟩ : ∃ c, s[i]? = some c := ⟨_, List.getElem?_eq_getElem hlt⟩
      have hg := str_get hc (by exact hlt)
      have hcx := HC.out c
      have hc' := Lib.hid hc
      clear hc
      have C := Lib.hid (Tryd.asciiSet_contains (w1.heap.size + 1) c _ wr hcx)
      cases hin : cs.contains c with
      | true =>
        rw [hin] at C
        have hfin := Lib.hid (Lib.indexAny_hit hno.out hc'.out hin)
        clear hno hin hcx
        go_wp2_with fail
        refine C.out.mono ?_
        rintro e w3 ⟨rfl, rfl⟩
        go_wp2
        go_ret
        exact ⟨by rw [hfin.out]; rfl, hb2.out⟩
      | false =>
        rw [hin] at C
        have hnx := Lib.hid (hno.out.succ hc'.out hin)
        clear hno hin hcx
        go_wp2_with fail
        refine C.out.mono ?_
        rintro e w3 ⟨rfl, rfl⟩
        go_wp2
        go_roundw
        case rel => exact ⟨i + 1, by omega, by go_num, by first | rfl | trivial, hnx⟩
        case measure => simp [intOf]; omega
    · obtain rfl : i = s.length := by omega
      have hfin := Lib.hid (Lib.indexAny_none hno.out)
      clear hno
      go_wp2
      go_ret
      exact ⟨by rw [hfin.out]; rfl, hb2.out⟩


theorem containsB_any (s cs : Bs) (w : World) (hcs : Ascii cs) (h2 : 2 ≤ cs.length) (hc3 : cs.length < 4294967281) (hs : s.length ≤ 140737488355328) :
    Calls Tryd.prog 19 #[str s, str cs] w fun e w' => e = .returned (.bool (Lib.containsAny s cs)) ∧ Below w.heap.size w w' := by
  by_cases h8 : 8 < s.length
  · have C := Lib.hid (fun w' => indexAny_big s cs w' hcs h2 hc3 h8 hs)
    clear hcs h2 hc3 hs h8
    go_enter Tryd.func19, Tryd.ntmps19
    go_wp2_with fail
    refine (C.out _).mono ?_
    rintro e w1 ⟨rfl, hb⟩
    go_wp2
    go_ret
    exact ⟨rfl, hb⟩
  · exact containsAny_any s cs w hcs h2 hc3 (by omega)

set_option maxHeartbeats 400000 in
theorem schemeB_any (l : Bs) (w : World) (hs : l.length ≤ 140737488355328) :
    Calls Tryd.prog 25 #[str l] w fun e w' => e = .returned (str (scheme l)) ∧ Below w.heap.size w w' := by
  have hm : l.length ≤ maxLen := by unfold maxLen; omega
  by_cases hc : 58 ∈ l
  · have hcut : cut1 58 l = (l.takeWhile (· != 58), (l.dropWhile (· != 58)).tail, true) := by simp [cut1, hc]
    obtain ⟨r, hr⟩ : ∃ r, r = (l.dropWhile (· != 58)).tail := ⟨_, rfl⟩
    rw [← hr] at hcut
    have hlt := takeWhile_len_lt hc
    have hsch : Hid (scheme l = if (l.takeWhile (· != 58)) ≠ [] ∧ Lib.containsAny (l.takeWhile (· != 58)) [47, 63, 35] = false then lower (l.takeWhile (· != 58)) else []) := by
      show scheme l = _; unfold scheme; simp only [hc, true_and]
    generalize l.takeWhile (· != 58) = h at *
    have hcut' := Lib.hid hcut; clear hcut hr
    by_cases hh : h = []
    · subst hh
      go_enter Tryd.func25, Tryd.ntmps25
      go_wp2_with (go_at_call 65; refine (cut1_any _ _ _ hm).mono ?_; rintro e w1 ⟨rfl, hb⟩; simp only [hcut'.out])
      go_ret
      exact ⟨by rw [hsch.out]; rfl, hb⟩
    · have hcon := fun w' => containsB_any h [47, 63, 35] w' (ascii_of (by decide)) (by decide) (by decide) (by omega)
      have hcon' := Lib.hid hcon; clear hcon
      have hh1 : (h == []) = false := by simpa using hh
      have hh2 : h.isEmpty = false := by simpa using hh
      have hsch2 : Hid (scheme l = if Lib.containsAny h [47, 63, 35] = false then lower h else []) := by
        show scheme l = _; rw [hsch.out]; simp only [hh, ne_eq, not_false_eq_true, true_and]
      clear hsch
      cases hca : Lib.containsAny h [47, 63, 35] with
      | true =>
        have hca' := Lib.hid hca; clear hca
        go_enter Tryd.func25, Tryd.ntmps25
        go_wp2_with (first | (go_at_call 65; refine (cut1_any _ _ _ hm).mono ?_; rintro e w1 ⟨rfl, hb⟩; simp only [hcut'.out]) | (go_at_call 19; refine (hcon'.out _).mono ?_; rintro e w2 ⟨rfl, hb2⟩; rw [hca'.out]))
        go_ret
        exact ⟨by rw [hsch2.out, if_neg (by rw [hca'.out]; decide)]; rfl, hb.trans (hb2.mono hb.size)⟩
      | false =>
        have hca' := Lib.hid hca; clear hca
        go_enter Tryd.func25, Tryd.ntmps25
        go_wp2_with (first | (go_at_call 65; refine (cut1_any _ _ _ hm).mono ?_; rintro e w1 ⟨rfl, hb⟩; simp only [hcut'.out]) | (go_at_call 19; refine (hcon'.out _).mono ?_; rintro e w2 ⟨rfl, hb2⟩; rw [hca'.out]) | (go_at_call 66; refine (lower_any _ _ (by unfold maxLen; omega)).mono ?_; rintro e w3 ⟨rfl, hb3⟩))
        go_ret
        exact ⟨by rw [hsch2.out, if_pos hca'.out]; rfl, (hb.trans (hb2.mono hb.size)).trans (hb3.mono (Nat.le_trans hb.size hb2.size))⟩
  · have hcut : cut1 58 l = (l, [], false) := by simp [cut1, hc]
    have hsch : Hid (scheme l = []) := by show scheme l = []; unfold scheme; simp only [hc, false_and, if_false]
    have hcut' := Lib.hid hcut; clear hcut
    go_enter Tryd.func25, Tryd.ntmps25
    go_wp2_with (go_at_call 65; refine (cut1_any _ _ _ hm).mono ?_; rintro e w1 ⟨rfl, hb⟩; simp only [hcut'.out])
    go_ret
    exact ⟨by rw [hsch.out]; rfl, hb⟩

set_option maxHeartbeats 400000 in
theorem schemeOfB_any (l : Bs) (w : World) (hs : l.length ≤ 140737488355328) :
    Calls Tryd.prog 26 #[str l] w fun e w' => e = .returned (str (scheme l)) ∧ Below w.heap.size w w' := by
  by_cases hc : 58 ∈ l
  · have hi := Lib.hid (indexByte_some hc)
    have hlt := takeWhile_len_lt hc
    have htk := take_takeWhile (· != 58) l
    have hsch : Hid (scheme l = if (l.takeWhile (· != 58)) ≠ [] ∧ Lib.containsAny (l.takeWhile (· != 58)) [47, 63, 35] = false then lower (l.takeWhile (· != 58)) else []) := by
      show scheme l = _; unfold scheme; simp only [hc, true_and]
    generalize l.takeWhile (· != 58) = h at *
    obtain ⟨n, hn⟩ : ∃ n, n = h.length := ⟨_, rfl⟩
    rw [← hn] at hlt htk hi
    have hX := Lib.hid ((str_take l n).trans (by rw [htk] : str (l.take n) = str h))
    have hnh := Lib.hid hn
    have hcon := Lib.hid (fun w' => containsB_any h [47, 63, 35] w' (ascii_of (by decide)) (by decide) (by decide) (by omega))
    have hlow := Lib.hid (fun w' => small_walk h w' (by unfold maxLen; omega))
    clear htk hc
    by_cases h0 : n = 0
    · obtain rfl : h = [] := List.eq_nil_of_length_eq_zero (by omega)
      subst h0
      clear hn
      go_enter Tryd.func26, Tryd.ntmps26
      go_wp2_with (go_at_call 61; refine (Tryd.strings_Index_one _ _ _).mono ?_; rintro e w' ⟨rfl, rfl⟩; dsimp only; rw [hi.out])
      go_ret
      exact ⟨by rw [hsch.out]; rfl, Below.refl _ _⟩
    · have hne : h ≠ [] := by intro e; subst e; exact h0 hn
      have hsch2 : Hid (scheme l = if Lib.containsAny h [47, 63, 35] = false then lower h else []) := by
        show scheme l = _; rw [hsch.out]; simp only [hne, ne_eq, not_false_eq_true, true_and]
      clear hsch hn hne
      have hn1 : (1 : Int) ≤ (n : Int) := by omega
      cases hca : Lib.containsAny h [47, 63, 35] with
      | true =>
        have hca' := Lib.hid hca; clear hca
        go_enter Tryd.func26, Tryd.ntmps26
        go_wp2_with (first | (go_at_call 61; refine (Tryd.strings_Index_one _ _ _).mono ?_; rintro e w' ⟨rfl, rfl⟩; dsimp only; rw [hi.out]) | (go_at_call 19; rw [hX.out]; refine (hcon.out _).mono ?_; rintro e w2 ⟨rfl, hb2⟩; rw [hca'.out]))
        go_ret
        exact ⟨by rw [hsch2.out, if_neg (by rw [hca'.out]; decide)]; rfl, hb2⟩
      | false =>
        have hca' := Lib.hid hca; clear hca
        go_enter Tryd.func26, Tryd.ntmps26
        go_wp2_with (first | (go_at_call 61; refine (Tryd.strings_Index_one _ _ _).mono ?_; rintro e w' ⟨rfl, rfl⟩; dsimp only; rw [hi.out]) | (go_at_call 19; rw [hX.out]; refine (hcon.out _).mono ?_; rintro e w2 ⟨rfl, hb2⟩; rw [hca'.out]) | (go_at_call 67; rw [hX.out]; refine (hlow.out _).mono ?_; rintro e w3 ⟨rfl, hb3⟩))
        go_ret
        exact ⟨by rw [hsch2.out, if_pos hca'.out]; rfl, btr hb2 hb3⟩
  · have hi := Lib.hid (indexByte_none hc)
    have hsch : Hid (scheme l = []) := by show scheme l = []; unfold scheme; simp only [hc, false_and, if_false]
    go_enter Tryd.func26, Tryd.ntmps26
    go_wp2_with (go_at_call 61; refine (Tryd.strings_Index_one _ _ _).mono ?_; rintro e w' ⟨rfl, rfl⟩; dsimp only; rw [hi.out])
    go_ret
    exact ⟨by rw [hsch.out]; rfl, Below.refl _ _⟩

set_option maxRecDepth 100000 in
set_option maxHeartbeats 4000000 in
theorem cleanOf_any (l : Bs) (w : World) (hm : ∃ m, w.cell? ⟨0, 0, none⟩ = some (.int .i64 m)) (hl : l.length ≤ 20000) :
    Calls Tryd.prog 27 #[str l] w fun e w' => e = .returned (str (cleanT l)) ∧ Below w.heap.size w w' := by
  obtain ⟨m, hm⟩ := hm
  have K := Lib.hid (fun c => show Calls Tryd.prog 28 #[.string ⟨#[32, 9, 13, 10, 12]⟩, .string ⟨#[c]⟩] w (fun e w' => e = .returned (.bool (tset c)) ∧ w' = w) from (Tryd.strings_Contains ⟨#[32, 9, 13, 10, 12]⟩ ⟨#[c]⟩ m w (by decide) hm).mono (fun e w' h => ⟨h.1.trans (by rw [← tset_idx c]), h.2⟩))
  clear hm
  have hfin : Hid (∀ s, s = rdw tset (l.dropWhile tset) → cleanT l = if may s = true then s else []) := Lib.hid (fun s hs => by subst hs; rfl)
  go_enter Tryd.func27, Tryd.ntmps27
  go_wp2
  go_loopw [0] (fun sv wr => ∃ s, sv = str s ∧ s.length ≤ l.length ∧ Hid (s.dropWhile tset = l.dropWhile tset) ∧ wr = w) (fun sv _ => szOf sv)
  case atStart => exact ⟨l, rfl, Nat.le_refl _, Lib.hid rfl, rfl⟩
  case round =>
    obtain ⟨s, rfl, hs, hd, rfl⟩ := hrel
    cases s with
    | nil =>
      have hf := Lib.hid (hfin.out [] (by rw [← hd.out]; rfl))
      go_wp2
      go_loopw [0] (fun sv wx => sv = str [] ∧ wx = wr) (fun _ _ => 0)
      case atStart => exact ⟨rfl, rfl⟩
      case round =>
        obtain ⟨rfl, rfl⟩ := hrel
        go_wp2_with fail
        refine (mayBe_any [] _).mono ?_
        rintro e w1 ⟨rfl, hb⟩
        go_wp2
        go_ret
        exact ⟨by rw [hf.out]; rfl, hb⟩
    | cons c s =>
      cases hc : tset c with
      | true =>
        have C := Lib.hid (K.out c)
        rw [hc] at C
        have e1 : Value.string ((⟨(c :: s).toArray⟩ : ByteArray).extract 0 1) = .string ⟨#[c]⟩ := by rw [ext_str]; simp
        go_wp2_with fail
        refine C.out.mono ?_
        rintro e w1 ⟨rfl, rfl⟩
        go_wp2
        go_roundw
        case rel => exact ⟨s, str_tail c s, by simp at hs; omega, Lib.hid (by rw [← hd.out]; simp [hc]), by first | rfl | trivial⟩
        case measure => rw [str_tail, szOf_str, szOf_str]; simp
      | false =>
        have C := Lib.hid (K.out c)
        rw [hc] at C
        have e1 : Value.string ((⟨(c :: s).toArray⟩ : ByteArray).extract 0 1) = .string ⟨#[c]⟩ := by rw [ext_str]; simp
        have hd2 : Hid (l.dropWhile tset = c :: s) := Lib.hid (by rw [← hd.out]; simp [hc])
        go_wp2_with fail
        refine C.out.mono ?_
        rintro e w1 ⟨rfl, rfl⟩
        clear C
        go_wp2
        obtain ⟨d, hdd⟩ : ∃ d, c :: s = d := ⟨_, rfl⟩
        have hdl : d.length ≤ 20000 := by rw [← hdd]; omega
        have hd3 : Hid (l.dropWhile tset = d) := Lib.hid (hd2.out.trans hdd)
        have hd4 := Lib.hid hdd
        clear hdd
        obtain ⟨wo, rfl⟩ : ∃ wo, wo = w1 := ⟨_, rfl⟩
        go_loopw [0] (fun sv wx => ∃ t, sv = str t ∧ t.length ≤ d.length ∧ Hid (rdw tset t = rdw tset d) ∧ wx = wo) (fun sv _ => szOf sv)
        case atStart => exact ⟨d, by rw [← hd4.out], Nat.le_refl _, Lib.hid rfl, rfl⟩
        case round =>
          obtain ⟨t, rfl, ht, hr, rfl⟩ := hrel
          rcases nil_or_snoc t with rfl | ⟨p, z, rfl⟩
          · have hf := Lib.hid (hfin.out [] (by rw [hd3.out, ← hr.out]; rfl))
            go_wp2_with fail
            refine (mayBe_any [] _).mono ?_
            rintro e w1 ⟨rfl, hb⟩
            go_wp2
            go_ret
            exact ⟨by rw [hf.out]; rfl, hb⟩
          · have hz := rdw_snoc tset p z
            have hlen : (p ++ [z]).length = p.length + 1 := by simp
            have hpl : p.length ≤ 20000 := by omega
            have e1 : Value.string ((⟨(p ++ [z]).toArray⟩ : ByteArray).extract p.length (p.length + 1)) = str [z] := by
              rw [ext_str, ← hlen, List.take_length, List.drop_left]
            have e2 : Value.string ((⟨(p ++ [z]).toArray⟩ : ByteArray).extract 0 p.length) = str p := by rw [ext_str]; simp
            have hw1 : wrap64 ((p.length : Int) + 1 - 1) = (p.length : Int) := by unfold wrap64; omega
            have hne : (p ++ [z]).isEmpty = false := by simp
            have C := Lib.hid (K.out z)
            cases hc : tset z with
            | true =>
              rw [hc] at C
              rw [hc, if_pos rfl] at hz
              have hr2 : Hid (rdw tset p = rdw tset d) := Lib.hid (by rw [← hr.out, hz])
              clear hz hr
              go_wp2_with fail
              refine C.out.mono ?_
              rintro e w1 ⟨rfl, rfl⟩
              go_wp2
              go_roundw
              case rel => exact ⟨p, by first | rfl | exact e2, by simp at ht; omega, hr2, by first | rfl | trivial⟩
              case measure => (try rw [e2]); simp [szOf_str]
            | false =>
              rw [hc] at C
              rw [hc, if_neg (by simp)] at hz
              have hf := Lib.hid (hfin.out (p ++ [z]) (by rw [hd3.out, ← hr.out, hz]))
              clear hz hr
              go_wp2_with fail
              refine C.out.mono ?_
              rintro e w1 ⟨rfl, rfl⟩
              go_wp2_with fail
              refine (mayBe_any (p ++ [z]) _).mono ?_
              rintro e w1 ⟨rfl, hb⟩
              cases hmy : may (p ++ [z]) with
              | true =>
                go_wp2
                go_ret
                exact ⟨by rw [hf.out, hmy]; rfl, hb⟩
              | false =>
                go_wp2
                go_ret
                exact ⟨by rw [hf.out, hmy]; rfl, hb⟩

set_option maxRecDepth 100000 in
set_option maxHeartbeats 4000000 in
theorem linkSays_walk (S : Bs) (w : World) (hm : ∃ m, w.cell? ⟨0, 0, none⟩ = some (.int .i64 m)) (hS : S.length ≤ 140737488355328) :
    Calls Tryd.prog 5 #[str S] w fun e w' => e = .returned (.bool true) ∧ Below w.heap.size w w' := by
  have hM := Lib.hid (fun w' (hb : Below w.heap.size w w') => somec hm hb)
  clear hm
  have M := Lib.hid (fun w' => may_any S w')
  have N := Lib.hid (fun w' => mayBe_any S w')
  have Z := Lib.hid (fun w' => schemeB_any S w' hS)
  have Y := Lib.hid (fun w' => schemeOfB_any S w' hS)
  generalize may S = b at M N
  generalize scheme S = z at Z Y
  by_cases hlong : 20000 < S.length
  · have C := Lib.hid (fun w' => clean_p S ([], 2) (if_pos hlong) w')
    have hl1 : decide ((20000 : Int) < (S.length : Int)) = true := by simp; omega
    go_enter Tryd.func5, Tryd.ntmps5
    go_wp2_with fail
    refine (C.out _).mono ?_
    rintro e w1 ⟨rfl, hb1⟩
    go_wp2_with fail
    refine (led_any _).mono ?_
    rintro e w2 ⟨rfl, hb2⟩
    go_wp2_with fail
    refine (M.out _).mono ?_
    rintro e w3 ⟨rfl, hb3⟩
    go_wp2_with fail
    refine (N.out _).mono ?_
    rintro e w4 ⟨rfl, hb4⟩
    have hB4 := btr (btr (btr hb1 hb2) hb3) hb4
    clear hb1 hb2 hb3 hb4
    go_wp2_with fail
    refine (Z.out _).mono ?_
    rintro e w5 ⟨rfl, hb5⟩
    go_wp2_with fail
    refine (Y.out _).mono ?_
    rintro e w6 ⟨rfl, hb6⟩
    go_wp2
    go_ret
    exact ⟨rfl, btr (btr hB4 hb5) hb6⟩
  · have C := Lib.hid (fun w' => clean_p S (cleanT S, 0) (if_neg hlong) w')
    have D := Lib.hid (fun w' hb => cleanOf_any S w' (hM.out w' hb) (by omega))
    have hl1 : decide ((20000 : Int) < (S.length : Int)) = false := by simp; omega
    generalize cleanT S = c at C D
    go_enter Tryd.func5, Tryd.ntmps5
    go_wp2_with fail
    refine (C.out _).mono ?_
    rintro e w1 ⟨rfl, hb1⟩
    go_wp2_with fail
    refine (led_any _).mono ?_
    rintro e w2 ⟨rfl, hb2⟩
    go_wp2_with fail
    refine (M.out _).mono ?_
    rintro e w3 ⟨rfl, hb3⟩
    go_wp2_with fail
    refine (N.out _).mono ?_
    rintro e w4 ⟨rfl, hb4⟩
    have hB4 := btr (btr (btr hb1 hb2) hb3) hb4
    clear hb1 hb2 hb3 hb4
    go_wp2_with fail
    refine (Z.out _).mono ?_
    rintro e w5 ⟨rfl, hb5⟩
    go_wp2_with fail
    refine (Y.out _).mono ?_
    rintro e w6 ⟨rfl, hb6⟩
    have hB6 := btr (btr hB4 hb5) hb6
    clear hB4 hb5 hb6
    go_wp2_with fail
    refine (D.out _ hB6).mono ?_
    rintro e w7 ⟨rfl, hb7⟩
    go_wp2
    go_ret
    exact ⟨by simp, btr hB6 hb7⟩
end Go.Proofs.YtjbidchdjpmonaaDoor
