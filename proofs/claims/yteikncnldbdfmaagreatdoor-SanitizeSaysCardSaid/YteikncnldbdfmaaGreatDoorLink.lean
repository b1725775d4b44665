/- Small functions of Go's library on texts: Cut at one byte. -/
import Derived.Test.YteikncnldbdfmaaGreatDoorMem
import Derived.Test.YteikncnldbdfmaaGreatDoorPl
import Derived.Test.YteikncnldbdfmaaGreatDoorShelf
import Derived.Test.YteikncnldbdfmaaGreatDoorRows
import Derived.Lib.SlicesS
namespace Go.Proofs.YteikncnldbdfmaaGreatDoor
open Go.RowKit Go.Mh

set_option maxHeartbeats 400000 in
theorem slCut1_no (l : Bs) (c : UInt8) (w : World) (h : c ∉ l) :
    Calls Tryz.prog 174 #[str l, .string ⟨#[c]⟩] w fun e w' => e = .returned (.tuple #[str l, str [], .bool false]) ∧ Below w.heap.size w w' := by
  have hi := Lib.hid (indexByte_none h)
  go_enter Tryz.func174, Tryz.ntmps174
  go_wp2_with (go_at_call 186; refine (Tryz.stringslite_Index_one _ _ _).mono ?_; rintro e w' ⟨rfl, rfl⟩; dsimp only; rw [hi.out])
  go_ret3
  exact ⟨rfl, Below.refl _ _⟩

set_option maxHeartbeats 400000 in
theorem slCut1_yes (l : Bs) (c : UInt8) (w : World) (h : c ∈ l) (hm : l.length ≤ maxLen) :
    Calls Tryz.prog 174 #[str l, .string ⟨#[c]⟩] w fun e w' => e = .returned (.tuple #[str (l.takeWhile (· != c)), str (l.dropWhile (· != c)).tail, .bool true]) ∧ Below w.heap.size w w' := by
  have hi := Lib.hid (indexByte_some h)
  have hlt := takeWhile_len_lt h
  obtain ⟨n, hn⟩ : ∃ n, n = (l.takeWhile (· != c)).length := ⟨_, rfl⟩
  rw [← hn] at hlt
  have hn' := Lib.hid hn; clear hn
  unfold maxLen at hm
  go_enter Tryz.func174, Tryz.ntmps174
  go_wp2_with (go_at_call 186; refine (Tryz.stringslite_Index_one _ _ _).mono ?_; rintro e w' ⟨rfl, rfl⟩; dsimp only; rw [hi.out, ← hn'.out])
  go_quiet (fail)
  go_wp2
  go_ret3
  exact ⟨ret3 ((str_take l n).trans (by rw [hn'.out, take_takeWhile])) ((str_drop l (n + 1) _ rfl).trans (by rw [hn'.out, ← List.drop_drop, drop_takeWhile, List.drop_one])) rfl, bdrewN (Below.refl _ _) _⟩

theorem slCut1 (l : Bs) (c : UInt8) (w : World) (hm : l.length ≤ maxLen) :
    Calls Tryz.prog 174 #[str l, .string ⟨#[c]⟩] w fun e w' => e = .returned (.tuple #[str (cut1 c l).1, str (cut1 c l).2.1, .bool (cut1 c l).2.2]) ∧ Below w.heap.size w w' := by
  unfold cut1
  by_cases h : c ∈ l
  · simp only [h, if_true]
    exact slCut1_yes l c w h hm
  · simp only [h, if_false]
    exact slCut1_no l c w h

set_option maxHeartbeats 400000 in
/-- strings.Cut at a separator of one byte. -/
theorem cut1_any (l : Bs) (c : UInt8) (w : World) (hm : l.length ≤ maxLen) :
    Calls Tryz.prog 121 #[str l, .string ⟨#[c]⟩] w fun e w' => e = .returned (.tuple #[str (cut1 c l).1, str (cut1 c l).2.1, .bool (cut1 c l).2.2]) ∧ Below w.heap.size w w' := by
  go_enter Tryz.func121, Tryz.ntmps121
  go_wp2_with (go_at_call 174; refine (slCut1 _ _ _ hm).mono ?_; rintro e w' ⟨rfl, hb⟩)
  go_ret3
  exact ⟨rfl, hb⟩
end Go.Proofs.YteikncnldbdfmaaGreatDoor
/- Package link: small letters, Scheme of ASCII text, May. -/
namespace Go.Proofs.YteikncnldbdfmaaGreatDoor
open Go.RowKit Go.Mh

/-- '[]byte(s)' in the walk: a row of the call's own that holds the bytes. -/
theorem wpList_bytes_of_string {P : Program} (w : World) {ops : Array Oper} {rest : List Oper} {o : Oper} {a : Act} {Q : Exit → Act → World → Prop}
    (hg : o.guard = none) (src dst : TypeId) (x : Operand) (hop : o.op = Op.convert src dst x) (e : TypeId)
    (hs : P.underlying src = some .string) (hd : P.underlying dst = some (.slice e)) (he : P.underlying e = some (.int .u8)) (l : Bs) (hx : a.eval x = str l)
    (hK : ∀ w' cap, (∀ j c, l[j]? = some c → w'.cell? ⟨w.heap.size, j, none⟩ = some (.int .u8 (c.toNat : Int))) → (∀ j, j < l.length → w'.frozen? ⟨w.heap.size, j, none⟩ = false) →
      w'.heap.size = w.heap.size + 1 → Below w.heap.size w w' → wpList P ops Q rest (a.put o.dst (.slice (some ⟨w.heap.size, 0, none⟩) l.length cap)) w') :
    wpList P ops Q (o :: rest) a w := by
  refine wpList_plain hg fun K hK' => ?_
  have hrun := run_bytes_of_string (P := P) w src dst e ⟨l.toArray⟩ hs hd he
  unfold Oper.wp
  simp only [execOp, hop, hx]
  simp [hrun, Result.andThen]
  refine hK' _ _ (hK _ _ ?_ ?_ ?_ ?_)
  · intro j c hj
    have hj' := (List.getElem?_eq_some_iff.1 hj).1
    have := bytesRow_at ⟨l.toArray⟩ (grownCap w l.length 0 e) j (by simpa using hj')
    simp at this
    rw [(List.getElem?_eq_some_iff.1 hj).2] at this
    rw [← this]
    exact World.cell?_alloc_mark w.drew _ _ _ j
  · intro j h
    refine (World.frozen?_alloc_mark w.drew _ e _ _ j).trans ?_
    have hsz : ∀ n, l.length ≤ (bytesRow ⟨l.toArray⟩ n).size := fun n => by simp [bytesRow]
    have := hsz (grownCap w (⟨l.toArray⟩ : ByteArray).size 0 e)
    simp only [Bool.and_eq_false_iff, decide_eq_false_iff_not]
    left; omega
  · simp
  · exact (Below.refl _ _).drew.alloc (Nat.le_refl _) _

/-- A cell behind a store into another place, or the same. -/
theorem cell_set {w : World} {b i j : Nat} {v u : Value} (h : w.cell? ⟨b, j, none⟩ = some u) : (w.setCell ⟨b, i, none⟩ v).cell? ⟨b, j, none⟩ = some (if i = j then v else u) := by
  by_cases hij : i = j
  · subst hij
    rw [if_pos rfl, World.cell?_setCell_same (h := h)]
  · have hne : (⟨b, i, none⟩ : Addr) ≠ ⟨b, j, none⟩ := by intro e; exact hij (Addr.mk.inj e).2.1
    rw [if_neg hij]
    exact (World.cell?_setCell_other w _ _ v hne).trans h

set_option maxHeartbeats 400000 in
theorem lower_any (l : Bs) (w : World) (hs : l.length ≤ maxLen) :
    Calls Tryz.prog 232 #[str l] w fun e w' => e = .returned (str (lower l)) ∧ Below w.heap.size w w' := by
  unfold maxLen at hs
  go_enter Tryz.func232, Tryz.ntmps232
  go_wp2_with (refine wpList_bytes_of_string _ rfl 9 41 (.tmp 6) rfl 5 Tryz.underlying9 Tryz.underlying41 Tryz.underlying5 l rfl ?_; intro w1 cap hc hf hz hb)
  go_loopw [4, 5, 10] (fun _ _ i wr => ∃ k : Nat, k ≤ l.length ∧ i = .int .i64 k ∧ (∀ j c, l[j]? = some c → wr.cell? ⟨w.heap.size, j, none⟩ = some (.int .u8 ((if j < k then lowB c else c).toNat : Int))) ∧ (∀ j, j < l.length → wr.frozen? ⟨w.heap.size, j, none⟩ = false) ∧ Below w.heap.size w wr) (fun _ _ i _ => l.length - (intOf i).toNat)
  case atStart => exact ⟨0, Nat.zero_le _, rfl, by simpa using hc, hf, hb⟩
  case round =>
    obtain ⟨k, hk, rfl, hc', hf', hb'⟩ := hrel
    clear hc hf hz hb
    by_cases hlt : k < l.length
    · obtain ⟨c, hck'⟩ : ∃ c, l[k]? = some c := ⟨_, List.getElem?_eq_getElem hlt⟩
      have hck := hc' k c hck'
      simp only [Nat.lt_irrefl, if_false] at hck
      have hfk := hf' k hlt
      have hcz := Lib.hid hc'; clear hc'
      have hfz := Lib.hid hf'; clear hf'
      have hcv := Lib.hid hck'; clear hck'
      go_wp2
      · go_roundw
        case rel =>
          refine ⟨k + 1, by omega, by go_num, fun j d h => ?_, fun j h => by rw [World.frozen?_setCell]; exact hfz.out j h, hb'.setCell (Nat.le_refl _) _⟩
          rw [cell_set (hcz.out j d h)]
          by_cases hkj : k = j
          · subst hkj
            obtain rfl : c = d := by have := hcv.out; rw [this] at h; exact Option.some.inj h
            rw [if_pos rfl, if_pos (by omega), lowB_up ‹_› ‹_›]
          · rw [if_neg hkj]
            have : (j < k + 1) = (j < k) := by simp; omega
            simp only [this]
        case measure => simp [intOf]; omega
      all_goals
        go_roundw
        case rel =>
          refine ⟨k + 1, by omega, by go_num, fun j d h => ?_, hfz.out, hb'⟩
          rw [hcz.out j d h]
          by_cases hkj : k = j
          · subst hkj
            obtain rfl : c = d := by have := hcv.out; rw [this] at h; exact Option.some.inj h
            rw [if_neg (by omega), if_pos (by omega), lowB_id (by omega)]
          · have : (j < k + 1) = (j < k) := by simp; omega
            simp only [this]
        case measure => simp [intOf]; omega
    · obtain rfl : k = l.length := by omega
      have hback := run_convert_bytes_back (P := Tryz.prog) wr 41 9 5 ⟨w.heap.size, 0, none⟩ cap (lower l) Tryz.underlying41 Tryz.underlying5 Tryz.underlying9 (fun j hj => by
        have hj' : j < l.length := by simpa [lower] using hj
        have := hc' j _ (List.getElem?_eq_getElem hj')
        rw [if_pos hj'] at this
        simpa [Addr.add_lit, lower] using this)
      have hl : (lower l).length = l.length := by simp [lower]
      rw [hl] at hback
      clear hc' hf' hl
      go_wp2
      go_ret
      exact ⟨rfl, hb'⟩

def Ascii (l : Bs) : Prop := ∀ (j : Nat) b, l[j]? = some b → b.toNat < 128

set_option maxHeartbeats 400000 in
theorem scheme_any (l : Bs) (w : World) (hs : l.length < 4294967281) (ha : Ascii l) :
    Calls Tryz.prog 210 #[str l] w fun e w' => e = .returned (str (scheme l)) ∧ Below w.heap.size w w' := by
  have hm : l.length ≤ maxLen := by unfold maxLen; omega
  by_cases hc : 58 ∈ l
  · have hcut : cut1 58 l = (l.takeWhile (· != 58), (l.dropWhile (· != 58)).tail, true) := by simp [cut1, hc]
    obtain ⟨r, hr⟩ : ∃ r, r = (l.dropWhile (· != 58)).tail := ⟨_, rfl⟩
    rw [← hr] at hcut
    have hlt := takeWhile_len_lt hc
    have hsub : Ascii (l.takeWhile (· != 58)) := by
      intro j b hj
      have : b ∈ l := List.takeWhile_subset _ (List.mem_of_getElem? hj)
      obtain ⟨i, hi⟩ := List.getElem?_of_mem this
      exact ha i b hi
    have hsch : Hid (scheme l = if (l.takeWhile (· != 58)) ≠ [] ∧ Lib.containsAny (l.takeWhile (· != 58)) [47, 63, 35] = false then lower (l.takeWhile (· != 58)) else []) := by
      show scheme l = _; unfold scheme; simp only [hc, true_and]
    generalize l.takeWhile (· != 58) = h at *
    have hcut' := Lib.hid hcut; clear hcut hr
    have ha' := Lib.hid ha; clear ha
    have hsub' := Lib.hid hsub; clear hsub
    by_cases hh : h = []
    · subst hh
      go_enter Tryz.func210, Tryz.ntmps210
      go_wp2_with (go_at_call 121; refine (cut1_any _ _ _ hm).mono ?_; rintro e w1 ⟨rfl, hb⟩; simp only [hcut'.out])
      go_ret
      exact ⟨by rw [hsch.out]; rfl, hb⟩
    · have hcon := (Tryz.strings_ContainsAny_laid ⟨h.toArray⟩ ⟨#[47, 63, 35]⟩ · (by simp [ByteArray.size]; omega) (by decide) (fun j b hj => hsub'.out j b (by simpa using hj)) (by
        intro j b hj
        match j, hj with
        | 0, hj => simp at hj; subst hj; decide
        | 1, hj => simp at hj; subst hj; decide
        | 2, hj => simp at hj; subst hj; decide))
      dsimp only at hcon
      have hcon' := Lib.hid hcon; clear hcon
      have hh1 : (h == []) = false := by simpa using hh
      have hh2 : h.isEmpty = false := by simpa using hh
      have hsch2 : Hid (scheme l = if Lib.containsAny h [47, 63, 35] = false then lower h else []) := by
        show scheme l = _; rw [hsch.out]; simp only [hh, ne_eq, not_false_eq_true, true_and]
      clear hsch
      cases hca : Lib.containsAny h [47, 63, 35] with
      | true =>
        have hca' := Lib.hid hca; clear hca
        go_enter Tryz.func210, Tryz.ntmps210
        go_wp2_with (first | (go_at_call 121; refine (cut1_any _ _ _ hm).mono ?_; rintro e w1 ⟨rfl, hb⟩; simp only [hcut'.out]) | (go_at_call 218; refine (hcon'.out _).mono ?_; rintro e w2 ⟨rfl, hb2⟩; rw [hca'.out]))
        go_ret
        exact ⟨by rw [hsch2.out, if_neg (by rw [hca'.out]; decide)]; rfl, hb.trans (hb2.mono hb.size)⟩
      | false =>
        have hca' := Lib.hid hca; clear hca
        go_enter Tryz.func210, Tryz.ntmps210
        go_wp2_with (first | (go_at_call 121; refine (cut1_any _ _ _ hm).mono ?_; rintro e w1 ⟨rfl, hb⟩; simp only [hcut'.out]) | (go_at_call 218; refine (hcon'.out _).mono ?_; rintro e w2 ⟨rfl, hb2⟩; rw [hca'.out]) | (go_at_call 232; refine (lower_any _ _ (by unfold maxLen; omega)).mono ?_; rintro e w3 ⟨rfl, hb3⟩))
        go_ret
        exact ⟨by rw [hsch2.out, if_pos hca'.out]; rfl, (hb.trans (hb2.mono hb.size)).trans (hb3.mono (Nat.le_trans hb.size hb2.size))⟩
  · have hcut : cut1 58 l = (l, [], false) := by simp [cut1, hc]
    have hsch : Hid (scheme l = []) := by show scheme l = []; unfold scheme; simp only [hc, false_and, if_false]
    have hcut' := Lib.hid hcut; clear hcut
    have ha' := Lib.hid ha; clear ha
    go_enter Tryz.func210, Tryz.ntmps210
    go_wp2_with (go_at_call 121; refine (cut1_any _ _ _ hm).mono ?_; rintro e w1 ⟨rfl, hb⟩; simp only [hcut'.out])
    go_ret
    exact ⟨by rw [hsch.out]; rfl, hb⟩

theorem okC_iff (c : UInt8) : okC c = true ↔ (32 < (c.toNat : Int) ∧ (c.toNat : Int) ≤ 126 ∧ ¬ (c.toNat : Int) = 34 ∧ ¬ (c.toNat : Int) = 39 ∧ ¬ (c.toNat : Int) = 60 ∧ ¬ (c.toNat : Int) = 62 ∧ ¬ (c.toNat : Int) = 92 ∧ ¬ (c.toNat : Int) = 96) := by
  have e : ∀ d : UInt8, (c = d) ↔ (c.toNat : Int) = d.toNat := fun d => by rw [← UInt8.toNat_inj]; omega
  simp only [okC, Bool.and_eq_true, decide_eq_true_eq, bne_iff_ne, ne_eq, e, UInt8.lt_iff_toNat_lt, UInt8.le_iff_toNat_le]
  simp
  omega

set_option maxHeartbeats 400000 in
theorem schemes_any (w : World) :
    Calls Tryz.prog 209 #[] w fun e w' => e = .returned (.agg #[str sHttp, str sHttps, str sMailto]) ∧ Below w.heap.size w w' := by
  go_enter Tryz.func209, Tryz.ntmps209
  go_wp2
  exact bodyPost_ret (v := .agg #[str sHttp, str sHttps, str sMailto]) (by simp [results, Tryz.results209, go_sem, sHttp, sHttps, sMailto]) rfl ⟨rfl, (Below.refl _ _).alloc (Nat.le_refl _) _⟩

def schemesZ : List ByteArray := [⟨sHttp.toArray⟩, ⟨sHttps.toArray⟩, ⟨sMailto.toArray⟩]

theorem contains_schemes (x : Bs) : Lib.containsS schemesZ ⟨x.toArray⟩ = [sHttp, sHttps, sMailto].contains x := by
  have e : ∀ a b : Bs, ((⟨a.toArray⟩ : ByteArray) = ⟨b.toArray⟩) ↔ a = b := fun a b => ⟨fun h => by injection h with h; injection h, fun h => by rw [h]⟩
  rw [Bool.eq_iff_iff, Lib.containsS_iff]
  simp only [schemesZ, List.mem_cons, e, List.not_mem_nil, or_false, List.contains_eq_mem, decide_eq_true_eq]

theorem schemesCells {w w3 : World} (hb : Below (w.alloc (Obj.cells #[str sHttp, str sHttps, str sMailto] 243)).drew.heap.size (w.alloc (Obj.cells #[str sHttp, str sHttps, str sMailto] 243)).drew w3) :
    ∀ j, j < schemesZ.length → w3.cell? ⟨w.heap.size, 0 + j, none⟩ = some (.string (schemesZ.getD j ByteArray.empty)) := by
  intro j hj
  rw [hb.cell (p := ⟨w.heap.size, 0 + j, none⟩) (by simp)]
  match j, hj with
  | 0, _ => simp; rfl
  | 1, _ => simp; rfl
  | 2, _ => simp; rfl

set_option maxHeartbeats 400000 in
theorem may_any (l : Bs) (w : World) :
    Calls Tryz.prog 182 #[str l] w fun e w' => e = .returned (.bool (may l)) ∧ Below w.heap.size w w' := by
  by_cases h0 : l = []
  · subst h0
    go_enter Tryz.func182, Tryz.ntmps182
    go_wp2
    go_ret
    exact ⟨rfl, Below.refl _ _⟩
  have h1 : l.isEmpty = false := by simpa using h0
  have h1' : (l == []) = false := by simpa using h0
  by_cases h24 : 24 < l.length
  · have hmay : Hid (may l = false) := by show may l = false; simp [may]; omega
    go_enter Tryz.func182, Tryz.ntmps182
    go_wp2
    go_ret
    exact ⟨by rw [hmay.out]; rfl, Below.refl _ _⟩
  have h24' : l.length ≤ 24 := by omega
  clear h24
  go_enter Tryz.func182, Tryz.ntmps182
  go_wp2_with (refine wpList_bytes_of_string _ rfl 9 41 (.tmp 13) rfl 5 Tryz.underlying9 Tryz.underlying41 Tryz.underlying5 l rfl ?_; intro w1 cap hc hf hz hb)
  go_loopw [4, 16] (fun _ i wr => ∃ k : Nat, k ≤ l.length ∧ i = .int .i64 k ∧ (∀ c ∈ l.take k, okC c = true) ∧ (∀ j c, l[j]? = some c → wr.cell? ⟨w.heap.size, j, none⟩ = some (.int .u8 (c.toNat : Int))) ∧ Below w.heap.size w wr) (fun _ i _ => l.length - (intOf i).toNat)
  case atStart => exact ⟨0, Nat.zero_le _, rfl, by simp, hc, hb⟩
  case round =>
    obtain ⟨k, hk, rfl, hall, hc', hb'⟩ := hrel
    clear hc hf hz hb
    by_cases hlt : k < l.length
    · obtain ⟨c, hck'⟩ : ∃ c, l[k]? = some c := ⟨_, List.getElem?_eq_getElem hlt⟩
      have hck := hc' k c hck'
      have hcz := Lib.hid hc'; clear hc'
      have hcv := Lib.hid hck'; clear hck'
      have hal := Lib.hid hall; clear hall
      cases hok : okC c with
      | true =>
        obtain ⟨a1, a2, a3, a4, a5, a6, a7, a8⟩ := (okC_iff c).1 hok
        have b3 : ((c.toNat : Int) == 34) = false := by simpa using a3
        have b4 : ((c.toNat : Int) == 39) = false := by simpa using a4
        have b5 : ((c.toNat : Int) == 60) = false := by simpa using a5
        have b6 : ((c.toNat : Int) == 62) = false := by simpa using a6
        have b7 : ((c.toNat : Int) == 92) = false := by simpa using a7
        have b8 : ((c.toNat : Int) == 96) = false := by simpa using a8
        clear a3 a4 a5 a6 a7 a8
        have hok' := Lib.hid hok; clear hok
        go_wp2
        go_roundw
        case rel =>
          refine ⟨k + 1, by omega, by go_num, fun d hd => ?_, hcz.out, hb'⟩
          rw [List.take_add_one, hcv.out] at hd
          simp only [Option.toList_some, List.mem_append, List.mem_singleton] at hd
          rcases hd with hd | rfl
          · exact hal.out d hd
          · exact hok'.out
        case measure => simp [intOf]; omega
      | false =>
        have hmay : Hid (may l = false) := by
          show may l = false
          have : l.all okC = false := by
            rw [List.all_eq_false]
            exact ⟨c, List.mem_of_getElem? hcv.out, by rw [hok]; decide⟩
          simp [may, this]
        have hok' := Lib.hid hok; clear hok
        by_cases h96 : (c.toNat : Int) = 96
        · have b8 : ((c.toNat : Int) == 96) = true := by simpa using h96
          have h96' := Lib.hid h96; clear h96
          go_wp2
          all_goals
            go_ret
            exact ⟨by rw [hmay.out]; rfl, hb'⟩
        · have b8 : ((c.toNat : Int) == 96) = false := by simpa using h96
          have h96' := Lib.hid h96; clear h96
          go_wp2
          all_goals first
            | (go_ret; exact ⟨by rw [hmay.out]; rfl, hb'⟩)
            | (exfalso; have ht := (okC_iff c).2 ⟨by assumption, by assumption, by assumption, by assumption, by assumption, by assumption, by assumption, h96'.out⟩; rw [hok'.out] at ht; cases ht)
    · obtain rfl : k = l.length := by omega
      rw [List.take_length] at hall
      have hasc : Hid (Ascii l) := fun j b hj => by
        have := (okC_iff b).1 (hall b (List.mem_of_getElem? hj))
        omega
      have hmay : Hid (may l = Lib.containsS schemesZ ⟨(scheme l).toArray⟩) := by
        show may l = _
        rw [contains_schemes]
        have : l.all okC = true := List.all_eq_true.2 hall
        simp [may, this, h24', h0]
      have hal := Lib.hid hall; clear hall hc'
      go_wp2_with (go_at_call 209; refine (schemes_any _).mono ?_; rintro e w2 ⟨rfl, hb2⟩)
      go_region_with (first | (go_at_call 210; refine (scheme_any l _ (by omega) hasc.out).mono ?_; rintro e w3 ⟨rfl, hb3⟩; have hc3 := schemesCells hb3) | (go_at_call 80; refine (Tryz.slices_Contains_string w2.heap.size 0 3 3 schemesZ ⟨(scheme l).toArray⟩ _ (by decide) (by decide) hc3).mono ?_; rintro e w4 ⟨rfl, rfl⟩))
      all_goals
        go_wp2
        go_ret
        exact ⟨by rw [hmay.out]; rfl, ((((hb'.trans (hb2.mono hb'.size)).alloc (Nat.le_trans hb'.size hb2.size) _).drew).trans (hb3.mono (by have := hb'.size; have := hb2.size; simp; omega)))⟩
end Go.Proofs.YteikncnldbdfmaaGreatDoor
