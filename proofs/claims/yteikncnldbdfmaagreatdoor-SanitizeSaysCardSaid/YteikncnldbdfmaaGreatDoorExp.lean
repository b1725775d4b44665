/- Package export: tags, names, block. -/
import Derived.Test.YteikncnldbdfmaaGreatDoorEscW
import Derived.Test.YteikncnldbdfmaaGreatDoorDoc
import Derived.Test.YteikncnldbdfmaaGreatDoorTok
import Derived.Test.YteikncnldbdfmaaGreatDoorPl
import Derived.BigQuiet
import Derived.Deep.Cut
import Derived.Test.YteikncnldbdfmaaGreatDoorBldO
import Derived.Test.YteikncnldbdfmaaGreatDoorMem
import Derived.RegionTactic
namespace Go.Mh
def sameI (x y : It) : Bool := (y.m == x.m) && (y.l == x.l)
theorem sameI_iff (x y : It) : sameI x y = true ↔ (y.m = x.m ∧ y.l = x.l) := by simp [sameI]
theorem blk_run (cur : It) : ∀ (l : List It) (t : Bs), blk cur t l = run1 cur (t ++ (l.takeWhile (sameI cur)).map It.c) ++ blockX (l.dropWhile (sameI cur))
  | [], t => by simp [blk, blockX]
  | x :: l, t => by
    rw [blk]
    by_cases h : sameI cur x = true
    · rw [if_pos ((sameI_iff cur x).1 h), blk_run cur l, List.takeWhile_cons, if_pos h, List.dropWhile_cons, if_pos h]
      simp
    · rw [if_neg (fun e => h ((sameI_iff cur x).2 e)), List.takeWhile_cons, if_neg h, List.dropWhile_cons, if_neg h]
      simp [blockX]
theorem sameI_self (x : It) : sameI x x = true := by simp [sameI]
theorem block_run (x : It) (l : List It) : blockX (x :: l) = run1 x (((x :: l).takeWhile (sameI x)).map It.c) ++ blockX ((x :: l).dropWhile (sameI x)) := by
  rw [blockX, blk_run, List.takeWhile_cons, if_pos (sameI_self x), List.dropWhile_cons, if_pos (sameI_self x)]
  simp
theorem tw_ofG {α : Type} {p : α → Bool} : ∀ {l : List α} {k : Nat}, (∀ (j : Nat) c, j < k → l[j]? = some c → p c = true) → (k = l.length ∨ ∃ c, l[k]? = some c ∧ p c = false) → l.takeWhile p = l.take k ∧ l.dropWhile p = l.drop k
  | [], k, _, h => by simp
  | c :: l, 0, _, h => by
    rcases h with h | ⟨d, h1, h2⟩
    · simp at h
    · simp at h1; subst h1; simp [h2]
  | c :: l, k + 1, h0, h => by
    have hc := h0 0 c (by omega) rfl
    have := tw_ofG (p := p) (l := l) (k := k) (fun j d hj hd => h0 (j + 1) d (by omega) (by simpa using hd)) (by
      rcases h with h | ⟨d, h1, h2⟩
      · left; simpa using h
      · right; exact ⟨d, by simpa using h1, h2⟩)
    simp [hc, this.1, this.2]
theorem tw_pos {x : It} {l : List It} {m : Nat} (h : l.takeWhile (sameI x) = l.take m) (h0 : l[0]? = some x) : 0 < m := by
  cases l with
  | nil => simp at h0
  | cons y l =>
    simp at h0
    subst h0
    rw [List.takeWhile_cons, if_pos (sameI_self y)] at h
    cases m with
    | zero => simp at h
    | succ m => omega
end Go.Mh
namespace Go.Proofs.YteikncnldbdfmaaGreatDoor
open Go.RowKit Go.Mh

theorem str_eq {a : ByteArray} {l : Bs} (h : a.data.toList = l) : Value.string a = str l := by
  subst h; rfl

theorem tagO_len (x : It) (h : x.l.length ≤ 24) : (tagO x).length ≤ 161 ∧ (tagS x).length ≤ 12 := by
  have := (write_len x.l).2
  unfold tagO tagS
  constructor
  · simp only [List.length_append]
    split <;> split <;> split <;> simp [sAo, opn, nB, nI] <;> omega
  · simp only [List.length_append]
    split <;> split <;> split <;> simp [cls, nB, nI, nA]

set_option maxRecDepth 100000 in
set_option maxHeartbeats 4000000 in
theorem tags_any (x : It) (w : World) (hl : x.l.length ≤ 24) (hm : ∃ m, w.cell? ⟨2, 0, none⟩ = some (.int .i64 m)) :
    Calls Tryz.prog 184 #[.agg #[.int .u8 x.c.toNat, .int .i64 x.m, str x.l]] w fun e w' => e = .returned (.tuple #[str (tagO x), str (tagS x)]) ∧ Below w.heap.size w w' := by
  obtain ⟨c, m, l⟩ := x
  have C := Lib.hid (fun w' (hb : Below w.heap.size w w') => escText_any l w' (by simp at hl; omega) (somec hm hb))
  have hwl := (write_len l).2
  have hT := Lib.hid (show tagO ⟨c, m, l⟩ = (if l = [] then [] else sAo ++ (writeE l ++ [34, 62])) ++ ((if isB m = true then opn nB else []) ++ (if isI m = true then opn nI else [])) from rfl)
  have hS := Lib.hid (show tagS ⟨c, m, l⟩ = (if isI m = true then cls nI else []) ++ ((if isB m = true then cls nB else []) ++ (if l = [] then [] else cls nA)) from rfl)
  have hBdef : isB m = (Go.bits Go.BinOp.and Go.IntKind.i64 m 1 != 0) := rfl
  have hIdef : isI m = (Go.bits Go.BinOp.and Go.IntKind.i64 m 2 != 0) := rfl
  generalize writeE l = X at *
  simp only at hl
  clear hm
  by_cases h0 : l = []
  · subst h0
    cases hB : isB m <;> cases hI : isI m
    all_goals
      rw [hB] at hBdef hT hS
      rw [hI] at hIdef hT hS
      have b1 := hBdef.symm
      have b2 := hIdef.symm
      clear hBdef hIdef
      go_enter Tryz.func184, Tryz.ntmps184
      go_wp2
      go_ret2
      exact ⟨by rw [hT.out, hS.out]; rfl, bal (brf _) _⟩
  · have h1 : (l == []) = false := by simpa using h0
    have h2 : l.isEmpty = false := by simpa using h0
    rw [if_neg h0] at hT hS
    clear h0
    cases hB : isB m <;> cases hI : isI m
    all_goals
      rw [hB] at hBdef hT hS
      rw [hI] at hIdef hT hS
      have b1 := hBdef.symm
      have b2 := hIdef.symm
      clear hBdef hIdef
      go_enter Tryz.func184, Tryz.ntmps184
      go_wp2_with fail
      refine (C.out _ (bal (brf _) _)).mono ?_
      rintro e w1 ⟨rfl, hb1⟩
      have c1 : w1.cell? ⟨w.heap.size, 1, none⟩ = some (.int .i64 m) := (hb1.cell (by simp)).trans (by unfold World.cell?; rw [heap_new]; rfl)
      have hB1 := btr (bal (brf _) _) hb1
      clear hb1
      go_wp2
      go_ret2
      exact ⟨by rw [hT.out, hS.out]; exact ret2 (str_eq (by simp [ByteArray.data_append, sAo, opn, nB, nI])) (str_eq (by simp [ByteArray.data_append, cls, nA, nB, nI])), hB1⟩

set_option maxHeartbeats 1000000 in
theorem names_any (w : World) :
    Calls Tryz.prog 128 #[] w fun e w' => e = .returned (.agg #[str nP, str nH1, str nLi, str nH2]) ∧ Below w.heap.size w w' := by
  go_enter Tryz.func128, Tryz.ntmps128
  go_wp2
  exact bodyPost_ret (v := .agg #[str nP, str nH1, str nLi, str nH2]) (by simp [results, Tryz.results128, go_sem, nP, nH1, nLi, nH2]) rfl ⟨rfl, bal (brf _) _⟩

theorem run1_le (x : It) (t : Bs) (hx : x.l.length ≤ 24) (ht : 1 ≤ t.length) : (run1 x t).length ≤ 179 * t.length := by
  have := run1_len x t hx
  omega

set_option maxRecDepth 100000 in
set_option maxHeartbeats 8000000 in
theorem block_any (F : Nat → Prop) (v : Value) (L : List It) (w : World) (h : RItems F w v L) (h80 : L.length ≤ 80) (hl : ∀ x ∈ L, x.l.length ≤ 24) (hm : ∃ m, w.cell? ⟨2, 0, none⟩ = some (.int .i64 m)) :
    Calls Tryz.prog 129 #[v] w fun e w' => e = .returned (str (blockX L)) ∧ Below w.heap.size w w' := by
  obtain ⟨a, cap, rfl, hn⟩ := RdS.len h
  have H := Lib.hid h
  have HL := Lib.hid hl
  have hM := Lib.hid (fun w' (hb : Below w.heap.size w w') => somec hm hb)
  clear h hl hm
  go_enter Tryz.func129, Tryz.ntmps129
  go_wp2
  go_loopw [4] (fun i wr => ∃ k : Nat, k ≤ L.length ∧ i = .int .i64 k ∧ ∃ out : Bs, out.length ≤ 179 * k ∧ Hid (blockX L = out ++ blockX (L.drop k)) ∧ IsBld w.heap.size w.heap.size out wr ∧ Below w.heap.size w wr) (fun i _ => L.length - (intOf i).toNat)
  case atStart => exact ⟨0, Nat.zero_le _, rfl, [], by simp, Lib.hid (by simp), IsBld.new w, bal (brf w) _⟩
  case round =>
    obtain ⟨k, hk, rfl, out, hout, hf, hbl, hb⟩ := hrel
    by_cases hlt : k < L.length
    · obtain ⟨x, hx⟩ : ∃ x, L[k]? = some x := ⟨_, List.getElem?_eq_getElem hlt⟩
      obtain ⟨b, o, rfl, c0, c1, c2⟩ := RItems.at H.out hb hx
      have hx24 := HL.out x (List.mem_of_getElem? hx)
      have hx' := Lib.hid hx
      have hbl' := Lib.hid hbl
      clear hx hbl
      obtain ⟨wo, hwo⟩ : ∃ wo, wo = wr := ⟨_, rfl⟩
      have hbo : Below wo.heap.size wo wr := by rw [hwo]; exact brf _
      rw [← hwo] at hb hbl' c0 c1 c2
      have hbw := Lib.hid hb
      have hD := Lib.hid (show (L.drop k)[0]? = some x by rw [List.getElem?_drop]; exact hx'.out)
      go_upto_block 2 with fail
      go_cut [5, 6] (fun kv tv wx => ∃ n : Nat, k < n ∧ n ≤ L.length ∧ kv = .int .i64 n ∧ Hid ((L.drop k).takeWhile (sameI x) = (L.drop k).take (n - k) ∧ (L.drop k).dropWhile (sameI x) = L.drop n) ∧ OwnS wo.heap.size 5 1 RB wx tv (((L.drop k).take (n - k)).map It.c) ∧ Below wo.heap.size wo wx)
      case first =>
        go_wp2
        go_loopw [5, 6] (fun kv tv wi => ∃ n : Nat, k ≤ n ∧ n ≤ L.length ∧ kv = .int .i64 n ∧ Hid (∀ (i : Nat) y, i < n - k → (L.drop k)[i]? = some y → sameI x y = true) ∧ OwnS wo.heap.size 5 1 RB wi tv (((L.drop k).take (n - k)).map It.c) ∧ Below wo.heap.size wo wi) (fun kv _ _ => L.length - (intOf kv).toNat)
        case atStart => exact ⟨k, Nat.le_refl _, by omega, rfl, Lib.hid (fun i y hi => by omega), by simpa using OwnS.nil, hbo⟩
        case round =>
          obtain ⟨n, hkn, hn2, rfl, hs, ho, hb'⟩ := hrel
          have ho' := Lib.hid ho
          clear ho c0 c1 c2
          by_cases hlt2 : n < L.length
          · obtain ⟨y, hy⟩ : ∃ y, L[n]? = some y := ⟨_, List.getElem?_eq_getElem hlt2⟩
            obtain ⟨b', o', e', d0, d1, d2⟩ := RItems.at H.out (btr hbw.out hb') hy
            cases e'
            obtain ⟨b', o', e', c0, c1, c2⟩ := RItems.at H.out (btr hbw.out hb') hx'.out
            cases e'
            have hyD := Lib.hid (show (L.drop k)[n - k]? = some y by rw [List.getElem?_drop, show k + (n - k) = n by omega]; exact hy)
            have q1 : (0 : Int) ≤ (n : Int) := by omega
            have q2 : (n : Int) < (L.length : Int) := by omega
            have q3 : (k : Int) < (L.length : Int) := by omega
            have q4 : (0 : Int) ≤ (k : Int) := by omega
            have dl : decide ((n : Int) < (L.length : Int)) = true := by simp; omega
            clear hy
            cases hM1 : (y.m == x.m) with
            | true =>
              cases hL1 : (y.l == x.l) with
              | true =>
                have hsm := Lib.hid (show sameI x y = true by unfold sameI; rw [hM1, hL1]; rfl)
                go_wp2
                go_quiet (fail)
                go_wp2_with (at_builtin; go_must (refine wpList_app1 rfl (.tmp 44) (.tmp 50) 41 rfl wo.heap.size 5 1 1 _ elBytes RB _ (((L.drop k).take (n - k)).map It.c) rfl ho'.out y.c [.int .u8 y.c.toNat] 5 _ rfl (by simp) rfl (fun _ _ => rfl) RB_one (by simp [maxLen]; omega) (by simp; omega) hb'.size (fun _ _ _ _ _ r => r) ?_); intro v2 w2 ho2 hb2 hz2 _)
                go_roundw
                case rel => exact ⟨n + 1, by omega, by omega, by go_num, Lib.hid (fun i z hi hz => by
                    by_cases hin : i = n - k
                    · subst hin
                      have := hyD.out
                      rw [this] at hz
                      cases hz
                      exact hsm.out
                    · exact hs.out i z (by omega) hz), by rw [show n + 1 - k = (n - k) + 1 by omega, List.take_add_one, hyD.out]; simpa using ho2, (bdrewN hb' _).trans hb2⟩
                case measure => simp [intOf]; omega
              | false =>
                have hfin := Lib.hid (tw_ofG (p := sameI x) (l := L.drop k) (k := n - k) hs.out (Or.inr ⟨y, hyD.out, by unfold sameI; rw [hM1, hL1]; rfl⟩))
                go_wp2
                go_quiet (fail)
                go_wp2
                go_meet
                exact ⟨n, by have := tw_pos hfin.out.1 hD.out; omega, by omega, rfl, Lib.hid ⟨hfin.out.1, by rw [hfin.out.2, List.drop_drop]; congr 1; omega⟩, ho'.out.below (bdrewN (brf _) _) (fun _ _ _ r => r), bdrewN hb' _⟩
            | false =>
              have hfin := Lib.hid (tw_ofG (p := sameI x) (l := L.drop k) (k := n - k) hs.out (Or.inr ⟨y, hyD.out, by unfold sameI; rw [hM1]; rfl⟩))
              go_wp2
              go_quiet (fail)
              go_wp2
              go_meet
              exact ⟨n, by have := tw_pos hfin.out.1 hD.out; omega, by omega, rfl, Lib.hid ⟨hfin.out.1, by rw [hfin.out.2, List.drop_drop]; congr 1; omega⟩, ho'.out.below (bdrewN (brf _) _) (fun _ _ _ r => r), bdrewN hb' _⟩
          · have hnn : n = L.length := by omega
            have hfin := Lib.hid (tw_ofG (p := sameI x) (l := L.drop k) (k := n - k) hs.out (Or.inl (by rw [List.length_drop, hnn])))
            have dl : decide ((n : Int) < (L.length : Int)) = false := by simp; omega
            clear hnn
            go_wp2
            go_quiet (fail)
            go_wp2
            go_meet
            exact ⟨n, by have := tw_pos hfin.out.1 hD.out; omega, by omega, rfl, Lib.hid ⟨hfin.out.1, by rw [hfin.out.2, List.drop_drop]; congr 1; omega⟩, ho'.out.below (bdrewN (brf _) _) (fun _ _ _ r => r), bdrewN hb' _⟩
      case rest =>
        obtain ⟨n, hkn, hn2, rfl, hrun, ho, hb'⟩ := hcut
        obtain ⟨T, hT⟩ : ∃ T : Bs, ((L.drop k).take (n - k)).map It.c = T := ⟨_, rfl⟩
        have hTl : T.length = n - k := by rw [← hT]; simp; omega
        rw [hT] at ho
        obtain ⟨ta, tc, rfl, _⟩ := RdS.len ho.rd
        have hnx : Hid (blockX (L.drop k) = run1 x T ++ blockX (L.drop n)) := Lib.hid (by
          have hd := hD.out
          cases hdk : L.drop k with
          | nil => rw [hdk] at hd; simp at hd
          | cons z r =>
            rw [hdk] at hd
            simp at hd
            subst hd
            rw [block_run, ← hdk, hrun.out.1, hT, hrun.out.2])
        have hrl := run1_le x T hx24 (by omega)
        obtain ⟨t1, t2⟩ := tagO_len x hx24
        have t3 := (write_len T).2
        have hr1 : run1 x T = tagO x ++ (writeE T ++ tagS x) := rfl
        have CT := Lib.hid (fun w' hm' => tags_any x w' hx24 hm')
        have CW := Lib.hid (fun w' hm' => escText_any T w' (by omega) hm')
        obtain ⟨R, hR⟩ : ∃ R, run1 x T = R := ⟨_, rfl⟩
        rw [hR] at hnx hrl hr1
        generalize tagO x = A at t1 hr1 CT
        generalize tagS x = B at t2 hr1 CT
        generalize writeE T = C at t3 hr1 CW
        have hRR := Lib.hid hr1
        obtain ⟨b', o', e', c0', c1', c2'⟩ := RItems.at H.out (btr hbw.out hb') hx'.out
        cases e'
        have hTz : T.length ≤ 80 := by omega
        have hTn := Lib.hid hTl
        have hO := Lib.hid ho
        have hB' := Lib.hid hb'
        clear hT hrun ho hr1 hR c0 c1 c2 hb' hbo hTl
        go_wp2_with fail
        refine (CT.out _ (hM.out _ (btr hbw.out hB'.out))).mono ?_
        rintro e w1 ⟨rfl, hb1⟩
        have hB1 := Lib.hid (btr hB'.out hb1)
        have hcv := run_string_of _ w1 _ T (hO.out.below hb1 (fun _ _ _ r => r)).rd
        clear c0' c1' c2' hb1
        go_wp2_with fail
        refine (CW.out _ (hM.out _ (btr hbw.out hB1.out))).mono ?_
        rintro e w2 ⟨rfl, hb2⟩
        have hB2 := Lib.hid (btr hB1.out hb2)
        clear hcv hb2
        go_wp2_with fail
        refine (bld_WriteString _ _ out _ _ (IsBld.below hbl'.out hB2.out) ?_ (Nat.le_trans hb.size hB2.out.size)).mono ?_
        · rw [ByteArray.size_append, ByteArray.size_append]
          show out.length + (A.length + C.length + B.length) ≤ 140737488355328
          omega
        rintro e w3 ⟨rfl, hbl3, hb3⟩
        have he : ((⟨A.toArray⟩ : ByteArray) ++ ⟨C.toArray⟩ ++ ⟨B.toArray⟩).data.toList = R := by rw [hRR.out]; simp [ByteArray.data_append]
        rw [he] at hbl3
        go_wp2
        go_roundw
        case rel => exact ⟨n, by omega, rfl, out ++ R, by simp; have := hTn.out; omega, Lib.hid (by rw [hf.out, hnx.out, List.append_assoc]), hbl3, (btr hb hB2.out).trans hb3⟩
        case measure => simp [intOf]; omega
    · obtain rfl : k = L.length := by omega
      rw [List.drop_length] at hf
      have hfin := Lib.hid hf.out
      clear hf
      go_wp2_with fail
      refine (bld_String _ _ out wr hbl hb.size).mono ?_
      rintro e w1 ⟨rfl, hb1⟩
      go_wp2
      go_ret
      exact ⟨by rw [hfin.out]; simp [blockX], hb.trans hb1⟩
end Go.Proofs.YteikncnldbdfmaaGreatDoor
/- Package export: Page. -/
namespace Go.Mh
def exportP (L : List It) : Bs × Int := if chkDoc L = 0 then (pageX L, 0) else ([], chkDoc L)
theorem pageS_nl {x : It} {d acc : List It} {ls : Bool} (h : (x.c.toNat : Int) = 10) : pageS ls acc (x :: d) = ulT ls (decide (x.m = 2)) ++ ((60 :: nameOf x.m) ++ [62] ++ blockX acc ++ [60, 47] ++ nameOf x.m ++ [62]) ++ pageS (decide (x.m = 2)) [] d := by
  rw [pageS, if_pos h]
  simp [opn, cls]
theorem pageS_ch {x : It} {d acc : List It} {ls : Bool} (h : ¬ (x.c.toNat : Int) = 10) : pageS ls acc (x :: d) = pageS ls (acc ++ [x]) d := by
  rw [pageS, if_neg h]
theorem nameOf_len (m : Int) : (nameOf m).length ≤ 2 := by
  unfold nameOf
  split
  · decide
  · split
    · decide
    · split <;> decide
end Go.Mh
namespace Go.Proofs.YteikncnldbdfmaaGreatDoor
open Go.RowKit Go.Mh

theorem lt_of_bld {B b : Nat} {l : Bs} {w : World} (h : IsBld B b l w) : b < w.heap.size := by
  rcases h with ⟨_, _, h, _⟩ | ⟨_, _, h, _⟩ <;> exact lt_of_heap h

theorem names_at (m : Int) (h0 : 0 ≤ m) (h3 : m ≤ 3) (w : World) : (Instr.index 182 (.agg #[str nP, str nH1, str nLi, str nH2]) (.int .i64 m)).run Tryz.prog w = .ok (str (nameOf m)) w := by
  rcases (by omega : m = 0 ∨ m = 1 ∨ m = 2 ∨ m = 3) with rfl | rfl | rfl | rfl <;>
    simp [Instr.index, run_underlying Tryz.underlying182, asIntOf, go_sem, nameOf]

set_option maxRecDepth 100000 in
set_option maxHeartbeats 8000000 in
theorem exportPage_any (F : Nat → Prop) (v : Value) (L : List It) (w : World) (h : RItems F w v L) (hm : ∃ m, w.cell? ⟨2, 0, none⟩ = some (.int .i64 m)) :
    Calls Tryz.prog 74 #[v] w fun e w' => e = .returned (.tuple #[str (exportP L).1, .int .i64 (exportP L).2]) ∧ Below w.heap.size w w' := by
  have hchk := Lib.hid (check_any F v L w h)
  by_cases hc : chkDoc L = 0
  · have hR := Lib.hid (show exportP L = (pageX L, 0) from if_pos hc)
    have hlen := Lib.hid (pageX_len hc)
    obtain ⟨hit, h80, _⟩ := doc_facts hc
    have HI := Lib.hid (fun x hx => item_parts (hit x hx))
    have HL : Hid (∀ x ∈ L, x.l.length ≤ 24) := Lib.hid (fun x hx => by
      rcases (item_parts (hit x hx)).2.1 with e | e
      · rw [e]; simp
      · exact may_len e)
    obtain ⟨a, cap, rfl, hn⟩ := RdS.len h
    have H := Lib.hid h
    have hM := Lib.hid (fun w' (hb : Below w.heap.size w w') => somec hm hb)
    rw [hc] at hchk
    clear h hm hc hit
    go_enter Tryz.func74, Tryz.ntmps74
    go_wp2_with fail
    refine hchk.out.mono ?_
    rintro e w1 ⟨rfl, hb1⟩
    have hb1' := Lib.hid hb1
    clear hb1 hchk
    go_wp2
    go_loopw [6, 7, 19] (fun lv fv iv wr => ∃ (ls : Bool) (f i : Nat), f ≤ i ∧ i ≤ L.length ∧ lv = .bool ls ∧ fv = .int .i64 f ∧ iv = .int .i64 i ∧ ∃ out : Bs, Hid (pageX L = out ++ pageS ls ((L.take i).drop f) (L.drop i)) ∧ IsBld w1.heap.size w1.heap.size out wr ∧ Below w1.heap.size w1 wr) (fun _ _ iv _ => L.length - (intOf iv).toNat)
    case atStart => exact ⟨false, 0, 0, Nat.le_refl _, Nat.zero_le _, rfl, rfl, rfl, [], Lib.hid (by simp [pageX]), IsBld.new w1, bal (brf w1) _⟩
    case round =>
      obtain ⟨ls, f, i, hfi, hi, rfl, rfl, rfl, out, hf, hbl, hb⟩ := hrel
      have hol : out.length ≤ 20000 := by have := hlen.out; have e := hf.out; rw [e] at this; simp at this; omega
      by_cases hlt : i < L.length
      · obtain ⟨x, hx⟩ : ∃ x, L[i]? = some x := ⟨_, List.getElem?_eq_getElem hlt⟩
        obtain ⟨b, o, rfl, c0, c1, c2⟩ := RItems.at H.out (btr hb1'.out hb) hx
        have hdrop : L.drop i = x :: L.drop (i + 1) := by rw [List.drop_eq_getElem_cons hlt, (List.getElem?_eq_some_iff.1 hx).2]
        have hx' := Lib.hid hx
        obtain ⟨hmk, _, _⟩ := HI.out x (List.mem_of_getElem? hx)
        clear hx
        by_cases hcb : (x.c.toNat : Int) = 10
        · have hcb' : ((x.c.toNat : Int) != 10) = false := by simpa using hcb
          obtain ⟨is, his⟩ : ∃ is, decide (x.m = 2) = is := ⟨_, rfl⟩
          have hm2 : (x.m == 2) = is := by rw [← his]; rw [Bool.eq_iff_iff]; simp
          have hnx := Lib.hid (show pageX L = out ++ (ulT ls is ++ ((60 :: nameOf x.m) ++ [62] ++ blockX ((L.take i).drop f) ++ [60, 47] ++ nameOf x.m ++ [62]) ++ pageS is [] (L.drop (i + 1))) by
            rw [hf.out, hdrop, pageS_nl hcb, his])
          have hbl' := Lib.hid (hbl.below (bal (brf _) (.cells #[.int .u8 x.c.toNat, .int .i64 x.m, str x.l] 58)))
          have hbx : Hid ((wr.alloc (.cells #[.int .u8 x.c.toNat, .int .i64 x.m, str x.l] 58)).heap[wr.heap.size]? = some (.cells #[.int .u8 x.c.toNat, .int .i64 x.m, str x.l] 58 (0, 0))) := Lib.hid (heap_new _ _)
          have hbA := Lib.hid (bal hb (.cells #[.int .u8 x.c.toNat, .int .i64 x.m, str x.l] 58))
          have hlt1 := lt_of_bld hbl
          clear hf hdrop hcb hbl his
          go_upto_if 32 with fail
          refine name_world ?_
          intro wA hwA
          rw [hwA] at hbl' hbx hbA
          clear hwA
          go_cut [6] (fun lv wx => lv = .bool is ∧ IsBld w1.heap.size w1.heap.size (out ++ ulT ls is) wx ∧ wx.heap[wr.heap.size]? = some (.cells #[.int .u8 x.c.toNat, .int .i64 x.m, str x.l] 58 (0, 0)) ∧ Below w1.heap.size w1 wx)
          case first =>
            cases is <;> cases ls
            · go_wp2
              go_meet
              exact ⟨rfl, by simpa [ulT] using hbl'.out, hbx.out, hbA.out⟩
            · go_wp2_with fail
              refine (bld_WriteString_o w1.heap.size w1.heap.size out ⟨#[60, 47, 117, 108, 62]⟩ wA hbl'.out (by show out.length + 5 ≤ _; omega) hbA.out.size).mono ?_
              rintro e w2 ⟨rfl, hbl2, hb2, ho2⟩
              go_wp2
              go_meet
              exact ⟨rfl, hbl2, ho2 _ _ hbx.out (by simp; omega) (by intro c fz e; cases e), hbA.out.trans hb2⟩
            · go_wp2_with fail
              refine (bld_WriteString_o w1.heap.size w1.heap.size out ⟨#[60, 117, 108, 62]⟩ wA hbl'.out (by show out.length + 4 ≤ _; omega) hbA.out.size).mono ?_
              rintro e w2 ⟨rfl, hbl2, hb2, ho2⟩
              go_wp2
              go_meet
              exact ⟨rfl, hbl2, ho2 _ _ hbx.out (by simp; omega) (by intro c fz e; cases e), hbA.out.trans hb2⟩
            · go_wp2
              go_meet
              exact ⟨rfl, by simpa [ulT] using hbl'.out, hbx.out, hbA.out⟩
          case rest =>
            obtain ⟨rfl, hbl2, hbx2, hb2⟩ := hcut
            have hbl2' := Lib.hid hbl2
            have hbx2' := Lib.hid hbx2
            have hb2' := Lib.hid hb2
            have hoU : (out ++ ulT ls is).length ≤ 20005 := by
              have : (ulT ls is).length ≤ 5 := by cases ls <;> cases is <;> decide
              simp; omega
            have hnm := names_at x.m hmk.1 hmk.2
            clear hbl2 hbx2 hb2 hbl' hbx hbA c0 c1 c2
            go_upto_region 17 with fail
            go_cut [11] (fun nv wx => nv = str (nameOf x.m) ∧ IsBld w1.heap.size w1.heap.size (out ++ ulT ls is) wx ∧ Below w1.heap.size w1 wx)
            case first =>
              have q1 : wc.cell? ⟨wr.heap.size, 1, none⟩ = some (.int .i64 x.m) := by unfold World.cell?; rw [hbx2'.out]; rfl
              go_region_with (go_at_call 128; refine (names_any _).mono ?_; rintro e w4 ⟨rfl, hb4⟩; have q2 := (hb4.cell (p := ⟨wr.heap.size, 1, none⟩) (lt_of_cell q1)).trans q1)
              all_goals
                go_wp2
                go_meet
                exact ⟨rfl, IsBld.below (w := wc.drew) hbl2'.out hb4, hb2'.out.drew.trans (hb4.mono hb2'.out.size)⟩
            case rest =>
              obtain ⟨rfl, hbl3, hb3⟩ := hcut
              have hbl3' := Lib.hid hbl3
              have hb3' := Lib.hid hb3
              have hil : i ≤ L.length := hi
              have hic : i ≤ cap := by have := H.out.capLe; omega
              have hcf : ¬ cap = f := by have := H.out.capLe; omega
              have hN := nameOf_len x.m
              have hacc : ((L.take i).drop f).length ≤ 80 := by simp; omega
              have hA24 : ∀ y ∈ (L.take i).drop f, y.l.length ≤ 24 := fun y hy => HL.out y (List.mem_of_mem_take (List.mem_of_mem_drop hy))
              have hX := blockX_len _ hA24
              have hrd := Lib.hid (fun w' (hb : Below w.heap.size w w') => RdS.dropC ((H.out.to (F' := F) (fun k hk hlt => ⟨hk, hb.block k hlt⟩)).take i hi) f hfi)
              have CB := Lib.hid (fun w' hb hm' => block_any F _ _ w' (hrd.out w' hb) hacc hA24 hm')
              obtain ⟨acc, hac⟩ : ∃ acc, (L.take i).drop f = acc := ⟨_, rfl⟩
              rw [hac] at hnx hX CB hacc
              generalize blockX acc = X at hnx hX CB
              generalize nameOf x.m = N at hnx hN
              clear hac hA24 hrd hbl3 hb3 hbl2' hbx2' hb2' hnm hi
              go_wp2_with fail
              refine (CB.out _ (btr hb1'.out hb3'.out) (hM.out _ (btr hb1'.out hb3'.out))).mono ?_
              rintro e w5 ⟨rfl, hb5⟩
              have hB5 := Lib.hid (btr hb3'.out hb5)
              have hbl5 := Lib.hid (hbl3'.out.below hb5)
              clear hb5 CB hbl3' hb3'
              go_wp2_with fail
              refine (bld_WriteString _ _ (out ++ ulT ls is) _ _ hbl5.out ?_ hB5.out.size).mono ?_
              · simp only [ByteArray.size_append]
                show (out ++ ulT ls is).length + (1 + N.length + 1 + X.length + 2 + N.length + 1) ≤ 140737488355328
                omega
              rintro e w6 ⟨rfl, hbl6, hb6⟩
              have hfin : pageX L = ((out ++ ulT ls is) ++ ((⟨#[60]⟩ : ByteArray) ++ ⟨N.toArray⟩ ++ ⟨#[62]⟩ ++ ⟨X.toArray⟩ ++ ⟨#[60, 47]⟩ ++ ⟨N.toArray⟩ ++ ⟨#[62]⟩).data.toList) ++ pageS is [] (L.drop (i + 1)) := by
                rw [hnx.out]; simp [ByteArray.data_append]
              have hfin' := Lib.hid hfin
              clear hfin hnx
              go_wp2
              go_roundw
              case rel => exact ⟨is, i + 1, i + 1, Nat.le_refl _, by omega, rfl, by go_num, by go_num, _, by rw [List.drop_eq_nil_of_le (by simp; omega)]; exact hfin', hbl6, hB5.out.trans hb6⟩
              case measure => simp [intOf]; omega
        · have hcb' : ((x.c.toNat : Int) != 10) = true := by simpa using hcb
          have hnx : Hid (pageX L = out ++ pageS ls ((L.take (i + 1)).drop f) (L.drop (i + 1))) := Lib.hid (by
            rw [hf.out, hdrop, pageS_ch hcb, List.take_add_one, hx'.out, List.drop_append_of_le_length (by simp; omega)]
            rfl)
          have hbl' := Lib.hid hbl
          clear hf hdrop hcb hbl
          go_wp2
          go_roundw
          case rel => exact ⟨ls, f, i + 1, by omega, by omega, rfl, rfl, by go_num, out, hnx, hbl'.out.below (bal (brf _) _), bal hb _⟩
          case measure => simp [intOf]; omega
      · obtain rfl : i = L.length := by omega
        rw [List.drop_length] at hf
        have hbl' := Lib.hid hbl
        clear hbl
        cases ls with
        | true =>
          have hfin := Lib.hid (show pageX L = out ++ [60, 47, 117, 108, 62] from hf.out)
          clear hf
          go_wp2_with fail
          refine (bld_WriteString _ _ out ⟨#[60, 47, 117, 108, 62]⟩ wr hbl'.out (by show out.length + 5 ≤ _; omega) hb.size).mono ?_
          rintro e w2 ⟨rfl, hbl2, hb2⟩
          have hB2 := hb.trans hb2
          go_wp2_with fail
          refine (bld_String _ _ _ w2 hbl2 hB2.size).mono ?_
          rintro e w3 ⟨rfl, hb3⟩
          go_wp2
          go_ret2
          exact ⟨by rw [hR.out, hfin.out]; rfl, btr hb1'.out (hB2.trans hb3)⟩
        | false =>
          have hfin := Lib.hid (show pageX L = out by rw [hf.out]; simp [pageS])
          clear hf
          go_wp2_with fail
          refine (bld_String _ _ out wr hbl'.out hb.size).mono ?_
          rintro e w3 ⟨rfl, hb3⟩
          go_wp2
          go_ret2
          exact ⟨by rw [hR.out, hfin.out]; rfl, btr hb1'.out (hb.trans hb3)⟩
  · have hR := Lib.hid (show exportP L = ([], chkDoc L) from if_neg hc)
    have hc' : (chkDoc L != 0) = true := by simpa using hc
    clear hc h hm
    go_enter Tryz.func74, Tryz.ntmps74
    go_wp2_with fail
    refine hchk.out.mono ?_
    rintro e w1 ⟨rfl, hb1⟩
    go_wp2
    go_ret2
    exact ⟨by rw [hR.out]; rfl, hb1⟩
end Go.Proofs.YteikncnldbdfmaaGreatDoor
