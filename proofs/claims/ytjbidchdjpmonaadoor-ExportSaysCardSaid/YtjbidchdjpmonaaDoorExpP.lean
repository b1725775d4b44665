/- Package export: Page. -/
import Derived.Test.YtjbidchdjpmonaaDoorExp
import Derived.Test.YtjbidchdjpmonaaDoorBldO
import Derived.Test.YtjbidchdjpmonaaDoorTac
import Derived.RegionTactic
namespace Go.Mh
def exportP (L : List It) : Bs × Int := if chkDoc L = 0 then (pageX L, 0) else ([], chkDoc L)
theorem pageS_nl {x : It} {d acc : List It} {ls : Bool} (h : (x.c.toNat : Int) = 10) : pageS ls acc (x :: d) = ulT ls (decide (x.m = 2)) ++ ((60 :: nameOf x.m) ++ [62] ++ blockX acc ++ [60, 47] ++ nameOf x.m ++ [62]) ++ pageS (decide (x.m = 2)) [] d := by
  rw [pageS, if_pos h]
  simp [opn, cls]
theorem pageS_ch {x : It} {d acc : List It} {ls : Bool} (h : ¬ (x.c.toNat : Int) = 10) : pageS ls acc (x :: d) = pageS ls (acc ++ [x]) d := by
  rw [pageS, if_neg h]
theorem nameOf_len (m : Int) : (nameOf m).length ≤ 2 := by
  unfold nameOf
  split
  · decide
  · split
    · decide
    · split <;> decide
end Go.Mh
namespace Go.Proofs.YtjbidchdjpmonaaDoor
open Go.RowKit Go.Mh

theorem lt_of_bld {B b : Nat} {l : Bs} {w : World} (h : IsBld B b l w) : b < w.heap.size := by
  rcases h with ⟨_, _, h, _⟩ | ⟨_, _, h, _⟩ <;> exact lt_of_heap h

theorem names_at (m : Int) (h0 : 0 ≤ m) (h3 : m ≤ 3) (w : World) : (Instr.index 75 (.agg #[str nP, str nH1, str nLi, str nH2]) (.int .i64 m)).run Tryd.prog w = .ok (str (nameOf m)) w := by
  rcases (by omega : m = 0 ∨ m = 1 ∨ m = 2 ∨ m = 3) with rfl | rfl | rfl | rfl <;>
    simp [Instr.index, run_underlying Tryd.underlying75, asIntOf, go_sem, nameOf]

set_option maxRecDepth 100000 in
set_option maxHeartbeats 8000000 in
theorem exportPage_any (F : Nat → Prop) (v : Value) (L : List It) (w : World) (h : RItems F w v L) (hm : ∃ m, w.cell? ⟨0, 0, none⟩ = some (.int .i64 m)) :
    Calls Tryd.prog 29 #[v] w fun e w' => e = .returned (.tuple #[str (exportP L).1, .int .i64 (exportP L).2]) ∧ Below w.heap.size w w' := by
  have hchk := Lib.hid (check_any F v L w h)
  by_cases hc : chkDoc L = 0
  · have hR := Lib.hid (show exportP L = (pageX L, 0) from if_pos hc)
    have hlen := Lib.hid (pageX_len hc)
    obtain ⟨hit, h80, _⟩ := doc_facts hc
    have HI := Lib.hid (fun x hx => item_parts (hit x hx))
    have HL : Hid (∀ x ∈ L, x.l.length ≤ 24) := Lib.hid (fun x hx => by
      rcases (item_parts (hit x hx)).2.1 with e | e
      · rw [e]; simp
      · exact may_len e)
    obtain ⟨a, cap, rfl, hn⟩ := RdS.len h
    have H := Lib.hid h
    have hM := Lib.hid (fun w' (hb : Below w.heap.size w w') => somec hm hb)
    rw [hc] at hchk
    clear h hm hc hit
    go_enter Tryd.func29, Tryd.ntmps29
    go_wp2_with fail
    refine hchk.out.mono ?_
    rintro e w1 ⟨rfl, hb1⟩
    have hb1' := Lib.hid hb1
    clear hb1 hchk
    go_wp2
    go_loopw [6, 7, 19] (fun lv fv iv wr => ∃ (ls : Bool) (f i : Nat), f ≤ i ∧ i ≤ L.length ∧ lv = .bool ls ∧ fv = .int .i64 f ∧ iv = .int .i64 i ∧ ∃ out : Bs, Hid (pageX L = out ++ pageS ls ((L.take i).drop f) (L.drop i)) ∧ IsBld w1.heap.size w1.heap.size out wr ∧ Below w1.heap.size w1 wr) (fun _ _ iv _ => L.length - (intOf iv).toNat)
    case atStart => exact ⟨false, 0, 0, Nat.le_refl _, Nat.zero_le _, rfl, rfl, rfl, [], Lib.hid (by simp [pageX]), IsBld.new w1, bal (brf w1) _⟩
    case round =>
      obtain ⟨ls, f, i, hfi, hi, rfl, rfl, rfl, out, hf, hbl, hb⟩ := hrel
      have hol : out.length ≤ 20000 := by have := hlen.out; have e := hf.out; rw [e] at this; simp at this; omega
      by_cases hlt : i < L.length
      · obtain ⟨x, hx⟩ : ∃ x, L[i]? = some x := ⟨_, List.getElem?_eq_getElem hlt⟩
        obtain ⟨b, o, rfl, c0, c1, c2⟩ := RItems.at H.out (btr hb1'.out hb) hx
        have hdrop : L.drop i = x :: L.drop (i + 1) := by rw [List.drop_eq_getElem_cons hlt, (List.getElem?_eq_some_iff.1 hx).2]
        have hx' := Lib.hid hx
        obtain ⟨hmk, _, _⟩ := HI.out x (List.mem_of_getElem? hx)
        clear hx
        by_cases hcb : (x.c.toNat : Int) = 10
        · have hcb' : ((x.c.toNat : Int) != 10) = false := by simpa using hcb
          obtain ⟨is, his⟩ : ∃ is, decide (x.m = 2) = is := ⟨_, rfl⟩
          have hm2 : (x.m == 2) = is := by rw [← his]; rw [Bool.eq_iff_iff]; simp
          have hnx := Lib.hid (show pageX L = out ++ (ulT ls is ++ ((60 :: nameOf x.m) ++ [62] ++ blockX ((L.take i).drop f) ++ [60, 47] ++ nameOf x.m ++ [62]) ++ pageS is [] (L.drop (i + 1))) by
            rw [hf.out, hdrop, pageS_nl hcb, his])
          have hbl' := Lib.hid (hbl.below (bal (brf _) (.cells #[.int .u8 x.c.toNat, .int .i64 x.m, str x.l] 38)))
          have hbx : Hid ((wr.alloc (.cells #[.int .u8 x.c.toNat, .int .i64 x.m, str x.l] 38)).heap[wr.heap.size]? = some (.cells #[.int .u8 x.c.toNat, .int .i64 x.m, str x.l] 38 (0, 0))) := Lib.hid (heap_new _ _)
          have hbA := Lib.hid (bal hb (.cells #[.int .u8 x.c.toNat, .int .i64 x.m, str x.l] 38))
          have hlt1 := lt_of_bld hbl
          clear hf hdrop hcb hbl his
          go_upto_if 32 with fail
          refine name_world ?_
          intro wA hwA
          rw [hwA] at hbl' hbx hbA
          clear hwA
          go_cut [6] (fun lv wx => lv = .bool is ∧ IsBld w1.heap.size w1.heap.size (out ++ ulT ls is) wx ∧ wx.heap[wr.heap.size]? = some (.cells #[.int .u8 x.c.toNat, .int .i64 x.m, str x.l] 38 (0, 0)) ∧ Below w1.heap.size w1 wx)
          case first =>
            cases is <;> cases ls
            · go_wp2
              go_meet
              exact ⟨rfl, by simpa [ulT] using hbl'.out, hbx.out, hbA.out⟩
            · go_wp2_with fail
              refine (bld_WriteString_o w1.heap.size w1.heap.size out ⟨#[60, 47, 117, 108, 62]⟩ wA hbl'.out (by show out.length + 5 ≤ _; omega) hbA.out.size).mono ?_
              rintro e w2 ⟨rfl, hbl2, hb2, ho2⟩
              go_wp2
              go_meet
              exact ⟨rfl, hbl2, ho2 _ _ hbx.out (by simp; omega) (by intro c fz e; cases e), hbA.out.trans hb2⟩
            · go_wp2_with fail
              refine (bld_WriteString_o w1.heap.size w1.heap.size out ⟨#[60, 117, 108, 62]⟩ wA hbl'.out (by show out.length + 4 ≤ _; omega) hbA.out.size).mono ?_
              rintro e w2 ⟨rfl, hbl2, hb2, ho2⟩
              go_wp2
              go_meet
              exact ⟨rfl, hbl2, ho2 _ _ hbx.out (by simp; omega) (by intro c fz e; cases e), hbA.out.trans hb2⟩
            · go_wp2
              go_meet
              exact ⟨rfl, by simpa [ulT] using hbl'.out, hbx.out, hbA.out⟩
          case rest =>
            obtain ⟨rfl, hbl2, hbx2, hb2⟩ := hcut
            have hbl2' := Lib.hid hbl2
            have hbx2' := Lib.hid hbx2
            have hb2' := Lib.hid hb2
            have hoU : (out ++ ulT ls is).length ≤ 20005 := by
              have : (ulT ls is).length ≤ 5 := by cases ls <;> cases is <;> decide
              simp; omega
            have hnm := names_at x.m hmk.1 hmk.2
            clear hbl2 hbx2 hb2 hbl' hbx hbA c0 c1 c2
            go_upto_region 17 with fail
            go_cut [11] (fun nv wx => nv = str (nameOf x.m) ∧ IsBld w1.heap.size w1.heap.size (out ++ ulT ls is) wx ∧ Below w1.heap.size w1 wx)
            case first =>
              have q1 : wc.cell? ⟨wr.heap.size, 1, none⟩ = some (.int .i64 x.m) := by unfold World.cell?; rw [hbx2'.out]; rfl
              go_region_with (go_at_call 68; refine (names_any _).mono ?_; rintro e w4 ⟨rfl, hb4⟩; have q2 := (hb4.cell (p := ⟨wr.heap.size, 1, none⟩) (lt_of_cell q1)).trans q1)
              all_goals
                go_wp2
                go_meet
                exact ⟨rfl, IsBld.below (w := wc.drew) hbl2'.out hb4, hb2'.out.drew.trans (hb4.mono hb2'.out.size)⟩
            case rest =>
              obtain ⟨rfl, hbl3, hb3⟩ := hcut
              have hbl3' := Lib.hid hbl3
              have hb3' := Lib.hid hb3
              have hil : i ≤ L.length := hi
              have hic : i ≤ cap := by have := H.out.capLe; omega
              have hcf : ¬ cap = f := by have := H.out.capLe; omega
              have hN := nameOf_len x.m
              have hacc : ((L.take i).drop f).length ≤ 80 := by simp; omega
              have hA24 : ∀ y ∈ (L.take i).drop f, y.l.length ≤ 24 := fun y hy => HL.out y (List.mem_of_mem_take (List.mem_of_mem_drop hy))
              have hX := blockX_len _ hA24
              have hrd := Lib.hid (fun w' (hb : Below w.heap.size w w') => RdS.dropC ((H.out.to (F' := F) (fun k hk hlt => ⟨hk, hb.block k hlt⟩)).take i hi) f hfi)
              have CB := Lib.hid (fun w' hb hm' => block_any F _ _ w' (hrd.out w' hb) hacc hA24 hm')
              obtain ⟨acc, hac⟩ : ∃ acc, (L.take i).drop f = acc := ⟨_, rfl⟩
              rw [hac] at hnx hX CB hacc
              generalize blockX acc = X at hnx hX CB
              generalize nameOf x.m = N at hnx hN
              clear hac hA24 hrd hbl3 hb3 hbl2' hbx2' hb2' hnm hi
              go_wp2_with fail
              refine (CB.out _ (btr hb1'.out hb3'.out) (hM.out _ (btr hb1'.out hb3'.out))).mono ?_
              rintro e w5 ⟨rfl, hb5⟩
              have hB5 := Lib.hid (btr hb3'.out hb5)
              have hbl5 := Lib.hid (hbl3'.out.below hb5)
              clear hb5 CB hbl3' hb3'
              go_wp2_with fail
              refine (bld_WriteString _ _ (out ++ ulT ls is) _ _ hbl5.out ?_ hB5.out.size).mono ?_
              · simp only [ByteArray.size_append]
                show (out ++ ulT ls is).length + (1 + N.length + 1 + X.length + 2 + N.length + 1) ≤ 140737488355328
                omega
              rintro e w6 ⟨rfl, hbl6, hb6⟩
              have hfin : pageX L = ((out ++ ulT ls is) ++ ((⟨#[60]⟩ : ByteArray) ++ ⟨N.toArray⟩ ++ ⟨#[62]⟩ ++ ⟨X.toArray⟩ ++ ⟨#[60, 47]⟩ ++ ⟨N.toArray⟩ ++ ⟨#[62]⟩).data.toList) ++ pageS is [] (L.drop (i + 1)) := by
                rw [hnx.out]; simp [ByteArray.data_append]
              have hfin' := Lib.hid hfin
              clear hfin hnx
              go_wp2
              go_roundw
              case rel => exact ⟨is, i + 1, i + 1, Nat.le_refl _, by omega, rfl, by go_num, by go_num, _, by rw [List.drop_eq_nil_of_le (by simp; omega)]; exact hfin', hbl6, hB5.out.trans hb6⟩
              case measure => simp [intOf]; omega
        · have hcb' : ((x.c.toNat : Int) != 10) = true := by simpa using hcb
          have hnx : Hid (pageX L = out ++ pageS ls ((L.take (i + 1)).drop f) (L.drop (i + 1))) := Lib.hid (by
            rw [hf.out, hdrop, pageS_ch hcb, List.take_add_one, hx'.out, List.drop_append_of_le_length (by simp; omega)]
            rfl)
          have hbl' := Lib.hid hbl
          clear hf hdrop hcb hbl
          go_wp2
          go_roundw
          case rel => exact ⟨ls, f, i + 1, by omega, by omega, rfl, rfl, by go_num, out, hnx, hbl'.out.below (bal (brf _) _), bal hb _⟩
          case measure => simp [intOf]; omega
      · obtain rfl : i = L.length := by omega
        rw [List.drop_length] at hf
        have hbl' := Lib.hid hbl
        clear hbl
        cases ls with
        | true =>
          have hfin := Lib.hid (show pageX L = out ++ [60, 47, 117, 108, 62] from hf.out)
          clear hf
          go_wp2_with fail
          refine (bld_WriteString _ _ out ⟨#[60, 47, 117, 108, 62]⟩ wr hbl'.out (by show out.length + 5 ≤ _; omega) hb.size).mono ?_
          rintro e w2 ⟨rfl, hbl2, hb2⟩
          have hB2 := hb.trans hb2
          go_wp2_with fail
          refine (bld_String _ _ _ w2 hbl2 hB2.size).mono ?_
          rintro e w3 ⟨rfl, hb3⟩
          go_wp2
          go_ret2
          exact ⟨by rw [hR.out, hfin.out]; rfl, btr hb1'.out (hB2.trans hb3)⟩
        | false =>
          have hfin := Lib.hid (show pageX L = out by rw [hf.out]; simp [pageS])
          clear hf
          go_wp2_with fail
          refine (bld_String _ _ out wr hbl'.out hb.size).mono ?_
          rintro e w3 ⟨rfl, hb3⟩
          go_wp2
          go_ret2
          exact ⟨by rw [hR.out, hfin.out]; rfl, btr hb1'.out (hb.trans hb3)⟩
  · have hR := Lib.hid (show exportP L = ([], chkDoc L) from if_neg hc)
    have hc' : (chkDoc L != 0) = true := by simpa using hc
    clear hc h hm
    go_enter Tryd.func29, Tryd.ntmps29
    go_wp2_with fail
    refine hchk.out.mono ?_
    rintro e w1 ⟨rfl, hb1⟩
    go_wp2
    go_ret2
    exact ⟨by rw [hR.out]; rfl, hb1⟩
end Go.Proofs.YtjbidchdjpmonaaDoor
