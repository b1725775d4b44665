/- The references on pages: PageOf. -/
import Derived.Test.YtjbidchdjpmonaaDoorPlPg
import Derived.Test.YtjbidchdjpmonaaDoorExpP
import Derived.Test.YtjbidchdjpmonaaDoorWr
import Derived.RegionTactic
import Derived.Test.YtjbidchdjpmonaaDoorTwo
namespace Go.Proofs.YtjbidchdjpmonaaDoor
open Go.RowKit Go.Mh

/-- The three captured variables: the text of a run, its last item, what is inside. -/
structure Pg (gt gl gi : Nat) (w : World) (text : Bs) (last : It) (inside : Bs) : Prop where
  ht : w.heap[gt]? = some (.cells #[str text] 9 (0, 0))
  hl : w.heap[gl]? = some (.cells #[.int .u8 last.c.toNat, .int .i64 last.m, str last.l] 38 (0, 0))
  hi : w.heap[gi]? = some (.cells #[str inside] 9 (0, 0))
  ne : gt ≠ gi

theorem cellAt {w : World} {g T i : Nat} {xs : Array Value} {v : Value} {fr : Nat × Nat} (h : w.heap[g]? = some (.cells xs T fr)) (e : xs[i]? = some v) : w.cell? ⟨g, i, none⟩ = some v := by unfold World.cell?; rw [h]; exact e
theorem fzAt {w : World} {g T i : Nat} {xs : Array Value} (h : w.heap[g]? = some (.cells xs T (0, 0))) : w.frozen? ⟨g, i, none⟩ = false := by simp [World.frozen?, h]

section
variable {gt gl gi : Nat} {w w' : World} {text inside : Bs} {last : It}
theorem Pg.setL (h : Pg gt gl gi w text last inside) (x : It) (h1 : gl ≠ gt) (h2 : gl ≠ gi) : Pg gt gl gi (((w.setCell ⟨gl, 0, none⟩ (.int .u8 x.c.toNat)).setCell ⟨gl, 1, none⟩ (.int .i64 x.m)).setCell ⟨gl, 2, none⟩ (str x.l)) text x inside := by
  refine ⟨(heap_setCell_other _ _ gt _ (Ne.symm h1)).trans ((heap_setCell_other _ _ gt _ (Ne.symm h1)).trans ((heap_setCell_other w _ gt _ (Ne.symm h1)).trans h.ht)), ?_, (heap_setCell_other _ _ gi _ (Ne.symm h2)).trans ((heap_setCell_other _ _ gi _ (Ne.symm h2)).trans ((heap_setCell_other w _ gi _ (Ne.symm h2)).trans h.hi)), h.ne⟩
  have k1 := heap_setCell_same w gl 0 _ _ (.int .u8 x.c.toNat) h.hl
  have k2 := heap_setCell_same _ gl 1 _ _ (.int .i64 x.m) k1
  have k3 := heap_setCell_same _ gl 2 _ _ (str x.l) k2
  simpa using k3
theorem Pg.below (h : Pg gt gl gi w text last inside) (hb : Below w.heap.size w w') : Pg gt gl gi w' text last inside :=
  ⟨(hb.block _ (lt_of_heap h.ht)).trans h.ht, (hb.block _ (lt_of_heap h.hl)).trans h.hl, (hb.block _ (lt_of_heap h.hi)).trans h.hi, h.ne⟩
theorem Pg.nes (h : Pg gt gl gi w text last inside) : gl ≠ gt ∧ gl ≠ gi :=
  ⟨fun e => by have k1 := h.hl; have k2 := h.ht; subst e; rw [k1] at k2; simp at k2, fun e => by have k1 := h.hl; have k2 := h.hi; subst e; rw [k1] at k2; simp at k2⟩
theorem Pg.setI (h : Pg gt gl gi w text last inside) (s : Bs) : Pg gt gl gi (w.setCell ⟨gi, 0, none⟩ (str s)) text last s := by
  refine ⟨(heap_setCell_other w _ gt _ h.ne).trans h.ht, (heap_setCell_other w _ gl _ h.nes.2).trans h.hl, ?_, h.ne⟩
  simpa using heap_setCell_same w gi 0 _ _ (str s) h.hi
theorem Pg.setT (h : Pg gt gl gi w text last inside) (s : Bs) : Pg gt gl gi (w.setCell ⟨gt, 0, none⟩ (str s)) s last inside := by
  refine ⟨?_, (heap_setCell_other w _ gl _ h.nes.1).trans h.hl, (heap_setCell_other w _ gi _ (Ne.symm h.ne)).trans h.hi, h.ne⟩
  simpa using heap_setCell_same w gt 0 _ _ (str s) h.ht
theorem Pg.cells (h : Pg gt gl gi w text last inside) : w.cell? ⟨gt, 0, none⟩ = some (str text) ∧ w.cell? ⟨gi, 0, none⟩ = some (str inside) ∧ w.cell? ⟨gl, 0, none⟩ = some (.int .u8 last.c.toNat) ∧ w.cell? ⟨gl, 1, none⟩ = some (.int .i64 last.m) ∧ w.cell? ⟨gl, 2, none⟩ = some (str last.l) ∧ w.frozen? ⟨gt, 0, none⟩ = false ∧ w.frozen? ⟨gi, 0, none⟩ = false ∧ w.frozen? ⟨gl, 0, none⟩ = false :=
  ⟨cellAt h.ht rfl, cellAt h.hi rfl, cellAt h.hl rfl, cellAt h.hl rfl, cellAt h.hl rfl, fzAt h.ht, fzAt h.hi, fzAt h.hl⟩
end

set_option maxRecDepth 100000 in
set_option maxHeartbeats 8000000 in
theorem pageFl_any {B gt gl gi : Nat} {w : World} {text inside : Bs} {last : It} (h : Pg gt gl gi w text last inside) (hm : 0 ≤ last.m ∧ last.m ≤ 3) (hg : B ≤ gt ∧ B ≤ gi) (htl : text.length ≤ 1000) (hll : last.l.length ≤ 24) (hil : inside.length ≤ 1000000) :
    Calls Tryd.prog 72 #[.pointer (some ⟨gt, 0, none⟩), .pointer (some ⟨gl, 0, none⟩), .pointer (some ⟨gi, 0, none⟩)] w fun e w' => e = .returned (.tuple #[]) ∧ Pg gt gl gi w' [] last (fl1 inside text last) ∧ (∀ k, k ≠ gt → k ≠ gi → w'.heap[k]? = w.heap[k]?) ∧ Below B w w' := by
  obtain ⟨c1, c2, c3, c4, c5, z1, z2, z3⟩ := h.cells
  have hH := Lib.hid h
  have hng := h.ne
  have hng' := Ne.symm h.ne
  clear h
  by_cases ht : text = []
  · have hf := Lib.hid (show fl1 inside text last = inside from if_pos ht)
    have htb : (text == []) = true := by simpa using ht
    subst ht
    go_enter Tryd.func72, Tryd.ntmps72
    go_wp2
    first | go_end0 | refine bodyPost_ret (results_none rfl _ _ _) rfl ?_
    exact ⟨rfl, by rw [hf.out]; exact hH.out, fun _ _ _ => rfl, Below.refl _ _⟩
  · have hf := Lib.hid (show fl1 inside text last = inside ++ nest last text by rw [nest_eq text hm.1 hm.2]; exact if_neg ht)
    have htb : (text == []) = false := by simpa using ht
    have W1 := Lib.hid (writtenSo_any text w (by omega))
    have W2 := Lib.hid (writtenSo_any last.l w (by omega))
    have w1 := (write_len text).2
    have w2 := (write_len last.l).2
    have hfin := Lib.hid (fun (a : ByteArray) (ha : a.data.toList = inside ++ nest last text) => show Pg gt gl gi ((w.setCell ⟨gi, 0, none⟩ (.string a)).setCell ⟨gt, 0, none⟩ (.string ⟨#[]⟩)) [] last (fl1 inside text last) ∧ (∀ k, k ≠ gt → k ≠ gi → ((w.setCell ⟨gi, 0, none⟩ (.string a)).setCell ⟨gt, 0, none⟩ (.string ⟨#[]⟩)).heap[k]? = w.heap[k]?) ∧ Below B w ((w.setCell ⟨gi, 0, none⟩ (.string a)).setCell ⟨gt, 0, none⟩ (.string ⟨#[]⟩)) by
      rw [hf.out, str_eq ha]; exact ⟨(hH.out.setI _).setT [], fun k k1 k2 => (heap_setCell_other _ _ k _ k1).trans (heap_setCell_other w _ k _ k2), (((Below.refl B w).setCell (p := ⟨gi, 0, none⟩) hg.2 _).setCell (p := ⟨gt, 0, none⟩) hg.1 (str []))⟩)
    have hz1 : (w.setCell ⟨gi, 0, none⟩ (.int .i64 0)).frozen? ⟨gt, 0, none⟩ = false := by
      exact fzAt ((heap_setCell_other w ⟨gi, 0, none⟩ gt _ hng).trans hH.out.ht)
    obtain ⟨c, m, l⟩ := last
    have hnest := Lib.hid (show nest ⟨c, m, l⟩ text = (if l ≠ [] then [60, 97, 32, 104, 114, 101, 102, 61, 34] ++ writeE l ++ [34, 62] ++ (if m % 2 = 1 then [60, 98, 62] ++ (if 2 ≤ m then [60, 105, 62] ++ writeE text ++ [60, 47, 105, 62] else writeE text) ++ [60, 47, 98, 62] else (if 2 ≤ m then [60, 105, 62] ++ writeE text ++ [60, 47, 105, 62] else writeE text)) ++ [60, 47, 97, 62] else (if m % 2 = 1 then [60, 98, 62] ++ (if 2 ≤ m then [60, 105, 62] ++ writeE text ++ [60, 47, 105, 62] else writeE text) ++ [60, 47, 98, 62] else (if 2 ≤ m then [60, 105, 62] ++ writeE text ++ [60, 47, 105, 62] else writeE text))) from rfl)
    simp only at hm hll W2 w2 c4 c5 hfin
    clear hH hf ht hg
    generalize writeE text = X at *
    generalize writeE l = Y at *
    by_cases hl0 : l = []
    · subst hl0
      rcases (by omega : m = 0 ∨ m = 1 ∨ m = 2 ∨ m = 3) with rfl | rfl | rfl | rfl
      all_goals
        go_enter Tryd.func72, Tryd.ntmps72
        go_wp2_with fail
        refine W1.out.mono ?_
        rintro e wx ⟨rfl, rfl⟩
        go_wp2
        first | go_end0 | refine bodyPost_ret (results_none rfl _ _ _) rfl ?_
        exact ⟨rfl, hfin.out _ (by rw [hnest.out]; simp [ByteArray.data_append])⟩
    · have hlb : (l == []) = false := by simpa using hl0
      rcases (by omega : m = 0 ∨ m = 1 ∨ m = 2 ∨ m = 3) with rfl | rfl | rfl | rfl
      all_goals
        go_enter Tryd.func72, Tryd.ntmps72
        go_wp2_with fail
        refine W1.out.mono ?_
        rintro e wx ⟨rfl, rfl⟩
        go_wp2_with fail
        refine W2.out.mono ?_
        rintro e wx ⟨rfl, rfl⟩
        go_wp2
        first | go_end0 | refine bodyPost_ret (results_none rfl _ _ _) rfl ?_
        exact ⟨rfl, hfin.out _ (by rw [hnest.out]; simp [ByteArray.data_append, hl0])⟩

set_option maxRecDepth 1000000 in
set_option maxHeartbeats 8000000 in
theorem pageOf_any (F : Nat → Prop) (v : Value) (L : List It) (w : World) (h : RItems F w v L) (hc : chkDoc L = 0) :
    Calls Tryd.prog 32 #[v] w fun e w' => e = .returned (str (pageX L)) ∧ Below w.heap.size w w' := by
  have hP0 := Lib.hid (law_pageR L ⟨0, 0, []⟩)
  have hlen := Lib.hid (pageX_len hc)
  obtain ⟨hit, h80, _⟩ := doc_facts hc
  have HI := Lib.hid (fun x hx => item_parts (hit x hx))
  have HL : Hid (∀ x ∈ L, x.l.length ≤ 24) := Lib.hid (fun x hx => by
    rcases (item_parts (hit x hx)).2.1 with e | e
    · rw [e]; simp
    · exact may_len e)
  obtain ⟨a, cap, rfl, hn⟩ := RdS.len h
  have H := Lib.hid h
  clear h hc hit
  go_enter Tryd.func32, Tryd.ntmps32
  go_wp2
  go_loopw [3, 5, 15] (fun ov lv iv wr => ∃ (ls : Bool) (i : Nat) (out inside text : Bs) (last : It), i ≤ L.length ∧ ov = str out ∧ lv = .bool ls ∧ iv = .int .i64 i ∧ Hid (pageX L = out ++ pageR ls inside text last (L.drop i)) ∧ Pg (w.heap.size + 1) (w.heap.size + 1 + 1) w.heap.size wr text last inside ∧ Hid (0 ≤ last.m ∧ last.m ≤ 3) ∧ last.l.length ≤ 24 ∧ inside.length + 179 * text.length ≤ 179 * i ∧ Below w.heap.size w wr) (fun _ _ iv _ => L.length - (intOf iv).toNat)
  case atStart =>
    refine ⟨false, 0, [], [], [], ⟨0, 0, []⟩, Nat.zero_le _, rfl, rfl, rfl, Lib.hid (by simpa using hP0.out), ?_, Lib.hid ⟨by simp, by simp⟩, by simp, by simp, ?_⟩
    · exact ⟨heap_at2 (by simp), heap_at (by simp), ((bal (brf _) _).block _ (by simp; omega)).trans (heap_at2 rfl), by omega⟩
    · exact bal (bal (bal (brf w) _) _) _
  case round =>
    obtain ⟨ls, i, out, inside, text, last, hi, rfl, rfl, rfl, hf, hP, hB, hll, hil, hb⟩ := hrel
    have hol : out.length ≤ 20000 := by have := hlen.out; have e := hf.out; rw [e] at this; simp at this; omega
    by_cases hlt : i < L.length
    · obtain ⟨x, hx⟩ : ∃ x, L[i]? = some x := ⟨_, List.getElem?_eq_getElem hlt⟩
      obtain ⟨b, o, rfl, c0, c1, c2⟩ := RItems.at H.out hb hx
      have hdrop : L.drop i = x :: L.drop (i + 1) := by rw [List.drop_eq_getElem_cons hlt, (List.getElem?_eq_some_iff.1 hx).2]
      have hmem := List.mem_of_getElem? hx
      obtain ⟨hmk, _, _⟩ := HI.out x hmem
      have hxl := HL.out x hmem
      have hX : Hid (Pg (w.heap.size + 1) (w.heap.size + 1 + 1) w.heap.size (wr.alloc (.cells #[.int .u8 x.c.toNat, .int .i64 x.m, str x.l] 38)) text last inside) := Lib.hid (hP.below (bal (brf _) _))
      have hbx : Hid ((wr.alloc (.cells #[.int .u8 x.c.toNat, .int .i64 x.m, str x.l] 38)).heap[wr.heap.size]? = some (.cells #[.int .u8 x.c.toNat, .int .i64 x.m, str x.l] 38 (0, 0))) := Lib.hid (heap_new _ _)
      have hbA := Lib.hid (bal hb (.cells #[.int .u8 x.c.toNat, .int .i64 x.m, str x.l] 38))
      have hlt0 : w.heap.size + 1 + 1 < wr.heap.size := lt_of_heap hP.hl
      clear hx hmem
      by_cases hcb : (x.c.toNat : Int) = 10
      · have hcb' : ((x.c.toNat : Int) != 10) = false := by simpa using hcb
        have hnx := Lib.hid (show pageX L = out ++ (ulT ls (decide (x.m = 2)) ++ (opn (nameOf x.m) ++ (fl1 inside text last ++ (cls (nameOf x.m) ++ pageR (decide (x.m = 2)) [] [] last (L.drop (i + 1)))))) by
          rw [hf.out, hdrop, pageR, if_pos hcb])
        have hfl : (fl1 inside text last).length ≤ 1000000 := by
          have hr := run1_len last text hll
          unfold fl1
          split
          · omega
          · simp; omega
        clear hf hdrop hcb hP
        go_upto_region 12 with fail
        go_wp2_with fail
        refine (pageFl_any (B := w.heap.size) hX.out hB.out ⟨by omega, by omega⟩ (by omega) hll (by omega)).mono ?_
        rintro e w2 ⟨rfl, hP2, hk2, hb2⟩
        have hbx2 := Lib.hid ((hk2 wr.heap.size (by omega) (by omega)).trans hbx.out)
        have hB2 := Lib.hid (hbA.out.trans hb2)
        clear hX hbx hbA hk2 hb2
        generalize fl1 inside text last = Z at *
        obtain ⟨is, his⟩ : ∃ is, decide (x.m = 2) = is := ⟨_, rfl⟩
        obtain ⟨N, hN⟩ : ∃ N, nameOf x.m = N := ⟨_, rfl⟩
        rw [his, hN] at hnx
        obtain ⟨p1, p2, p3, p4, p5, y1, y2, y3⟩ := hP2.cells
        have b1 := cellAt (i := 1) (v := .int .i64 x.m) hbx2.out rfl
        have hP2' := Lib.hid hP2
        clear hP2
        obtain ⟨h0, h3⟩ := hmk
        have e0 : (decide ((0 : Int) = 2)) = false := by decide
        have e1 : (decide ((1 : Int) = 2)) = false := by decide
        have e2 : (decide ((2 : Int) = 2)) = true := by decide
        have e3 : (decide ((3 : Int) = 2)) = false := by decide
        have m4 : ∀ m : Int, 0 ≤ m → m ≤ 3 → m = 0 ∨ m = 1 ∨ m = 2 ∨ m = 3 := by omega
        obtain ⟨xc, xm, xl⟩ := x
        simp only at his hN b1 hxl h0 h3 hcb'
        have hwl : wr.heap.size < w2.heap.size := lt_of_heap hbx2.out
        clear hbx2 m4 p1 p2 p3 p4 p5 y1 y2 y3
        rcases (by omega : xm = 0 ∨ xm = 1 ∨ xm = 2 ∨ xm = 3) with rfl | rfl | rfl | rfl
        all_goals
          go_upto_region 14 with fail
          refine name_world ?_
          intro w3 hw3
          have hB3 := Lib.hid (show Below w.heap.size w w3 by rw [← hw3]; exact bal hB2.out _)
          have hP3 : Pg (w.heap.size + 1) (w.heap.size + 1 + 1) w.heap.size w3 [] last Z := by rw [← hw3]; exact hP2'.out.below (bal (brf _) _)
          obtain ⟨p1, p2, p3, p4, p5, y1, y2, y3⟩ := hP3.cells
          have hP4 := Lib.hid (hP3.setI [])
          have hB4 := Lib.hid (hB3.out.setCell (p := ⟨w.heap.size, 0, none⟩) (Nat.le_refl _) (str []))
          clear hw3 hP3
          cases ls
          all_goals
            go_wp2
            go_roundw
            case rel => exact ⟨_, i + 1, _, [], [], last, by omega, str_eq rfl, rfl, by go_num, Lib.hid (by rw [hnx.out, ← his, ← hN]; simp [ByteArray.data_append, ulT, opn, cls, nameOf, nP, nH1, nLi, nH2, nUl]), hP4.out, hB, hll, by simp, hB4.out⟩
            case measure => simp [intOf]; omega
      · have hcb' : ((x.c.toNat : Int) != 10) = true := by simpa using hcb
        have hP' := Lib.hid hP
        clear hP
        by_cases hfl : text ≠ [] ∧ (x.m ≠ last.m ∨ x.l ≠ last.l)
        · have hnx := Lib.hid (show pageX L = out ++ pageR ls (inside ++ run1 last text) [x.c] x (L.drop (i + 1)) by
            rw [hf.out, hdrop, pageR, if_neg hcb, if_pos hfl])
          have hf1 : Hid (fl1 inside text last = inside ++ run1 last text) := Lib.hid (if_neg hfl.1)
          have ht : (text != []) = true := by simpa using hfl.1
          have htn : 1 ≤ text.length := by rcases text with _ | ⟨_, _⟩; exact absurd rfl hfl.1; simp
          have hrl := run1_len last text hll
          clear hf hdrop hcb
          go_upto_region 8 with fail
          refine name_world ?_
          intro wA hwA
          rw [hwA] at hX hbx hbA
          clear hwA c0 c1 c2
          obtain ⟨p1, p2, p3, p4, p5, y1, y2, y3⟩ := hX.out.cells
          have b0 := cellAt (i := 0) (v := .int .u8 x.c.toNat) hbx.out rfl
          have b1 := cellAt (i := 1) (v := .int .i64 x.m) hbx.out rfl
          have b2 := cellAt (i := 2) (v := str x.l) hbx.out rfl
          have hte : text.isEmpty = false := by simpa using hfl.1
          have way : (x.m != last.m) = true ∨ ((x.m != last.m) = false ∧ (x.l == last.l) = false) := by
            by_cases h1 : x.m = last.m
            · right
              refine ⟨by simpa using h1, ?_⟩
              rcases hfl.2 with e | e
              · exact absurd h1 e
              · simpa using e
            · left; simpa using h1
          have hcv : ∀ (w' : World) (g : Nat), w'.cell? ⟨g, 0, none⟩ = some (.int .u8 x.c.toNat) → (convert 47 9 (.slice (some ⟨g, 0, none⟩) 1 1)).run Tryd.prog w' = .ok (str [x.c]) w' := fun w' g hg =>
            run_convert_bytes_back w' 47 9 5 ⟨g, 0, none⟩ 1 [x.c] Tryd.underlying47 Tryd.underlying5 Tryd.underlying9 fun j hj => by
              obtain rfl : j = 0 := by simpa using hj
              exact hg
          clear hfl ht
          rcases way with t2 | ⟨t2, t3⟩
          all_goals
            go_wp2_with fail
            refine (pageFl_any (B := w.heap.size) hX.out hB.out ⟨by omega, by omega⟩ (by omega) hll (by omega)).mono ?_
            rintro e w2 ⟨rfl, hP2, hk2, hb2⟩
            rw [hf1.out] at hP2
            have hbx2 := Lib.hid ((hk2 wr.heap.size (by omega) (by omega)).trans hbx.out)
            have hB2 := Lib.hid (hbA.out.trans hb2)
            have z1 : w.heap.size + 1 + 1 < w2.heap.size := lt_of_heap hP2.hl
            clear hX hbx hbA hk2 hb2 p1 p2 p3 p4 p5 y1 y2 y3 b0 b1 b2
            go_upto_region 11 with fail
            have hbxq := hbx2.out
            have hPP := Lib.hid hP2
            have hlq : wr.heap.size < w2.heap.size := lt_of_heap hbxq
            have n1 : w.heap.size + 1 ≠ wr.heap.size := by omega
            have n2 : w.heap.size + 1 + 1 ≠ wr.heap.size := by omega
            obtain ⟨wN, hwN⟩ : ∃ wN, w2.drew.alloc (.cells #[.int .u8 x.c.toNat] 5) = wN := ⟨_, rfl⟩
            have hbN : Below w2.heap.size w2 wN := by rw [← hwN]; exact bal (brf w2).drew _
            have hPN := hPP.out.below hbN
            have hboxN : wN.heap[wr.heap.size]? = some (.cells #[.int .u8 x.c.toNat, .int .i64 x.m, str x.l] 38 (0, 0)) := (hbN.block _ hlq).trans hbxq
            have hsl : wN.cell? ⟨w2.heap.size, 0, none⟩ = some (.int .u8 x.c.toNat) := by rw [← hwN]; exact cellAt (heap_at (by rfl)) rfl
            have hcvN := hcv wN w2.heap.size hsl
            obtain ⟨p1, p2, p3, p4, p5, y1, y2, y3⟩ := hPN.cells
            have y4 := fzAt (i := 1) hPN.hl
            have y5 := fzAt (i := 2) hPN.hl
            have t0 := hPP.out.cells.1
            have B := fun (w' : World) (h : w'.heap[wr.heap.size]? = some (.cells #[.int .u8 x.c.toNat, .int .i64 x.m, str x.l] 38 (0, 0))) => (⟨cellAt h rfl, cellAt h rfl, cellAt h rfl⟩ : w'.cell? ⟨wr.heap.size, 0, none⟩ = some (.int .u8 x.c.toNat) ∧ w'.cell? ⟨wr.heap.size, 1, none⟩ = some (.int .i64 x.m) ∧ w'.cell? ⟨wr.heap.size, 2, none⟩ = some (str x.l))
            have QB := B w2 hbxq
            have QN := B wN hboxN
            have hst : Value.string ((⟨#[]⟩ : ByteArray) ++ (⟨#[x.c]⟩ : ByteArray)) = str ([x.c] : Bs) := str_eq (by simp [ByteArray.data_append])
            have hP7 := hPN.setT ([x.c] : Bs)
            have hbox7 := (heap_setCell_other wN ⟨w.heap.size + 1, 0, none⟩ wr.heap.size (str ([x.c] : Bs)) (Ne.symm n1)).trans hboxN
            have hB7 := (hB2.out.trans (hbN.mono (by omega))).setCell (p := ⟨w.heap.size + 1, 0, none⟩) (Nat.le_succ _) (str ([x.c] : Bs))
            have Q7 := B _ hbox7
            refine wp_region_G 7 (fun w' => w'.cell? ⟨w.heap.size + 1, 0, none⟩ = some (str [])) (fun w' => w'.cell? ⟨wr.heap.size, 0, none⟩ = some (.int .u8 x.c.toNat) ∧ w'.cell? ⟨wr.heap.size, 1, none⟩ = some (.int .i64 x.m) ∧ w'.cell? ⟨wr.heap.size, 2, none⟩ = some (str x.l)) (by kernel_rfl) ?_
            refine wpAnyG_takeC 9 0 40 (v := ?_) rfl rfl (by kernel_rfl) (by kernel_rfl) (by kernel_rfl) (by kernel_rfl) (by kernel_rfl) (by kernel_rfl) (by decide) (fun _ _ _ h => h) (Or.inl ⟨by rfl, ?_⟩) QB t0 ?_
            rotate_left
            · (intro w' hw'; (try dsimp only at hw'); go_simp; try with_reducible rfl)
            simp only [List.set_cons_zero, List.set_cons_succ]
            refine wpAnyG_takeC 9 1 41 (v := ?_) rfl rfl (by kernel_rfl) (by kernel_rfl) (by kernel_rfl) (by kernel_rfl) (by kernel_rfl) (by kernel_rfl) (by decide) (fun _ _ _ h => h) (Or.inl ⟨by rfl, ?_⟩) QB t0 ?_
            rotate_left
            · (intro w' hw'; (try dsimp only at hw'); go_simp; try with_reducible rfl)
            simp only [List.set_cons_zero, List.set_cons_succ]
            refine wpAnyG_takeC 9 2 42 (v := ?_) rfl rfl (by kernel_rfl) (by kernel_rfl) (by kernel_rfl) (by kernel_rfl) (by kernel_rfl) (by kernel_rfl) (by decide) (fun _ _ _ h => h) (Or.inl ⟨by rfl, ?_⟩) QB t0 ?_
            rotate_left
            · (intro w' hw'; (try dsimp only at hw'); go_simp; try with_reducible rfl)
            simp only [List.set_cons_zero, List.set_cons_succ]
            refine wpAnyG_takeS 6 46 (v := ?_) rfl rfl (by kernel_rfl) (by kernel_rfl) (by kernel_rfl) (by decide) (fun _ _ _ h => h) (Or.inl ⟨by rfl, ?_⟩) QB (fun _ => t0) ?_
            rotate_left
            · (intro w' hw'; (try dsimp only at hw'); go_simp; try with_reducible rfl)
            simp only [List.set_cons_zero, List.set_cons_succ]
            refine wpAnyG_step 3 rfl (by kernel_rfl) (fun K' hK' => ?_)
            rw [if_pos (by rfl)]
            go_simp
            refine hK'.out _ _ QN (fun _ => p1) ?_
            clear hK' K'
            refine wpAnyG_step 4 rfl (by kernel_rfl) (fun K' hK' => ?_)
            rw [if_pos (by rfl)]
            go_simp
            refine hK'.out _ _ QN (fun _ => p1) ?_
            clear hK' K'
            refine wpAnyG_takeC 9 5 45 (v := ?_) rfl rfl (by kernel_rfl) (by kernel_rfl) (by kernel_rfl) (by kernel_rfl) (by kernel_rfl) (by kernel_rfl) (by decide) (fun _ _ _ h => h) (Or.inl ⟨by rfl, ?_⟩) QN p1 ?_
            rotate_left
            · (intro w' hw'; (try dsimp only at hw'); go_simp; try with_reducible rfl)
            simp only [List.set_cons_zero, List.set_cons_succ]
            refine wpAnyG_step 7 rfl (by kernel_rfl) (fun K' hK' => ?_)
            rw [if_pos (by rfl)]
            go_simp
            refine hK'.out _ _ Q7 (fun h => absurd h (by decide)) ?_
            clear hK' K'
            refine wpAnyG_step 8 rfl (by kernel_rfl) (fun K' hK' => ?_)
            rw [if_pos (by rfl)]
            generalize wN.setCell ⟨w.heap.size + 1, 0, none⟩ (str ([x.c] : Bs)) = w7 at hP7 hbox7 hB7 Q7 hK' ⊢
            clear p1 p2 p3 p4 p5 y1 y2 y3 y4 y5 t0 hcvN hsl
            obtain ⟨p1, p2, p3, p4, p5, y1, y2, y3⟩ := hP7.cells
            have y4 := fzAt (i := 1) hP7.hl
            have y5 := fzAt (i := 2) hP7.hl
            go_simp
            have hP8 := Lib.hid (hP7.setL x (by omega) (by omega))
            have hB8 := Lib.hid (((hB7.setCell (p := ⟨w.heap.size + 1 + 1, 0, none⟩) (Nat.le_trans (Nat.le_succ _) (Nat.le_succ _)) (.int .u8 x.c.toNat)).setCell (p := ⟨w.heap.size + 1 + 1, 1, none⟩) (Nat.le_trans (Nat.le_succ _) (Nat.le_succ _)) (.int .i64 x.m)).setCell (p := ⟨w.heap.size + 1 + 1, 2, none⟩) (Nat.le_trans (Nat.le_succ _) (Nat.le_succ _)) (str x.l))
            have Q8 := B _ ((heap_setCell_other _ ⟨w.heap.size + 1 + 1, 2, none⟩ wr.heap.size (str x.l) (Ne.symm n2)).trans ((heap_setCell_other _ ⟨w.heap.size + 1 + 1, 1, none⟩ wr.heap.size (.int .i64 x.m) (Ne.symm n2)).trans ((heap_setCell_other w7 ⟨w.heap.size + 1 + 1, 0, none⟩ wr.heap.size (.int .u8 x.c.toNat) (Ne.symm n2)).trans hbox7)))
            refine hK'.out _ _ Q8 (fun h => absurd h (by decide)) ?_
            clear hK' K'
            refine wpAnyG_done (by kernel_rfl) ?_ _
            generalize (((w7.setCell ⟨w.heap.size + 1 + 1, 0, none⟩ (.int .u8 x.c.toNat)).setCell ⟨w.heap.size + 1 + 1, 1, none⟩ (.int .i64 x.m)).setCell ⟨w.heap.size + 1 + 1, 2, none⟩ (str x.l)) = w8 at hP8 hB8 ⊢
            clear p1 p2 p3 p4 p5 y1 y2 y3 y4 y5 hP7 hB7 hbox7 Q8
            go_wp2
            go_roundw
            case rel => exact ⟨ls, i + 1, out, (inside ++ run1 last text), ([x.c] : Bs), x, by omega, rfl, rfl, by go_num, hnx, hP8.out, Lib.hid hmk, hxl, by simp; omega, hB8.out⟩
            case measure => simp [intOf]; omega
        · have hnx := Lib.hid (show pageX L = out ++ pageR ls inside (text ++ [x.c]) x (L.drop (i + 1)) by
            rw [hf.out, hdrop, pageR, if_neg hcb, if_neg hfl])
          have way : text.isEmpty = true ∨ (text.isEmpty = false ∧ (x.m != last.m) = false ∧ (x.l == last.l) = true) := by
            by_cases h1 : text = []
            · left; simpa using h1
            · right
              refine ⟨by simpa using h1, ?_, ?_⟩
              · rw [bne_eq_false_iff_eq]; exact Decidable.not_not.1 fun e => hfl ⟨h1, Or.inl e⟩
              · rw [beq_iff_eq]; exact Decidable.not_not.1 fun e => hfl ⟨h1, Or.inr e⟩
          clear hf hdrop hcb hfl
          go_upto_region 8 with fail
          refine name_world ?_
          intro wA hwA
          rw [hwA] at hX hbx hbA
          clear hwA c0 c1 c2
          obtain ⟨p1, p2, p3, p4, p5, y1, y2, y3⟩ := hX.out.cells
          have b0 := cellAt (i := 0) (v := .int .u8 x.c.toNat) hbx.out rfl
          have b1 := cellAt (i := 1) (v := .int .i64 x.m) hbx.out rfl
          have b2 := cellAt (i := 2) (v := str x.l) hbx.out rfl
          have y4 := fzAt (i := 1) hX.out.hl
          have y5 := fzAt (i := 2) hX.out.hl
          have hA1 : w.heap.size + 1 < wA.heap.size := lt_of_heap hX.out.ht
          have hA2 : w.heap.size + 1 + 1 < wA.heap.size := lt_of_heap hX.out.hl
          have hA3 : wr.heap.size < wA.heap.size := lt_of_heap hbx.out
          have hcv : ∀ (w' : World) (g : Nat), w'.cell? ⟨g, 0, none⟩ = some (.int .u8 x.c.toNat) → (convert 47 9 (.slice (some ⟨g, 0, none⟩) 1 1)).run Tryd.prog w' = .ok (str [x.c]) w' := fun w' g hg =>
            run_convert_bytes_back w' 47 9 5 ⟨g, 0, none⟩ 1 [x.c] Tryd.underlying47 Tryd.underlying5 Tryd.underlying9 fun j hj => by
              obtain rfl : j = 0 := by simpa using hj
              exact hg
          rcases way with t1 | ⟨t1, t2, t3⟩
          all_goals
            go_upto_region 11 with fail
            have hbxq := hbx.out
            have hPP := Lib.hid hX.out
            have hlq : wr.heap.size < wA.heap.size := lt_of_heap hbxq
            have n1 : w.heap.size + 1 ≠ wr.heap.size := by omega
            have n2 : w.heap.size + 1 + 1 ≠ wr.heap.size := by omega
            obtain ⟨wN, hwN⟩ : ∃ wN, wA.drew.alloc (.cells #[.int .u8 x.c.toNat] 5) = wN := ⟨_, rfl⟩
            have hbN : Below wA.heap.size wA wN := by rw [← hwN]; exact bal (brf wA).drew _
            have hPN := hPP.out.below hbN
            have hboxN : wN.heap[wr.heap.size]? = some (.cells #[.int .u8 x.c.toNat, .int .i64 x.m, str x.l] 38 (0, 0)) := (hbN.block _ hlq).trans hbxq
            have hsl : wN.cell? ⟨wA.heap.size, 0, none⟩ = some (.int .u8 x.c.toNat) := by rw [← hwN]; exact cellAt (heap_at (by rfl)) rfl
            have hcvN := hcv wN wA.heap.size hsl
            obtain ⟨p1, p2, p3, p4, p5, y1, y2, y3⟩ := hPN.cells
            have y4 := fzAt (i := 1) hPN.hl
            have y5 := fzAt (i := 2) hPN.hl
            have t0 := hPP.out.cells.1
            have B := fun (w' : World) (h : w'.heap[wr.heap.size]? = some (.cells #[.int .u8 x.c.toNat, .int .i64 x.m, str x.l] 38 (0, 0))) => (⟨cellAt h rfl, cellAt h rfl, cellAt h rfl⟩ : w'.cell? ⟨wr.heap.size, 0, none⟩ = some (.int .u8 x.c.toNat) ∧ w'.cell? ⟨wr.heap.size, 1, none⟩ = some (.int .i64 x.m) ∧ w'.cell? ⟨wr.heap.size, 2, none⟩ = some (str x.l))
            have QB := B wA hbxq
            have QN := B wN hboxN
            have hcl : ¬ 9223372036854775807 < (text).length + 1 := by omega
            have hst : Value.string ((⟨(text).toArray⟩ : ByteArray) ++ (⟨#[x.c]⟩ : ByteArray)) = str (text ++ [x.c]) := str_eq (by simp [ByteArray.data_append])
            have hP7 := hPN.setT (text ++ [x.c])
            have hbox7 := (heap_setCell_other wN ⟨w.heap.size + 1, 0, none⟩ wr.heap.size (str (text ++ [x.c])) (Ne.symm n1)).trans hboxN
            have hB7 := (hbA.out.trans (hbN.mono (by omega))).setCell (p := ⟨w.heap.size + 1, 0, none⟩) (Nat.le_succ _) (str (text ++ [x.c]))
            have Q7 := B _ hbox7
            refine wp_region_G 7 (fun w' => w'.cell? ⟨w.heap.size + 1, 0, none⟩ = some (str text)) (fun w' => w'.cell? ⟨wr.heap.size, 0, none⟩ = some (.int .u8 x.c.toNat) ∧ w'.cell? ⟨wr.heap.size, 1, none⟩ = some (.int .i64 x.m) ∧ w'.cell? ⟨wr.heap.size, 2, none⟩ = some (str x.l)) (by kernel_rfl) ?_
            refine wpAnyG_takeC 9 0 40 (v := ?_) rfl rfl (by kernel_rfl) (by kernel_rfl) (by kernel_rfl) (by kernel_rfl) (by kernel_rfl) (by kernel_rfl) (by decide) (fun _ _ _ h => h) (Or.inl ⟨by rfl, ?_⟩) QB t0 ?_
            rotate_left
            · (intro w' hw'; (try dsimp only at hw'); go_simp; try with_reducible rfl)
            simp only [List.set_cons_zero, List.set_cons_succ]
            refine wpAnyG_takeC 9 1 41 (v := ?_) rfl rfl (by kernel_rfl) (by kernel_rfl) (by kernel_rfl) (by kernel_rfl) (by kernel_rfl) (by kernel_rfl) (by decide) (fun _ _ _ h => h) (Or.inl ⟨by rfl, ?_⟩) QB t0 ?_
            rotate_left
            · (intro w' hw'; (try dsimp only at hw'); go_simp; try with_reducible rfl)
            simp only [List.set_cons_zero, List.set_cons_succ]
            refine wpAnyG_takeC 9 2 42 (v := ?_) rfl rfl (by kernel_rfl) (by kernel_rfl) (by kernel_rfl) (by kernel_rfl) (by kernel_rfl) (by kernel_rfl) (by decide) (fun _ _ _ h => h) (Or.inl ⟨by rfl, ?_⟩) QB t0 ?_
            rotate_left
            · (intro w' hw'; (try dsimp only at hw'); go_simp; try with_reducible rfl)
            simp only [List.set_cons_zero, List.set_cons_succ]
            refine wpAnyG_takeS 6 46 (v := ?_) rfl rfl (by kernel_rfl) (by kernel_rfl) (by kernel_rfl) (by decide) (fun _ _ _ h => h) (Or.inl ⟨by rfl, ?_⟩) QB (fun _ => t0) ?_
            rotate_left
            · (intro w' hw'; (try dsimp only at hw'); go_simp; try with_reducible rfl)
            simp only [List.set_cons_zero, List.set_cons_succ]
            refine wpAnyG_step 3 rfl (by kernel_rfl) (fun K' hK' => ?_)
            rw [if_pos (by rfl)]
            go_simp
            refine hK'.out _ _ QN (fun _ => p1) ?_
            clear hK' K'
            refine wpAnyG_step 4 rfl (by kernel_rfl) (fun K' hK' => ?_)
            rw [if_pos (by rfl)]
            go_simp
            refine hK'.out _ _ QN (fun _ => p1) ?_
            clear hK' K'
            refine wpAnyG_takeC 9 5 45 (v := ?_) rfl rfl (by kernel_rfl) (by kernel_rfl) (by kernel_rfl) (by kernel_rfl) (by kernel_rfl) (by kernel_rfl) (by decide) (fun _ _ _ h => h) (Or.inl ⟨by rfl, ?_⟩) QN p1 ?_
            rotate_left
            · (intro w' hw'; (try dsimp only at hw'); go_simp; try with_reducible rfl)
            simp only [List.set_cons_zero, List.set_cons_succ]
            refine wpAnyG_step 7 rfl (by kernel_rfl) (fun K' hK' => ?_)
            rw [if_pos (by rfl)]
            go_simp
            refine hK'.out _ _ Q7 (fun h => absurd h (by decide)) ?_
            clear hK' K'
            refine wpAnyG_step 8 rfl (by kernel_rfl) (fun K' hK' => ?_)
            rw [if_pos (by rfl)]
            generalize wN.setCell ⟨w.heap.size + 1, 0, none⟩ (str (text ++ [x.c])) = w7 at hP7 hbox7 hB7 Q7 hK' ⊢
            clear p1 p2 p3 p4 p5 y1 y2 y3 y4 y5 t0 hcvN hsl
            obtain ⟨p1, p2, p3, p4, p5, y1, y2, y3⟩ := hP7.cells
            have y4 := fzAt (i := 1) hP7.hl
            have y5 := fzAt (i := 2) hP7.hl
            go_simp
            have hP8 := Lib.hid (hP7.setL x (by omega) (by omega))
            have hB8 := Lib.hid (((hB7.setCell (p := ⟨w.heap.size + 1 + 1, 0, none⟩) (Nat.le_trans (Nat.le_succ _) (Nat.le_succ _)) (.int .u8 x.c.toNat)).setCell (p := ⟨w.heap.size + 1 + 1, 1, none⟩) (Nat.le_trans (Nat.le_succ _) (Nat.le_succ _)) (.int .i64 x.m)).setCell (p := ⟨w.heap.size + 1 + 1, 2, none⟩) (Nat.le_trans (Nat.le_succ _) (Nat.le_succ _)) (str x.l))
            have Q8 := B _ ((heap_setCell_other _ ⟨w.heap.size + 1 + 1, 2, none⟩ wr.heap.size (str x.l) (Ne.symm n2)).trans ((heap_setCell_other _ ⟨w.heap.size + 1 + 1, 1, none⟩ wr.heap.size (.int .i64 x.m) (Ne.symm n2)).trans ((heap_setCell_other w7 ⟨w.heap.size + 1 + 1, 0, none⟩ wr.heap.size (.int .u8 x.c.toNat) (Ne.symm n2)).trans hbox7)))
            refine hK'.out _ _ Q8 (fun h => absurd h (by decide)) ?_
            clear hK' K'
            refine wpAnyG_done (by kernel_rfl) ?_ _
            generalize (((w7.setCell ⟨w.heap.size + 1 + 1, 0, none⟩ (.int .u8 x.c.toNat)).setCell ⟨w.heap.size + 1 + 1, 1, none⟩ (.int .i64 x.m)).setCell ⟨w.heap.size + 1 + 1, 2, none⟩ (str x.l)) = w8 at hP8 hB8 ⊢
            clear p1 p2 p3 p4 p5 y1 y2 y3 y4 y5 hP7 hB7 hbox7 Q8
            go_wp2
            go_roundw
            case rel => exact ⟨ls, i + 1, out, inside, (text ++ [x.c]), x, by omega, rfl, rfl, by go_num, hnx, hP8.out, Lib.hid hmk, hxl, by simp; omega, hB8.out⟩
            case measure => simp [intOf]; omega
    · obtain rfl : i = L.length := by omega
      rw [List.drop_length] at hf
      cases ls with
      | true =>
        have hfin := Lib.hid (show pageX L = out ++ [60, 47, 117, 108, 62] from hf.out)
        clear hf
        go_wp2
        go_ret
        exact ⟨by rw [hfin.out]; exact congrArg _ (str_eq (by simp [ByteArray.data_append])), hb⟩
      | false =>
        have hfin := Lib.hid (show pageX L = out by rw [hf.out]; simp [pageR])
        clear hf
        go_wp2
        go_ret
        exact ⟨by rw [hfin.out]; rfl, hb⟩
end Go.Proofs.YtjbidchdjpmonaaDoor
