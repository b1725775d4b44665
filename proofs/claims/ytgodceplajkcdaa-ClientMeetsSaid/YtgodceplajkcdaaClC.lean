/- Package client: New, Copy. -/
import Derived.Test.YtgodceplajkcdaaClB
import Derived.Deep.DeepCutAuto
import Derived.Test.YtgodceplajkcdaaReg
namespace Go.Mh
open Go.RowKit
/-- Lengths that a copy wants. -/
structure Cl.Sm (c : Cl) : Prop where
  b : c.base.length ≤ 100000
  n : c.now.length ≤ 100000
  s : c.sent.length ≤ 100000
  si : ∀ p ∈ c.sent, p.its.length ≤ 100000
  h : c.held.length ≤ 100000
  hi : ∀ p ∈ c.held, p.its.length ≤ 100000
theorem kpC {g B : Nat} {v1 v2 v4 v5 : Value} {w0 wc w' : World} (h : wc.cell? ⟨g, 1, none⟩ = some v1 ∧ wc.cell? ⟨g, 2, none⟩ = some v2 ∧ wc.cell? ⟨g, 4, none⟩ = some v4 ∧ wc.cell? ⟨g, 5, none⟩ = some v5 ∧ B ≤ wc.heap.size ∧ Below B w0 wc) (hb : Below wc.heap.size wc w') :
    w'.cell? ⟨g, 1, none⟩ = some v1 ∧ w'.cell? ⟨g, 2, none⟩ = some v2 ∧ w'.cell? ⟨g, 4, none⟩ = some v4 ∧ w'.cell? ⟨g, 5, none⟩ = some v5 ∧ B ≤ w'.heap.size ∧ Below B w0 w' :=
  ⟨(hb.cell (lt_of_cell h.1)).trans h.1, (hb.cell (lt_of_cell h.2.1)).trans h.2.1, (hb.cell (lt_of_cell h.2.2.1)).trans h.2.2.1, (hb.cell (lt_of_cell h.2.2.2.1)).trans h.2.2.2.1, Nat.le_trans h.2.2.2.2.1 hb.size, h.2.2.2.2.2.trans (hb.mono h.2.2.2.2.1)⟩
theorem set1245 {w : World} {g e : Nat} {u0 u1 u2 u3 u4 u5 u6 : Value} (h : w.heap[g]? = some (.cells #[u0, u1, u2, u3, u4, u5, u6] e (0, 0))) (v1 v2 v4 v5 : Value) :
    ((((w.setCell ⟨g, 1, none⟩ v1).setCell ⟨g, 2, none⟩ v2).setCell ⟨g, 4, none⟩ v4).setCell ⟨g, 5, none⟩ v5).heap[g]? = some (.cells #[u0, v1, v2, u3, v4, v5, u6] e (0, 0)) ∧ Stays g w ((((w.setCell ⟨g, 1, none⟩ v1).setCell ⟨g, 2, none⟩ v2).setCell ⟨g, 4, none⟩ v4).setCell ⟨g, 5, none⟩ v5) := by
  constructor
  · have h1 : (w.setCell ⟨g, 1, none⟩ v1).heap[g]? = some (.cells #[u0, v1, u2, u3, u4, u5, u6] e (0, 0)) := by rw [heap_setCell_same _ g 1 _ e v1 h]; rfl
    have h2 : ((w.setCell ⟨g, 1, none⟩ v1).setCell ⟨g, 2, none⟩ v2).heap[g]? = some (.cells #[u0, v1, v2, u3, u4, u5, u6] e (0, 0)) := by rw [heap_setCell_same _ g 2 _ e v2 h1]; rfl
    have h3 : (((w.setCell ⟨g, 1, none⟩ v1).setCell ⟨g, 2, none⟩ v2).setCell ⟨g, 4, none⟩ v4).heap[g]? = some (.cells #[u0, v1, v2, u3, v4, u5, u6] e (0, 0)) := by rw [heap_setCell_same _ g 4 _ e v4 h2]; rfl
    rw [heap_setCell_same _ g 5 _ e v5 h3]; rfl
  · exact ((Stays.set.trans Stays.set).trans Stays.set).trans Stays.set
theorem kpCb {g B : Nat} {v1 v2 v4 v5 : Value} {w0 wc : World} (h : wc.cell? ⟨g, 1, none⟩ = some v1 ∧ wc.cell? ⟨g, 2, none⟩ = some v2 ∧ wc.cell? ⟨g, 4, none⟩ = some v4 ∧ wc.cell? ⟨g, 5, none⟩ = some v5 ∧ B ≤ wc.heap.size ∧ Below B w0 wc) : Below B w0 wc := h.2.2.2.2.2
theorem kpCf {g B e : Nat} {cs : Array Value} {v1 v2 v4 v5 : Value} {w0 wc w' : World} (hG : w0.heap[g]? = some (.cells cs e (0, 0))) (hg : g < B) (h : wc.cell? ⟨g, 1, none⟩ = some v1 ∧ wc.cell? ⟨g, 2, none⟩ = some v2 ∧ wc.cell? ⟨g, 4, none⟩ = some v4 ∧ wc.cell? ⟨g, 5, none⟩ = some v5 ∧ B ≤ wc.heap.size ∧ Below B w0 wc) (hb : Below wc.heap.size wc w') :
    w'.heap[g]? = some (.cells cs e (0, 0)) ∧ ∀ i, w'.frozen? ⟨g, i, none⟩ = false := by
  have h1 : w'.heap[g]? = some (.cells cs e (0, 0)) := (((h.2.2.2.2.2.trans (hb.mono h.2.2.2.2.1))).block g hg).trans hG
  exact ⟨h1, fun i => Lib.frozen_of_heap h1 _⟩
end Go.Mh
namespace Go.Proofs.Ytgodceplajkcdaa
open Go.RowKit Go.Mh

theorem rcl_shape {F : Nat → Prop} {w : World} {r b n q s k j : Value} {c : Cl} (h : RCl F w (.agg #[r, b, n, q, s, k, j]) c) : ∃ ba bc na nc sa sc ka kc, b = .slice ba c.base.length bc ∧ n = .slice na c.now.length nc ∧ s = .slice sa c.sent.length sc ∧ k = .slice ka c.held.length kc := by
  obtain ⟨_, _, _, _, e, h1, h2, h3, h4⟩ := h
  obtain ⟨x1, y1, rfl, _⟩ := RdS.len h1
  obtain ⟨x2, y2, rfl, _⟩ := RdS.len h2
  obtain ⟨x3, y3, rfl, _⟩ := RdS.len h3
  obtain ⟨x4, y4, rfl, _⟩ := RdS.len h4
  simp at e
  exact ⟨_, _, _, _, _, _, _, _, e.2.1, e.2.2.1, e.2.2.2.2.1, e.2.2.2.2.2.1⟩

set_option maxRecDepth 100000 in
set_option maxHeartbeats 4000000 in
theorem clCopy_any (F : Nat → Prop) (v : Value) (c : Cl) (w : World) (h : RCl F w v c) (hsm : c.Sm) :
    Calls Try.prog 116 #[v] w fun e w' => ∃ v', e = .returned v' ∧ RCl (fun k => w.heap.size ≤ k ∨ F k) w' v' c ∧ Below w.heap.size w w' := by
  obtain ⟨b, n, s, k, rfl, h1, h2, h3, h4⟩ := h
  have h3 := ROp.to h3 (Kp.lt w)
  have h4 := ROp.to h4 (Kp.lt w)
  obtain ⟨ba, bc, rfl, _⟩ := RdS.len h1
  obtain ⟨na, nc, rfl, _⟩ := RdS.len h2
  obtain ⟨sa, sc, rfl, _⟩ := RdS.len h3
  obtain ⟨ka, kc, rfl, _⟩ := RdS.len h4
  obtain ⟨w1, hw1⟩ : ∃ w1, w1 = (w.alloc (.cells #[.int .i64 c.rev, .slice ba c.base.length bc, .slice na c.now.length nc, .int .i64 c.seq, .slice sa c.sent.length sc, .slice ka c.held.length kc, .bool c.joined] 87)).alloc (.cells #[.int .i64 0, .slice none 0 0, .slice none 0 0, .int .i64 0, .slice none 0 0, .slice none 0 0, .bool false] 87) := ⟨_, rfl⟩
  have hb1 : Below w.heap.size w w1 := by rw [hw1]; exact bal (bal (brf w) _) _
  have hg1 : w1.heap[w.heap.size]? = some (.cells #[.int .i64 c.rev, .slice ba c.base.length bc, .slice na c.now.length nc, .int .i64 c.seq, .slice sa c.sent.length sc, .slice ka c.held.length kc, .bool c.joined] 87 (0, 0)) := by rw [hw1]; exact heap_at2 rfl
  have hg2 : w1.heap[w.heap.size + 1]? = some (.cells #[.int .i64 0, .slice none 0 0, .slice none 0 0, .int .i64 0, .slice none 0 0, .slice none 0 0, .bool false] 87 (0, 0)) := by rw [hw1]; exact heap_at (by simp)
  have C1 := Lib.hid (fun (w' : World) (hb : Below w1.heap.size w1 w') => cloneDoc_any F _ c.base w' (h1.to (Kp.below (hb1.trans (hb.mono hb1.size)))) hsm.b)
  have C2 := Lib.hid (fun (w' : World) (hb : Below w1.heap.size w1 w') => cloneDoc_any F _ c.now w' (h2.to (Kp.below (hb1.trans (hb.mono hb1.size)))) hsm.n)
  have C4 := Lib.hid (fun (w' : World) (hb : Below w1.heap.size w1 w') => opCopy_any _ _ c.sent w' (ROp.to h3 (Kp.below (hb1.trans (hb.mono hb1.size)))) hsm.s hsm.si)
  have C5 := Lib.hid (fun (w' : World) (hb : Below w1.heap.size w1 w') => opCopy_any _ _ c.held w' (ROp.to h4 (Kp.below (hb1.trans (hb.mono hb1.size)))) hsm.h hsm.hi)
  obtain ⟨x0, x1, x2, x3, x4, x5, x6⟩ := P7.of hg1
  have Q : w1.cell? ⟨w.heap.size, 1, none⟩ = some (.slice ba c.base.length bc) ∧ w1.cell? ⟨w.heap.size, 2, none⟩ = some (.slice na c.now.length nc) ∧ w1.cell? ⟨w.heap.size, 4, none⟩ = some (.slice sa c.sent.length sc) ∧ w1.cell? ⟨w.heap.size, 5, none⟩ = some (.slice ka c.held.length kc) ∧ w1.heap.size ≤ w1.heap.size ∧ Below w1.heap.size w1 w1 := ⟨x1, x2, x4, x5, Nat.le_refl _, brf _⟩
  have hG1 := Lib.hid hg1
  have hlt1 : w.heap.size < w1.heap.size := lt_of_heap hg1
  have hG2 := Lib.hid hg2
  have hB1 := Lib.hid hb1
  clear h1 h2 h3 h4 x0 x1 x2 x3 x4 x5 x6 hg1 hg2 hb1 hsm
  go_enter Try.func116, Try.ntmps116
  go_upto_region 1 with fail
  rw [← hw1]
  clear hw1
  have Q0 := kpC Q (brf w1).drew
  go_cut [5] (fun s5 wx => s5 = s5 ∧ ∃ b' n' s' k', wx.heap[w.heap.size]? = some (.cells #[.int .i64 c.rev, b', n', .int .i64 c.seq, s', k', .bool c.joined] 87 (0, 0)) ∧ RCl (fun k => w.heap.size + 1 < k ∨ (F k ∧ k < w.heap.size)) wx (.agg #[.int .i64 c.rev, b', n', .int .i64 c.seq, s', k', .bool c.joined]) c ∧ wx.heap[w.heap.size + 1]? = some (.cells #[.int .i64 0, .slice none 0 0, .slice none 0 0, .int .i64 0, .slice none 0 0, .slice none 0 0, .bool false] 87 (0, 0)) ∧ Below w.heap.size w wx)
  case first =>
    refine wp_region_B 13 (fun w' => w'.cell? ⟨w.heap.size, 1, none⟩ = some (.slice ba c.base.length bc) ∧ w'.cell? ⟨w.heap.size, 2, none⟩ = some (.slice na c.now.length nc) ∧ w'.cell? ⟨w.heap.size, 4, none⟩ = some (.slice sa c.sent.length sc) ∧ w'.cell? ⟨w.heap.size, 5, none⟩ = some (.slice ka c.held.length kc) ∧ w1.heap.size ≤ w'.heap.size ∧ Below w1.heap.size w1 w') (by kernel_rfl) ?_
    refine wpAnyB_take 0 (v := .pointer (some ⟨w.heap.size, 1, none⟩)) rfl (by kernel_rfl) (by kernel_rfl) (by kernel_rfl) (by kernel_rfl) (by kernel_rfl) (by decide) (fun _ _ _ h => h) (Or.inl ⟨by rfl, fun w' hw' => ?_⟩) Q0 ?_
    · (try dsimp only at hw'); go_simp
    simp only [Act.put, List.setIfInBounds_toArray]
    refine wpAnyB_take 3 (v := .pointer (some ⟨w.heap.size, 2, none⟩)) rfl (by kernel_rfl) (by kernel_rfl) (by kernel_rfl) (by kernel_rfl) (by kernel_rfl) (by decide) (fun _ _ _ h => h) (Or.inl ⟨by rfl, fun w' hw' => ?_⟩) Q0 ?_
    · (try dsimp only at hw'); go_simp
    simp only [Act.put]
    refine wpAnyB_take 6 (v := .pointer (some ⟨w.heap.size, 4, none⟩)) rfl (by kernel_rfl) (by kernel_rfl) (by kernel_rfl) (by kernel_rfl) (by kernel_rfl) (by decide) (fun _ _ _ h => h) (Or.inl ⟨by rfl, fun w' hw' => ?_⟩) Q0 ?_
    · (try dsimp only at hw'); go_simp
    simp only [Act.put]
    refine wpAnyB_take 9 (v := .pointer (some ⟨w.heap.size, 5, none⟩)) rfl (by kernel_rfl) (by kernel_rfl) (by kernel_rfl) (by kernel_rfl) (by kernel_rfl) (by decide) (fun _ _ _ h => h) (Or.inl ⟨by rfl, fun w' hw' => ?_⟩) Q0 ?_
    · (try dsimp only at hw'); go_simp
    simp only [Act.put]
    refine wpAnyB_take 1 (v := .slice ba c.base.length bc) rfl (by kernel_rfl) (by kernel_rfl) (by kernel_rfl) (by kernel_rfl) (by kernel_rfl) (by decide) (fun _ _ _ h => h) (Or.inl ⟨by rfl, fun w' hw' => ?_⟩) Q0 ?_
    · (try dsimp only at hw'); go_simp
    simp only [Act.put]
    refine wpAnyB_take 4 (v := .slice na c.now.length nc) rfl (by kernel_rfl) (by kernel_rfl) (by kernel_rfl) (by kernel_rfl) (by kernel_rfl) (by decide) (fun _ _ _ h => h) (Or.inl ⟨by rfl, fun w' hw' => ?_⟩) Q0 ?_
    · (try dsimp only at hw'); go_simp
    simp only [Act.put]
    refine wpAnyB_take 7 (v := .slice sa c.sent.length sc) rfl (by kernel_rfl) (by kernel_rfl) (by kernel_rfl) (by kernel_rfl) (by kernel_rfl) (by decide) (fun _ _ _ h => h) (Or.inl ⟨by rfl, fun w' hw' => ?_⟩) Q0 ?_
    · (try dsimp only at hw'); go_simp
    simp only [Act.put]
    refine wpAnyB_take 10 (v := .slice ka c.held.length kc) rfl (by kernel_rfl) (by kernel_rfl) (by kernel_rfl) (by kernel_rfl) (by kernel_rfl) (by decide) (fun _ _ _ h => h) (Or.inl ⟨by rfl, fun w' hw' => ?_⟩) Q0 ?_
    · (try dsimp only at hw'); go_simp
    simp only [Act.put]
    refine wpAnyB_step 2 rfl (by kernel_rfl) (fun K' hK' => ?_)
    rw [if_pos (by rfl)]
    go_simp
    go_at_call 111
    refine (C1.out _ (kpCb Q0)).mono ?_
    rintro e wa ⟨ua, rfl, hra, hba⟩
    obtain ⟨aa, ca, rfl, _⟩ := RdS.len hra.rd
    have Qa := kpC Q0 hba
    go_wp2_with fail
    refine hK'.out _ _ Qa ?_
    clear hK' K'
    refine wpAnyB_take 12 (v := .pointer (some ⟨w.heap.size, 1, none⟩)) rfl (by kernel_rfl) (by kernel_rfl) (by kernel_rfl) (by kernel_rfl) (by kernel_rfl) (by decide) (fun _ _ _ h => h) (Or.inl ⟨by rfl, fun w' hw' => ?_⟩) Qa ?_
    · (try dsimp only at hw'); go_simp
    simp only [Act.put, List.setIfInBounds_toArray]
    refine wpAnyB_step 5 rfl (by kernel_rfl) (fun K' hK' => ?_)
    rw [if_pos (by rfl)]
    go_simp
    go_at_call 111
    refine (C2.out _ (kpCb Qa)).mono ?_
    rintro e wb ⟨ub, rfl, hrb, hbb⟩
    obtain ⟨ab, cb, rfl, _⟩ := RdS.len hrb.rd
    have Qb := kpC Qa hbb
    go_wp2_with fail
    refine hK'.out _ _ Qb ?_
    clear hK' K'
    refine wpAnyB_step 8 rfl (by kernel_rfl) (fun K' hK' => ?_)
    rw [if_pos (by rfl)]
    go_simp
    go_at_call 99
    refine (C4.out _ (kpCb Qb)).mono ?_
    rintro e wc ⟨uc, rfl, hrc, hbc⟩
    obtain ⟨ac, cc, rfl, _⟩ := RdS.len hrc
    have Qc := kpC Qb hbc
    go_wp2_with fail
    refine hK'.out _ _ Qc ?_
    clear hK' K'
    refine wpAnyB_step 11 rfl (by kernel_rfl) (fun K' hK' => ?_)
    rw [if_pos (by rfl)]
    go_simp
    go_at_call 99
    refine (C5.out _ (kpCb Qc)).mono ?_
    rintro e wd ⟨ud, rfl, hrd, hbd⟩
    obtain ⟨ad, cd, rfl, _⟩ := RdS.len hrd
    have Qd := kpC Qc hbd
    obtain ⟨hGd, hfd⟩ := kpCf hG1.out hlt1 Qc hbd
    have hwd : w.heap.size < wd.heap.size := lt_of_heap hGd
    obtain ⟨y0, y1, y2, y3, y4, y5, y6⟩ := P7.of hGd
    go_wp2_with fail
    refine hK'.out _ _ Qd ?_
    clear hK' K'
    refine wpAnyB_last 13 rfl (by kernel_rfl) (by kernel_rfl) (fun K' hK' => ?_)
    rw [if_pos (by rfl)]
    go_simp
    refine hK'.out _ _ ?_
    clear hK' K'
    refine wpAnyB_last 14 rfl (by kernel_rfl) (by kernel_rfl) (fun K' hK' => ?_)
    rw [if_pos (by rfl)]
    go_simp
    refine hK'.out _ _ ?_
    clear hK' K'
    refine wpAnyB_last 15 rfl (by kernel_rfl) (by kernel_rfl) (fun K' hK' => ?_)
    rw [if_pos (by rfl)]
    go_simp
    refine hK'.out _ _ ?_
    clear hK' K'
    refine wpAnyB_last 16 rfl (by kernel_rfl) (by kernel_rfl) (fun K' hK' => ?_)
    rw [if_pos (by rfl)]
    go_simp
    refine hK'.out _ _ ?_
    clear hK' K'
    refine wpAnyB_last 17 rfl (by kernel_rfl) (by kernel_rfl) (fun K' hK' => ?_)
    rw [if_pos (by rfl)]
    go_simp
    refine hK'.out _ _ ?_
    clear hK' K'
    refine wpAnyB_last 18 rfl (by kernel_rfl) (by kernel_rfl) (fun K' hK' => ?_)
    rw [if_pos (by rfl)]
    go_simp
    refine hK'.out _ _ ?_
    clear hK' K'
    refine wpAnyB_last 19 rfl (by kernel_rfl) (by kernel_rfl) (fun K' hK' => ?_)
    rw [if_pos (by rfl)]
    go_simp
    refine hK'.out _ _ ?_
    clear hK' K'
    refine wpAnyB_done (by kernel_rfl) ?_ _
    go_wp2_with fail
    go_meet
    obtain ⟨s1, s2⟩ := set1245 hGd (.slice aa c.base.length ca) (.slice ab c.now.length cb) (.slice ac c.sent.length cc) (.slice ad c.held.length cd)
    have hl2 := lt_of_heap hG2.out
    have za : w1.heap.size ≤ wa.heap.size := hba.size
    have zb : wa.heap.size ≤ wb.heap.size := hbb.size
    have zc : wb.heap.size ≤ wc.heap.size := hbc.size
    have zd : wc.heap.size ≤ wd.heap.size := hbd.size
    have hcd : ∀ k, k < wc.heap.size → k ≠ w.heap.size → ((((wd.setCell ⟨w.heap.size, 1, none⟩ (.slice aa c.base.length ca)).setCell ⟨w.heap.size, 2, none⟩ (.slice ab c.now.length cb)).setCell ⟨w.heap.size, 4, none⟩ (.slice ac c.sent.length cc)).setCell ⟨w.heap.size, 5, none⟩ (.slice ad c.held.length cd)).heap[k]? = wc.heap[k]? := fun k hk hn => (s2.same k (by omega) hn).trans (hbd.block k hk)
    have hbd' : ∀ k, k < wb.heap.size → k ≠ w.heap.size → _ = wb.heap[k]? := fun k hk hn => (hcd k (by omega) hn).trans (hbc.block k hk)
    have had : ∀ k, k < wa.heap.size → k ≠ w.heap.size → _ = wa.heap[k]? := fun k hk hn => (hbd' k (by omega) hn).trans (hbb.block k hk)
    refine ⟨trivial, _, _, _, _, s1, ⟨_, _, _, _, rfl, RItems.to hra.rd fun k h1 h2 => ⟨Or.inl ?_, had k h2 ?_⟩, RItems.to hrb.rd fun k h1 h2 => ⟨Or.inl ?_, hbd' k h2 ?_⟩, ROp.to hrc fun k h1 h2 => ⟨?_, hcd k h2 ?_⟩, ROp.to hrd fun k h1 h2 => ⟨?_, s2.same k h2 ?_⟩⟩, ?_, ?_⟩
    · have h1' : w1.heap.size ≤ k := h1
      omega
    · have h1' : w1.heap.size ≤ k := h1
      omega
    · have h1' : wa.heap.size ≤ k := h1
      omega
    · have h1' : wa.heap.size ≤ k := h1
      omega
    · rcases h1 with h1 | h1
      · exact Or.inl (by omega)
      · exact Or.inr h1
    · rcases h1 with h1 | h1
      · omega
      · have := h1.2; omega
    · rcases h1 with h1 | h1
      · exact Or.inl (by omega)
      · exact Or.inr h1
    · rcases h1 with h1 | h1
      · omega
      · have := h1.2; omega
    · exact (had _ (by omega) (by omega)).trans ((hba.block _ hl2).trans hG2.out)
    · exact hB1.out.trans ((kpCb Qd).mono hB1.out.size) |>.trans (s2.bel.mono (Nat.le_refl _))
  case rest =>
    obtain ⟨_, b', n', s', k', e1, hR, e2, hB⟩ := hcut
    obtain ⟨b1, b2, n1, n2, s1, s2, k1, k2, rfl, rfl, rfl, rfl⟩ := rcl_shape hR
    have hf2 : ∀ i, wc.frozen? ⟨w.heap.size + 1, i, none⟩ = false := fun i => Lib.frozen_of_heap e2 _
    obtain ⟨x0, x1, x2, x3, x4, x5, x6⟩ := P7.of e1
    obtain ⟨y0, y1, y2, y3, y4, y5, y6⟩ := P7.of e2
    have hlt2 : w.heap.size + 1 < wc.heap.size := lt_of_heap e2
    have E2 := Lib.hid e2
    have HR := Lib.hid hR
    have HB := Lib.hid hB
    clear e1 e2 hR hB hG1 hG2 hB1 C1 C2 C4 C5 Q Q0
    go_wp2
    obtain ⟨q1, q2⟩ := set7z E2.out (.int .i64 c.rev) (.slice b1 c.base.length b2) (.slice n1 c.now.length n2) (.int .i64 c.seq) (.slice s1 c.sent.length s2) (.slice k1 c.held.length k2) (.bool c.joined)
    generalize hwz : ((((((wc.setCell ⟨w.heap.size + 1, 0, none⟩ (.int .i64 c.rev)).setCell ⟨w.heap.size + 1, 1, none⟩ (.slice b1 c.base.length b2)).setCell ⟨w.heap.size + 1, 2, none⟩ (.slice n1 c.now.length n2)).setCell ⟨w.heap.size + 1, 3, none⟩ (.int .i64 c.seq)).setCell ⟨w.heap.size + 1, 4, none⟩ (.slice s1 c.sent.length s2)).setCell ⟨w.heap.size + 1, 5, none⟩ (.slice k1 c.held.length k2)).setCell ⟨w.heap.size + 1, 6, none⟩ (.bool c.joined) = wz at *
    obtain ⟨z0, z1, z2, z3, z4, z5, z6⟩ := P7.of q1
    exact bodyPost_ret (v := .agg #[.int .i64 c.rev, .slice b1 c.base.length b2, .slice n1 c.now.length n2, .int .i64 c.seq, .slice s1 c.sent.length s2, .slice k1 c.held.length k2, .bool c.joined]) (by simp [results, Try.results116, go_sem, z0, z1, z2, z3, z4, z5, z6]) rfl ⟨_, rfl, RCl.to HR.out (fun k h1 h2 => ⟨by rcases h1 with h1 | h1; exact Or.inl (by omega); exact Or.inr h1.1, q2.same k h2 (by rcases h1 with h1 | h1; omega; have := h1.2; omega)⟩), HB.out.trans (q2.bel.mono (by omega))⟩
end Go.Proofs.Ytgodceplajkcdaa
