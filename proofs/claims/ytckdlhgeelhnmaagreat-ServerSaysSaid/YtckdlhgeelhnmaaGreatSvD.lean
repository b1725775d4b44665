/- Package server: Copy: a server in memory of its own. -/
import Derived.Test.YtckdlhgeelhnmaaGreatSvB
import Derived.Test.YtckdlhgeelhnmaaGreatCloneE
import Derived.Test.YtckdlhgeelhnmaaGreatOpCopy
import Derived.Test.YtckdlhgeelhnmaaGreatRegT
import Derived.Deep.RegionHeld3
import Derived.Deep.DeepFit
import Derived.Deep.DeepCutAuto
namespace Go.Mh
open Go.RowKit
theorem kpS {g B : Nat} {v0 v1 v2 : Value} {w0 wc w' : World} (h : wc.cell? ⟨g, 0, none⟩ = some v0 ∧ wc.cell? ⟨g, 1, none⟩ = some v1 ∧ wc.cell? ⟨g, 2, none⟩ = some v2 ∧ B ≤ wc.heap.size ∧ Below B w0 wc) (hb : Below wc.heap.size wc w') :
    w'.cell? ⟨g, 0, none⟩ = some v0 ∧ w'.cell? ⟨g, 1, none⟩ = some v1 ∧ w'.cell? ⟨g, 2, none⟩ = some v2 ∧ B ≤ w'.heap.size ∧ Below B w0 w' :=
  ⟨(hb.cell (lt_of_cell h.1)).trans h.1, (hb.cell (lt_of_cell h.2.1)).trans h.2.1, (hb.cell (lt_of_cell h.2.2.1)).trans h.2.2.1, Nat.le_trans h.2.2.2.1 hb.size, h.2.2.2.2.trans (hb.mono h.2.2.2.1)⟩
theorem kpS_b {g B : Nat} {v0 v1 v2 : Value} {w0 wc : World} (h : wc.cell? ⟨g, 0, none⟩ = some v0 ∧ wc.cell? ⟨g, 1, none⟩ = some v1 ∧ wc.cell? ⟨g, 2, none⟩ = some v2 ∧ B ≤ wc.heap.size ∧ Below B w0 wc) : Below B w0 wc := h.2.2.2.2
theorem kpS_z {g B : Nat} {v0 v1 v2 : Value} {w0 wc : World} (h : wc.cell? ⟨g, 0, none⟩ = some v0 ∧ wc.cell? ⟨g, 1, none⟩ = some v1 ∧ wc.cell? ⟨g, 2, none⟩ = some v2 ∧ B ≤ wc.heap.size ∧ Below B w0 wc) : B ≤ wc.heap.size := h.2.2.2.1
theorem set021 {w : World} {g e : Nat} {u0 u1 u2 : Value} (h : w.heap[g]? = some (.cells #[u0, u1, u2] e (0, 0))) (v0 v2 v1 : Value) :
    (((w.setCell ⟨g, 0, none⟩ v0).setCell ⟨g, 2, none⟩ v2).setCell ⟨g, 1, none⟩ v1).heap[g]? = some (.cells #[v0, v1, v2] e (0, 0)) ∧ Stays g w (((w.setCell ⟨g, 0, none⟩ v0).setCell ⟨g, 2, none⟩ v2).setCell ⟨g, 1, none⟩ v1) := by
  constructor
  · have h1 : (w.setCell ⟨g, 0, none⟩ v0).heap[g]? = some (.cells #[v0, u1, u2] e (0, 0)) := by rw [heap_setCell_same _ g 0 _ e v0 h]; rfl
    have h2 : ((w.setCell ⟨g, 0, none⟩ v0).setCell ⟨g, 2, none⟩ v2).heap[g]? = some (.cells #[v0, u1, v2] e (0, 0)) := by rw [heap_setCell_same _ g 2 _ e v2 h1]; rfl
    rw [heap_setCell_same _ g 1 _ e v1 h2]; rfl
  · exact (Stays.set.trans Stays.set).trans Stays.set
theorem set012 {w : World} {g e : Nat} {u0 u1 u2 : Value} (h : w.heap[g]? = some (.cells #[u0, u1, u2] e (0, 0))) (v0 v1 v2 : Value) :
    (((w.setCell ⟨g, 0, none⟩ v0).setCell ⟨g, 1, none⟩ v1).setCell ⟨g, 2, none⟩ v2).heap[g]? = some (.cells #[v0, v1, v2] e (0, 0)) ∧ Stays g w (((w.setCell ⟨g, 0, none⟩ v0).setCell ⟨g, 1, none⟩ v1).setCell ⟨g, 2, none⟩ v2) := by
  constructor
  · have h1 : (w.setCell ⟨g, 0, none⟩ v0).heap[g]? = some (.cells #[v0, u1, u2] e (0, 0)) := by rw [heap_setCell_same _ g 0 _ e v0 h]; rfl
    have h2 : ((w.setCell ⟨g, 0, none⟩ v0).setCell ⟨g, 1, none⟩ v1).heap[g]? = some (.cells #[v0, v1, u2] e (0, 0)) := by rw [heap_setCell_same _ g 1 _ e v1 h1]; rfl
    rw [heap_setCell_same _ g 2 _ e v2 h2]; rfl
  · exact (Stays.set.trans Stays.set).trans Stays.set
theorem OwnS.mono {α : Type} {base base' e sz : Nat} {R : World → List Value → α → Prop} {w : World} {v : Value} {L : List α} (h : OwnS base e sz R w v L) (hb : base' ≤ base) : OwnS base' e sz R w v L := by
  obtain ⟨css, ⟨h0, h1⟩, h2⟩ := h
  refine ⟨css, ⟨h0, ?_⟩, h2⟩
  rcases h1 with h1 | ⟨g, cap, cur, e1, hg, hh⟩
  · exact Or.inl h1
  · exact Or.inr ⟨g, cap, cur, e1, Nat.le_trans hb hg, hh⟩
end Go.Mh
namespace Go.Proofs.YtckdlhgeelhnmaaGreat
open Go.RowKit Go.Mh

set_option maxRecDepth 100000 in
set_option maxHeartbeats 4000000 in
theorem svCopy_any (F : Nat → Prop) (v : Value) (s : Srv) (w : World) (h : RSrv F w v s) (ha : s.first.length ≤ 100000) (hn : s.now.length ≤ 100000) (hl : s.log.length ≤ 100000) (hO : ∀ x ∈ s.log, x.o.length ≤ 100000 ∧ ∀ p ∈ x.o, p.its.length ≤ 100000) :
    Calls Tryz.prog 44 #[v] w fun e w' => ∃ a l n, e = .returned (.agg #[a, l, n]) ∧ RItems (fun k => l.ownBlock ≠ some k) w' a s.first ∧ OwnS w.heap.size 41 3 (REn fun k => l.ownBlock ≠ some k) w' l s.log ∧ RItems (fun k => l.ownBlock ≠ some k) w' n s.now ∧ Below w.heap.size w w' := by
  have h := RSrv.to h (Kp.lt w)
  obtain ⟨a, l, n, rfl, h1, h2, h3⟩ := h
  obtain ⟨aa, ac, rfl, _⟩ := RdS.len h1
  obtain ⟨la, lc, rfl, _⟩ := RdS.len h2
  obtain ⟨na, nc, rfl, _⟩ := RdS.len h3
  obtain ⟨w1, hw1⟩ : ∃ w1, w1 = (w.alloc (.cells #[.slice aa s.first.length ac, .slice la s.log.length lc, .slice na s.now.length nc] 37)).alloc (.cells #[.slice none 0 0, .slice none 0 0, .slice none 0 0] 37) := ⟨_, rfl⟩
  have hb1 : Below w.heap.size w w1 := by rw [hw1]; exact bal (bal (brf w) _) _
  have hG1 := Lib.hid (by rw [hw1]; exact heap_at2 rfl : w1.heap[w.heap.size]? = some (.cells #[.slice aa s.first.length ac, .slice la s.log.length lc, .slice na s.now.length nc] 37 (0, 0)))
  have hG2 := Lib.hid (by rw [hw1]; exact heap_at (by simp) : w1.heap[w.heap.size + 1]? = some (.cells #[.slice none 0 0, .slice none 0 0, .slice none 0 0] 37 (0, 0)))
  have hlt1 := lt_of_heap hG1.out
  have C0 := Lib.hid (fun (w' : World) (hb : Below w1.heap.size w1 w') => cloneDoc_any _ _ s.first w' (RItems.to h1 (Kp.below (hb1.trans (hb.mono hb1.size)))) ha)
  have C2 := Lib.hid (fun (w' : World) (hb : Below w1.heap.size w1 w') => cloneDoc_any _ _ s.now w' (RItems.to h3 (Kp.below (hb1.trans (hb.mono hb1.size)))) hn)
  have C1 := Lib.hid (fun (w' : World) (hb : Below w1.heap.size w1 w') => cloneLog_any _ _ s.log w' (RLog.to h2 (Kp.below (hb1.trans (hb.mono hb1.size)))) hl)
  obtain ⟨x0, x1, x2⟩ := P3.of hG1.out
  have Q0 : w1.drew.cell? ⟨w.heap.size, 0, none⟩ = some (.slice aa s.first.length ac) ∧ w1.drew.cell? ⟨w.heap.size, 1, none⟩ = some (.slice la s.log.length lc) ∧ w1.drew.cell? ⟨w.heap.size, 2, none⟩ = some (.slice na s.now.length nc) ∧ w1.heap.size ≤ w1.drew.heap.size ∧ Below w1.heap.size w1 w1.drew := kpS ⟨x0, x1, x2, Nat.le_refl _, brf _⟩ (brf w1).drew
  have hB1 := Lib.hid hb1
  clear h1 h2 h3 x0 x1 x2 hb1
  go_enter Tryz.func44, Tryz.ntmps44
  go_upto_region 1 with fail
  rw [← hw1]
  clear hw1
  go_cut [7] (fun s7 wx => s7 = s7 ∧ ∃ B a' l' n', w1.heap.size ≤ B ∧ wx.heap[w.heap.size]? = some (.cells #[a', l', n'] 37 (0, 0)) ∧ wx.heap[w.heap.size + 1]? = some (.cells #[.slice none 0 0, .slice none 0 0, .slice none 0 0] 37 (0, 0)) ∧ RItems (fun k => w.heap.size + 1 < k ∧ k < B) wx a' s.first ∧ RItems (fun k => w.heap.size + 1 < k ∧ k < B) wx n' s.now ∧ OwnS B 41 3 (REn fun k => k < w.heap.size) wx l' s.log ∧ Below w.heap.size w wx)
  case first =>
    refine wp_region_B 10 (fun w' => w'.cell? ⟨w.heap.size, 0, none⟩ = some (.slice aa s.first.length ac) ∧ w'.cell? ⟨w.heap.size, 1, none⟩ = some (.slice la s.log.length lc) ∧ w'.cell? ⟨w.heap.size, 2, none⟩ = some (.slice na s.now.length nc) ∧ w1.heap.size ≤ w'.heap.size ∧ Below w1.heap.size w1 w') (by kernel_rfl) ?_
    refine wpAnyB_take 0 (v := .pointer (some ⟨w.heap.size, 0, none⟩)) rfl (by kernel_rfl) (by kernel_rfl) (by kernel_rfl) (by kernel_rfl) (by kernel_rfl) (by decide) (fun _ _ _ h => h) (Or.inl ⟨by rfl, fun w' hw' => ?_⟩) Q0 ?_
    · (try dsimp only at hw'); go_simp
    simp only [Act.put, List.setIfInBounds_toArray]
    refine wpAnyB_take 3 (v := .pointer (some ⟨w.heap.size, 2, none⟩)) rfl (by kernel_rfl) (by kernel_rfl) (by kernel_rfl) (by kernel_rfl) (by kernel_rfl) (by decide) (fun _ _ _ h => h) (Or.inl ⟨by rfl, fun w' hw' => ?_⟩) Q0 ?_
    · (try dsimp only at hw'); go_simp
    simp only [Act.put]
    refine wpAnyB_take 6 (v := .pointer (some ⟨w.heap.size, 1, none⟩)) rfl (by kernel_rfl) (by kernel_rfl) (by kernel_rfl) (by kernel_rfl) (by kernel_rfl) (by decide) (fun _ _ _ h => h) (Or.inl ⟨by rfl, fun w' hw' => ?_⟩) Q0 ?_
    · (try dsimp only at hw'); go_simp
    simp only [Act.put]
    refine wpAnyB_take 1 (v := .slice aa s.first.length ac) rfl (by kernel_rfl) (by kernel_rfl) (by kernel_rfl) (by kernel_rfl) (by kernel_rfl) (by decide) (fun _ _ _ h => h) (Or.inl ⟨by rfl, fun w' hw' => ?_⟩) Q0 ?_
    · (try dsimp only at hw'); go_simp
    simp only [Act.put]
    refine wpAnyB_take 4 (v := .slice na s.now.length nc) rfl (by kernel_rfl) (by kernel_rfl) (by kernel_rfl) (by kernel_rfl) (by kernel_rfl) (by decide) (fun _ _ _ h => h) (Or.inl ⟨by rfl, fun w' hw' => ?_⟩) Q0 ?_
    · (try dsimp only at hw'); go_simp
    simp only [Act.put]
    refine wpAnyB_take 7 (v := .slice la s.log.length lc) rfl (by kernel_rfl) (by kernel_rfl) (by kernel_rfl) (by kernel_rfl) (by kernel_rfl) (by decide) (fun _ _ _ h => h) (Or.inl ⟨by rfl, fun w' hw' => ?_⟩) Q0 ?_
    · (try dsimp only at hw'); go_simp
    simp only [Act.put]
    refine wpAnyB_step 2 rfl (by kernel_rfl) (fun K' hK' => ?_)
    rw [if_pos (by rfl)]
    go_simp
    go_at_call 42
    refine (C0.out _ (kpS_b Q0)).mono ?_
    rintro e wa ⟨ua, rfl, hra, hba⟩
    obtain ⟨aa', ca, rfl, _⟩ := RdS.len hra.rd
    have Qa := kpS Q0 hba
    go_wp2_with fail
    refine hK'.out _ _ Qa ?_
    clear hK' K'
    refine wpAnyB_take 9 (v := .pointer (some ⟨w.heap.size, 0, none⟩)) rfl (by kernel_rfl) (by kernel_rfl) (by kernel_rfl) (by kernel_rfl) (by kernel_rfl) (by decide) (fun _ _ _ h => h) (Or.inl ⟨by rfl, fun w' hw' => ?_⟩) Qa ?_
    · (try dsimp only at hw'); go_simp
    simp only [Act.put, List.setIfInBounds_toArray]
    refine wpAnyB_step 5 rfl (by kernel_rfl) (fun K' hK' => ?_)
    rw [if_pos (by rfl)]
    go_simp
    go_at_call 42
    refine (C2.out _ (kpS_b Qa)).mono ?_
    rintro e wb ⟨ub, rfl, hrb, hbb⟩
    obtain ⟨ab, cb, rfl, _⟩ := RdS.len hrb.rd
    have Qb := kpS Qa hbb
    go_wp2_with fail
    refine hK'.out _ _ Qb ?_
    clear hK' K'
    refine wpAnyB_step 8 rfl (by kernel_rfl) (fun K' hK' => ?_)
    rw [if_pos (by rfl)]
    go_simp
    go_at_call 80
    refine (C1.out _ (kpS_b Qb)).mono ?_
    rintro e wc ⟨uc, rfl, hrc, hbc⟩
    obtain ⟨ac', cc, rfl, _⟩ := RdS.len hrc.rd
    have Qc := kpS Qb hbc
    have hGc := (((kpS_b Qb).trans (hbc.mono (kpS_z Qb))).block w.heap.size hlt1).trans hG1.out
    have hfc : ∀ i, wc.frozen? ⟨w.heap.size, i, none⟩ = false := fun i => Lib.frozen_of_heap hGc _
    have hwc : w.heap.size < wc.heap.size := lt_of_heap hGc
    obtain ⟨y0, y1, y2⟩ := P3.of hGc
    go_wp2_with fail
    refine hK'.out _ _ Qc ?_
    clear hK' K'
    refine wpAnyB_last 10 rfl (by kernel_rfl) (by kernel_rfl) (fun K' hK' => ?_)
    rw [if_pos (by rfl)]
    go_simp
    refine hK'.out _ _ ?_
    clear hK' K'
    refine wpAnyB_last 11 rfl (by kernel_rfl) (by kernel_rfl) (fun K' hK' => ?_)
    rw [if_pos (by rfl)]
    go_simp
    refine hK'.out _ _ ?_
    clear hK' K'
    refine wpAnyB_last 12 rfl (by kernel_rfl) (by kernel_rfl) (fun K' hK' => ?_)
    rw [if_pos (by rfl)]
    go_simp
    refine hK'.out _ _ ?_
    clear hK' K'
    refine wpAnyB_last 13 rfl (by kernel_rfl) (by kernel_rfl) (fun K' hK' => ?_)
    rw [if_pos (by rfl)]
    go_simp
    refine hK'.out _ _ ?_
    clear hK' K'
    refine wpAnyB_last 14 rfl (by kernel_rfl) (by kernel_rfl) (fun K' hK' => ?_)
    rw [if_pos (by rfl)]
    go_simp
    refine hK'.out _ _ ?_
    clear hK' K'
    refine wpAnyB_done (by kernel_rfl) ?_ _
    go_wp2_with fail
    go_meet
    have hl2 := lt_of_heap hG2.out
    have z0 : w1.heap.size ≤ wa.heap.size := hba.size
    have z1 : wa.heap.size ≤ wb.heap.size := hbb.size
    have z2 : wb.heap.size ≤ wc.heap.size := hbc.size
    obtain ⟨s1, s2⟩ := set021 hGc (.slice aa' s.first.length ca) (.slice ab s.now.length cb) (.slice ac' s.log.length cc)
    have hcb : ∀ k, k < wb.heap.size → k ≠ w.heap.size → _ = wb.heap[k]? := fun k hk hne => (s2.same k (by omega) hne).trans (hbc.block k hk)
    have hab : ∀ k, k < wa.heap.size → k ≠ w.heap.size → _ = wa.heap[k]? := fun k hk hne => (hcb k (by omega) hne).trans (hbb.block k hk)
    refine ⟨trivial, wb.heap.size, _, _, _, Nat.le_trans z0 z1, s1, ?_, ?_, ?_, ?_, ?_⟩
    · exact (hab _ (by omega) (by omega)).trans ((hba.block _ hl2).trans hG2.out)
    · exact RItems.to hra.rd fun k h1 h2 => ⟨by have h1' : w1.heap.size ≤ k := h1; exact ⟨by omega, by omega⟩, hab k h2 (by have h1' : w1.heap.size ≤ k := h1; omega)⟩
    · exact RItems.to hrb.rd fun k h1 h2 => ⟨by have h1' : wa.heap.size ≤ k := h1; exact ⟨by omega, by omega⟩, hcb k h2 (by have h1' : wa.heap.size ≤ k := h1; omega)⟩
    · refine (OwnS.to hrc (fun k hk hl' => s2.same k hl' ?_) fun cs x _ r => REn.to r fun k h1 h2 => ⟨h1.1.2, s2.same k h2 (by have := h1.1.2; omega)⟩)
      have := (hrc.own_lt hk).1
      omega
    · exact hB1.out.trans ((kpS_b Qc).mono hB1.out.size) |>.trans (s2.bel.mono (Nat.le_refl _))
  case rest =>
    obtain ⟨_, B, a', l', n', hwB, e0, e1, ra, rn, rl, hB⟩ := hcut
    have hlt2 : w.heap.size + 1 < w1.heap.size := lt_of_heap hG2.out
    obtain ⟨a1, a2, rfl, _⟩ := RdS.len ra
    obtain ⟨n1, n2, rfl, _⟩ := RdS.len rn
    clear hG1 hG2 C0 C1 C2 Q0 hB1
    by_cases hne : s.log = []
    · obtain ⟨l1, l2, rfl, _⟩ := RdS.len rl.rd
      have ho1 := fun k (hk : (Value.slice l1 s.log.length l2).ownBlock = some k) => (rl.own_lt hk).1
      have RA := Lib.hid (RItems.to ra (Kp.weak wc fun k hk => ⟨by omega, fun he => by have := ho1 k he; omega⟩) : RItems (fun k => k ≠ w.heap.size + 1 ∧ (Value.slice l1 s.log.length l2).ownBlock ≠ some k) wc _ s.first)
      have RN := Lib.hid (RItems.to rn (Kp.weak wc fun k hk => ⟨by omega, fun he => by have := ho1 k he; omega⟩) : RItems (fun k => k ≠ w.heap.size + 1 ∧ (Value.slice l1 s.log.length l2).ownBlock ≠ some k) wc _ s.now)
      have RL := Lib.hid rl
      have hne' := Lib.hid hne
      have h0 : s.log.length = 0 := by simp [hne]
      rw [h0] at e0 RA RN RL
      have E0 := Lib.hid e0
      have E1 := Lib.hid e1
      clear rl ra rn e0 e1 hne h0
      obtain ⟨x0, x1, x2⟩ := P3.of E0.out
      obtain ⟨y0, y1, y2⟩ := P3.of E1.out
      have hfz : ∀ i, wc.frozen? ⟨w.heap.size + 1, i, none⟩ = false := fun i => Lib.frozen_of_heap E1.out _
      have hz2 := lt_of_heap E1.out
      go_wp2
      refine wp_loop_rounds 1 ?_
      rw [rounds_succ]
      go_wp2
      obtain ⟨q1, q2⟩ := set012 E1.out (.slice a1 s.first.length a2) (.slice l1 0 l2) (.slice n1 s.now.length n2)
      generalize hwz : (((wc.setCell ⟨w.heap.size + 1, 0, none⟩ _).setCell ⟨w.heap.size + 1, 1, none⟩ _).setCell ⟨w.heap.size + 1, 2, none⟩ _) = wz at *
      obtain ⟨t0, t1, t2⟩ := P3.of q1
      exact bodyPost_ret (v := .agg #[.slice a1 s.first.length a2, .slice l1 0 l2, .slice n1 s.now.length n2]) (by simp [results, Tryz.results44, go_sem, t0, t1, t2]) rfl ⟨_, _, _, rfl, RItems.to RA.out (fun i hi hl' => ⟨hi.2, q2.same i hl' hi.1⟩), OwnS.mono (OwnS.to RL.out (fun i hi hl' => q2.same i hl' (by have := (RL.out.own_lt hi).1; omega)) (fun cs y hy _ => by rw [hne'.out] at hy; simp at hy)) (by omega), RItems.to RN.out (fun i hi hl' => ⟨hi.2, q2.same i hl' hi.1⟩), hB.trans (q2.bel.mono (by omega))⟩
    · obtain ⟨gb, cap, cur, rfl, hgb, hh⟩ := rl.shape hne
      have hoF := Lib.hid (rl.to (fun _ _ _ => rfl) fun cs x _ r => REn.to r (Kp.weak wc fun k hk => ⟨by omega, by omega, by omega⟩) : OwnS B 41 3 (REn fun k => k ≠ gb ∧ k ≠ w.heap.size ∧ k ≠ w.heap.size + 1) wc (.slice (some ⟨gb, 0, none⟩) s.log.length cap) s.log)
      have RA := Lib.hid (RItems.to ra (Kp.weak wc fun k hk => ⟨by omega, by omega, by omega⟩) : RItems (fun k => k ≠ gb ∧ k ≠ w.heap.size ∧ k ≠ w.heap.size + 1) wc _ s.first)
      have RN := Lib.hid (RItems.to rn (Kp.weak wc fun k hk => ⟨by omega, by omega, by omega⟩) : RItems (fun k => k ≠ gb ∧ k ≠ w.heap.size ∧ k ≠ w.heap.size + 1) wc _ s.now)
      obtain ⟨x0, x1, x2⟩ := P3.of e0
      have E0 := Lib.hid e0
      have E1 := Lib.hid e1
      clear rl ra rn hh e0 e1 hne
      go_wp2
      go_loopw [20] (fun i wr => ∃ k : Nat, k ≤ s.log.length ∧ i = .int .i64 k ∧ OwnS B 41 3 (REn fun k => k ≠ gb ∧ k ≠ w.heap.size ∧ k ≠ w.heap.size + 1) wr (.slice (some ⟨gb, 0, none⟩) s.log.length cap) s.log ∧ wr.heap[w.heap.size]? = some (.cells #[.slice a1 s.first.length a2, .slice (some ⟨gb, 0, none⟩) s.log.length cap, .slice n1 s.now.length n2] 37 (0, 0)) ∧ wr.heap[w.heap.size + 1]? = some (.cells #[.slice none 0 0, .slice none 0 0, .slice none 0 0] 37 (0, 0)) ∧ RItems (fun k => k ≠ gb ∧ k ≠ w.heap.size ∧ k ≠ w.heap.size + 1) wr (.slice a1 s.first.length a2) s.first ∧ RItems (fun k => k ≠ gb ∧ k ≠ w.heap.size ∧ k ≠ w.heap.size + 1) wr (.slice n1 s.now.length n2) s.now ∧ Below w.heap.size w wr) (fun i _ => s.log.length - (intOf i).toNat)
      case atStart => exact ⟨0, Nat.zero_le _, rfl, hoF.out, E0.out, E1.out, RA.out, RN.out, hB⟩
      case round =>
        clear x0 x1 x2
        obtain ⟨k, hk, rfl, ho, e0, e1, ra, rn, hb⟩ := hrel
        have ho' := Lib.hid ho
        have E0 := Lib.hid e0
        have E1 := Lib.hid e1
        have RA := Lib.hid ra
        have RN := Lib.hid rn
        clear ho e0 e1 ra rn
        by_cases hlt : k < s.log.length
        · obtain ⟨x, hx⟩ : ∃ x, s.log[k]? = some x := ⟨_, List.getElem?_eq_getElem hlt⟩
          obtain ⟨b, o, cs, e1', _, _, hat, ov, hcs, hr⟩ := ho'.out.rd.el k x hx
          cases e1'
          subst hcs
          obtain ⟨c0, c1, c2⟩ := hat.three
          obtain ⟨oa, oc, rfl, _⟩ := RdS.len hr
          simp only [Nat.zero_add] at c0 c1 c2
          have hbs : gb < wr.heap.size := lt_of_cell c0
          have hgs := lt_of_heap E0.out
          have hxm := List.mem_of_getElem? hx
          clear hat
          go_upto_region 5 with fail
          refine name_world ?_
          intro ws hWs
          have hbw : Below wr.heap.size wr ws := by rw [← hWs]; exact bal (brf _) _
          have hBox : ws.heap[wr.heap.size]? = some (.cells #[.int .i64 x.client, .int .i64 x.seq, .slice oa x.o.length oc] 41 (0, 0)) := by rw [← hWs]; exact heap_at rfl
          obtain ⟨x0, x1, x2⟩ := P3.of ((hbw.block _ hgs).trans E0.out)
          obtain ⟨y0, y1, y2⟩ := P3.of hBox
          have Q0 : ws.drew.cell? ⟨w.heap.size, 1, none⟩ = some (.slice (some ⟨gb, 0, none⟩) s.log.length cap) ∧ ws.drew.cell? ⟨wr.heap.size, 2, none⟩ = some (.slice oa x.o.length oc) := ⟨x1, y2⟩
          clear hWs
          refine wp_region_B 8 (fun w' => w'.cell? ⟨w.heap.size, 1, none⟩ = some (.slice (some ⟨gb, 0, none⟩) s.log.length cap) ∧ w'.cell? ⟨wr.heap.size, 2, none⟩ = some (.slice oa x.o.length oc)) (by kernel_rfl) ?_
          refine wpAnyB_take 0 (v := .pointer (some ⟨w.heap.size, 1, none⟩)) rfl (by kernel_rfl) (by kernel_rfl) (by kernel_rfl) (by kernel_rfl) (by kernel_rfl) (by decide) (fun _ _ _ h => h) (Or.inl ⟨by rfl, fun w' hw' => ?_⟩) Q0 ?_
          · (try dsimp only at hw'); go_simp
          simp only [Act.put, List.setIfInBounds_toArray]
          refine wpAnyB_take 1 (v := .slice (some ⟨gb, 0, none⟩) s.log.length cap) rfl (by kernel_rfl) (by kernel_rfl) (by kernel_rfl) (by kernel_rfl) (by kernel_rfl) (by decide) (fun _ _ _ h => h) (Or.inl ⟨by rfl, fun w' hw' => ?_⟩) Q0 ?_
          · (try dsimp only at hw'); go_simp
          simp only [Act.put]
          refine wpAnyB_take 2 (v := .int .i64 k) rfl (by kernel_rfl) (by kernel_rfl) (by kernel_rfl) (by kernel_rfl) (by kernel_rfl) (by decide) (fun _ _ _ h => h) (Or.inl ⟨by rfl, fun w' hw' => ?_⟩) Q0 ?_
          · (try dsimp only at hw'); go_simp
          simp only [Act.put]
          refine wpAnyB_take 3 (v := .pointer (some ⟨wr.heap.size, 2, none⟩)) rfl (by kernel_rfl) (by kernel_rfl) (by kernel_rfl) (by kernel_rfl) (by kernel_rfl) (by decide) (fun _ _ _ h => h) (Or.inl ⟨by rfl, fun w' hw' => ?_⟩) Q0 ?_
          · (try dsimp only at hw'); go_simp
          simp only [Act.put]
          refine wpAnyB_take 4 (v := .slice oa x.o.length oc) rfl (by kernel_rfl) (by kernel_rfl) (by kernel_rfl) (by kernel_rfl) (by kernel_rfl) (by decide) (fun _ _ _ h => h) (Or.inl ⟨by rfl, fun w' hw' => ?_⟩) Q0 ?_
          · (try dsimp only at hw'); go_simp
          simp only [Act.put]
          refine wpAnyB_step 5 rfl (by kernel_rfl) (fun K' hK' => ?_)
          rw [if_pos (by rfl)]
          go_simp
          go_at_call 81
          refine (opCopy_any _ _ x.o _ (ROp.to hr (Kp.below hbw.drew)) (hO x hxm).1 (hO x hxm).2).mono ?_
          rintro e wd ⟨rd, rfl, hrd, hbd⟩
          obtain ⟨da, dc, rfl, _⟩ := RdS.len hrd
          have hbwd : Below wr.heap.size wr wd := hbw.drew.trans (hbd.mono hbw.drew.size)
          obtain ⟨u0, u1, u2⟩ := P3.of ((hbwd.block _ hgs).trans E0.out)
          have hBd := (hbd.block wr.heap.size (lt_of_heap hBox)).trans hBox
          obtain ⟨v0, v1, v2⟩ := P3.of hBd
          go_wp2_with fail
          refine hK'.out _ _ ⟨u1, v2⟩ ?_
          clear hK' K'
          refine wpAnyB_step 6 rfl (by kernel_rfl) (fun K' hK' => ?_)
          rw [if_pos (by rfl)]
          go_simp
          refine hK'.out _ _ ⟨u1, v2⟩ ?_
          clear hK' K'
          refine wpAnyB_step 7 rfl (by kernel_rfl) (fun K' hK' => ?_)
          rw [if_pos (by rfl)]
          go_simp
          refine hK'.out _ _ ⟨u1, v2⟩ ?_
          clear hK' K'
          have hg1s := lt_of_heap E1.out
          have hBw : w1.heap.size ≤ gb := Nat.le_trans hwB hgb
          have zws : wr.heap.size ≤ ws.heap.size := hbw.size
          have hoW := Lib.hid (ho'.out.below hbwd fun cs y _ r => REn.to r (Kp.below hbwd))
          obtain ⟨_, _, cur2, e2, _, hh⟩ := hoW.out.shape (by intro e; rw [e] at hlt; simp at hlt)
          cases e2
          have f2 : wd.frozen? ⟨gb, k * 3 + 2, none⟩ = false := Lib.frozen_of_heap hh _
          have c2' : wd.cell? ⟨gb, k * 3 + 2, none⟩ = some (.slice oa x.o.length oc) := (hbwd.cell (p := ⟨gb, k * 3 + 2, none⟩) hbs).trans c2
          have hgd : gb < wd.heap.size := lt_of_heap hh
          have Rd : Hid (ROp (fun k => k ≠ gb ∧ k ≠ w.heap.size ∧ k ≠ w.heap.size + 1) (wd.setCell ⟨gb, k * 3 + 2, none⟩ (.slice da x.o.length dc)) (.slice da x.o.length dc) x.o) := Lib.hid (ROp.to hrd fun i h1 _ => by
            have h1' : ws.heap.size ≤ i ∨ (i ≠ gb ∧ i ≠ w.heap.size ∧ i ≠ w.heap.size + 1) := h1
            have hn : i ≠ gb ∧ i ≠ w.heap.size ∧ i ≠ w.heap.size + 1 := by
              rcases h1' with h | h
              · exact ⟨by omega, by omega, by omega⟩
              · exact h
            exact ⟨hn, heap_setCell_other wd _ i _ hn.1⟩)
          have hset := Lib.hid (hoW.out.set hx (j := 2) (x' := x) (R' := REn (fun k => k ≠ gb ∧ k ≠ w.heap.size ∧ k ≠ w.heap.size + 1)) (by decide) (.slice da x.o.length dc) rfl (fun cs y _ r => REn.to r fun i hi _ => ⟨hi, heap_setCell_other _ _ i _ hi.1⟩) (fun cs hcs r => by
            obtain ⟨ov', rfl, _⟩ := r
            exact ⟨_, rfl, Rd.out⟩))
          rw [set_self hx] at hset
          have hkeep : ∀ i, i < wr.heap.size → i ≠ gb → (wd.setCell ⟨gb, k * 3 + 2, none⟩ (.slice da x.o.length dc)).heap[i]? = wr.heap[i]? := fun i hi hne => (heap_setCell_other wd _ i _ hne).trans (hbwd.block i hi)
          have E0' := Lib.hid ((hkeep _ hgs (by omega)).trans E0.out)
          have E1' := Lib.hid ((hkeep _ hg1s (by omega)).trans E1.out)
          have RA' := Lib.hid (RItems.to RA.out (fun i hi hl' => ⟨hi, hkeep i hl' hi.1⟩) : RItems (fun k => k ≠ gb ∧ k ≠ w.heap.size ∧ k ≠ w.heap.size + 1) (wd.setCell ⟨gb, k * 3 + 2, none⟩ (.slice da x.o.length dc)) _ s.first)
          have RN' := Lib.hid (RItems.to RN.out (fun i hi hl' => ⟨hi, hkeep i hl' hi.1⟩) : RItems (fun k => k ≠ gb ∧ k ≠ w.heap.size ∧ k ≠ w.heap.size + 1) (wd.setCell ⟨gb, k * 3 + 2, none⟩ (.slice da x.o.length dc)) _ s.now)
          have hbF : Below w.heap.size w (wd.setCell ⟨gb, k * 3 + 2, none⟩ (.slice da x.o.length dc)) := (hb.trans (hbwd.mono hb.size)).setCell (by show w.heap.size ≤ gb; omega) _
          clear hh hoW hrd hr hx Rd hkeep
          refine wpAnyB_last 8 rfl (by kernel_rfl) (by kernel_rfl) (fun K' hK' => ?_)
          rw [if_pos (by rfl)]
          go_simp
          refine hK'.out _ _ ?_
          clear hK' K'
          refine wpAnyB_done (by kernel_rfl) ?_ _
          go_wp2
          go_roundw
          case rel => exact ⟨k + 1, by omega, by go_num, hset.out, E0'.out, E1'.out, RA'.out, RN'.out, hbF⟩
          case measure => simp [intOf]; omega
        · have hBw : w1.heap.size ≤ B := hwB
          obtain rfl : k = s.log.length := by omega
          obtain ⟨x0, x1, x2⟩ := P3.of E0.out
          obtain ⟨y0, y1, y2⟩ := P3.of E1.out
          have hfz : ∀ i, wr.frozen? ⟨w.heap.size + 1, i, none⟩ = false := fun i => Lib.frozen_of_heap E1.out _
          have hz2 := lt_of_heap E1.out
          go_wp2
          obtain ⟨q1, q2⟩ := set012 E1.out (.slice a1 s.first.length a2) (.slice (some ⟨gb, 0, none⟩) s.log.length cap) (.slice n1 s.now.length n2)
          generalize hwz : (((wr.setCell ⟨w.heap.size + 1, 0, none⟩ _).setCell ⟨w.heap.size + 1, 1, none⟩ _).setCell ⟨w.heap.size + 1, 2, none⟩ _) = wz at *
          obtain ⟨t0, t1, t2⟩ := P3.of q1
          exact bodyPost_ret (v := .agg #[.slice a1 s.first.length a2, .slice (some ⟨gb, 0, none⟩) s.log.length cap, .slice n1 s.now.length n2]) (by simp [results, Tryz.results44, go_sem, t0, t1, t2]) rfl ⟨_, _, _, rfl, RItems.to RA.out (fun i hi hl' => ⟨by simp [Value.ownBlock]; exact fun h => hi.1 h.symm, q2.same i hl' hi.2.2⟩), OwnS.mono (OwnS.to ho'.out (fun i hi hl' => q2.same i hl' (by have := (ho'.out.own_lt hi).1; omega)) (fun cs y _ r => REn.to r fun i hi hl' => ⟨by simp [Value.ownBlock]; exact fun h => hi.1 h.symm, q2.same i hl' hi.2.2⟩)) (by omega), RItems.to RN.out (fun i hi hl' => ⟨by simp [Value.ownBlock]; exact fun h => hi.1 h.symm, q2.same i hl' hi.2.2⟩), hb.trans (q2.bel.mono (by omega))⟩
end Go.Proofs.YtckdlhgeelhnmaaGreat
/- Package server: New. -/
namespace Go.Mh
open Go.RowKit
def newS (d : List It) : Srv × Int := if chkDoc d ≠ 0 then (srv0, chkDoc d) else (⟨d, [], d⟩, 0)
theorem RSrv.zero {F : Nat → Prop} {w : World} : RSrv F w (.agg #[.slice none 0 0, .slice none 0 0, .slice none 0 0]) srv0 := ⟨_, _, _, rfl, RdS.nil, RdS.nil, RdS.nil⟩
end Go.Mh
namespace Go.Proofs.YtckdlhgeelhnmaaGreat
open Go.RowKit Go.Mh
abbrev svZero : Obj := .cells #[.slice none 0 0, .slice none 0 0, .slice none 0 0] 37

set_option maxRecDepth 100000 in
set_option maxHeartbeats 2000000 in
theorem svNew_any (F : Nat → Prop) (v : Value) (d : List It) (w : World) (h : RItems F w v d) :
    Calls Tryz.prog 9 #[v] w fun e w' => ∃ v', e = .returned (.tuple #[v', .int .i64 (newS d).2]) ∧ RSrv (fun _ => True) w' v' (newS d).1 ∧ Below w.heap.size w w' := by
  have h := RItems.to h (Kp.lt w)
  obtain ⟨a, cc, rfl, _⟩ := RdS.len h
  obtain ⟨w1, hw1⟩ : ∃ w1, w1 = w.alloc svZero := ⟨_, rfl⟩
  have hb1 : Below w.heap.size w w1 := by rw [hw1]; exact bal (brf w) _
  have hG := Lib.hid (by rw [hw1]; exact heap_at rfl : w1.heap[w.heap.size]? = some svZero)
  have H := Lib.hid h
  clear h
  have hres : ∃ r, Hid (newS d = r) := ⟨_, Lib.hid rfl⟩
  obtain ⟨⟨R1, R2⟩, hres⟩ := hres
  rw [hres.out]
  go_enter Tryz.func9, Tryz.ntmps9
  go_upto_region 1 with fail
  rw [← hw1]
  clear hw1
  go_wp2_with fail
  refine (check_any _ _ d w1 (RItems.to H.out (Kp.below hb1))).mono ?_
  rintro e w2 ⟨rfl, hb2⟩
  have hz := lt_of_heap hG.out
  have hB2 := hb1.trans (hb2.mono hb1.size)
  have hG2 := Lib.hid ((hb2.block _ hz).trans hG.out)
  clear hG hb1 hb2 hz
  by_cases hk : chkDoc d = 0
  · have hr := hres.out
    rw [newS, if_neg (by simpa using hk)] at hr
    cases hr
    have hl : d.length ≤ 100000 := by have := (chkDoc_ok hk).2; omega
    rw [hk]
    clear hk hres
    go_wp2_with fail
    refine (cloneDoc_any _ _ d w2 (RItems.to H.out (Kp.below hB2)) hl).mono ?_
    rintro e w3 ⟨u3, rfl, hu3, hb3⟩
    have hB3 := hB2.trans (hb3.mono hB2.size)
    have hz2 := lt_of_heap hG2.out
    have hG3 := Lib.hid ((hb3.block _ hz2).trans hG2.out)
    have U3 := Lib.hid hu3.rd
    clear hu3 hG2
    go_wp2_with fail
    refine (cloneDoc_any _ _ d w3 (RItems.to H.out (Kp.below hB3)) hl).mono ?_
    rintro e w4 ⟨u4, rfl, hu4, hb4⟩
    have hB4 := hB3.trans (hb4.mono hB3.size)
    have hz3 := lt_of_heap hG3.out
    have hG4 := Lib.hid ((hb4.block _ hz3).trans hG3.out)
    have U4 := Lib.hid hu4.rd
    have U3' := Lib.hid (RItems.to U3.out (Kp.below hb4))
    obtain ⟨a3, c3, rfl, _⟩ := RdS.len U3.out
    obtain ⟨a4, c4, rfl, _⟩ := RdS.len U4.out
    have hfz2 : ∀ i, w4.frozen? ⟨w.heap.size, i, none⟩ = false := fun i => Lib.frozen_of_heap hG4.out _
    have hz4 := lt_of_heap hG4.out
    obtain ⟨y0, y1, y2⟩ := P3.of hG4.out
    clear hu4 U3 hG3 hB2 hB3
    go_wp2
    obtain ⟨q1, q2⟩ := set012 hG4.out (.slice a3 d.length c3) (.slice none 0 0) (.slice a4 d.length c4)
    generalize hwz : (((w4.setCell ⟨w.heap.size, 0, none⟩ _).setCell ⟨w.heap.size, 1, none⟩ _).setCell ⟨w.heap.size, 2, none⟩ _) = wz at *
    obtain ⟨z0, z1, z2⟩ := P3.of q1
    exact bodyPost_ret (v := .tuple #[.agg #[.slice a3 d.length c3, .slice none 0 0, .slice a4 d.length c4], .int .i64 0]) (by simp [results, Tryz.results9, go_sem, z0, z1, z2]) rfl ⟨_, rfl, ⟨_, _, _, rfl, RItems.to U3'.out (fun i hi hl' => ⟨trivial, q2.same i hl' (by omega)⟩), RdS.nil, RItems.to U4.out (fun i hi hl' => ⟨trivial, q2.same i hl' (by omega)⟩)⟩, hB4.trans (q2.bel.mono (Nat.le_refl _))⟩
  · have hr := hres.out
    rw [newS, if_pos hk] at hr
    cases hr
    have hk' : (chkDoc d != 0) = true := by simpa using hk
    have hfz2 : ∀ i, w2.frozen? ⟨w.heap.size, i, none⟩ = false := fun i => Lib.frozen_of_heap hG2.out _
    have hz2 := lt_of_heap hG2.out
    obtain ⟨y0, y1, y2⟩ := P3.of hG2.out
    clear hk hres
    go_wp2
    obtain ⟨q1, q2⟩ := set012 hG2.out (.slice none 0 0) (.slice none 0 0) (.slice none 0 0)
    generalize hwz : (((w2.setCell ⟨w.heap.size, 0, none⟩ _).setCell ⟨w.heap.size, 1, none⟩ _).setCell ⟨w.heap.size, 2, none⟩ _) = wz at *
    obtain ⟨z0, z1, z2⟩ := P3.of q1
    exact bodyPost_ret (v := .tuple #[.agg #[.slice none 0 0, .slice none 0 0, .slice none 0 0], .int .i64 (chkDoc d)]) (by simp [results, Tryz.results9, go_sem, z0, z1, z2]) rfl ⟨_, rfl, RSrv.zero, hB2.trans (q2.bel.mono (Nat.le_refl _))⟩
end Go.Proofs.YtckdlhgeelhnmaaGreat
