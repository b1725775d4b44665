/- Package client: New; the laws' puts; the closed fact 'heard'. -/
import Derived.Test.YtgodceplajkcdaaClF
import Derived.Test.YtgodceplajkcdaaPuts
namespace Go.Mh
open Go.RowKit
def newC (d : List It) : Cl × Int := if chkDoc d ≠ 0 then (cl0, chkDoc d) else (⟨0, d, d, 0, [], [], true⟩, 0)
end Go.Mh
namespace Go.Proofs.Ytgodceplajkcdaa
open Go.RowKit Go.Mh

set_option maxRecDepth 100000 in
set_option maxHeartbeats 2000000 in
theorem clNew_any (F : Nat → Prop) (v : Value) (d : List It) (w : World) (h : RItems F w v d) :
    Calls Try.prog 66 #[v] w fun e w' => ∃ v', e = .returned (.tuple #[v', .int .i64 (newC d).2]) ∧ RCl (fun _ => True) w' v' (newC d).1 ∧ Below w.heap.size w w' := by
  have h := RItems.to h (Kp.lt w)
  obtain ⟨a, cc, rfl, _⟩ := RdS.len h
  obtain ⟨w1, hw1⟩ : ∃ w1, w1 = w.alloc clZero := ⟨_, rfl⟩
  have hb1 : Below w.heap.size w w1 := by rw [hw1]; exact bal (brf w) _
  have hG := Lib.hid (by rw [hw1]; exact heap_at rfl : w1.heap[w.heap.size]? = some clZero)
  have H := Lib.hid h
  clear h
  have hres : ∃ r, Hid (newC d = r) := ⟨_, Lib.hid rfl⟩
  obtain ⟨⟨R1, R2⟩, hres⟩ := hres
  rw [hres.out]
  go_enter Try.func66, Try.ntmps66
  go_upto_region 1 with fail
  rw [← hw1]
  clear hw1
  go_wp2_with fail
  refine (check_any _ _ d w1 (RItems.to H.out (Kp.below hb1))).mono ?_
  rintro e w2 ⟨rfl, hb2⟩
  have hz := lt_of_heap hG.out
  have hB2 := hb1.trans (hb2.mono hb1.size)
  have hG2 := Lib.hid ((hb2.block _ hz).trans hG.out)
  clear hG hb1 hb2 hz
  by_cases hk : chkDoc d = 0
  · have hr := hres.out
    rw [newC, if_neg (by simpa using hk)] at hr
    cases hr
    have hl : d.length ≤ 100000 := by have := (chkDoc_ok hk).2; omega
    rw [hk]
    clear hk hres
    go_wp2_with fail
    refine (cloneDoc_any _ _ d w2 (RItems.to H.out (Kp.below hB2)) hl).mono ?_
    rintro e w3 ⟨u3, rfl, hu3, hb3⟩
    have hB3 := hB2.trans (hb3.mono hB2.size)
    have hz2 := lt_of_heap hG2.out
    have hG3 := Lib.hid ((hb3.block _ hz2).trans hG2.out)
    have U3 := Lib.hid hu3.rd
    clear hu3 hG2
    go_wp2_with fail
    refine (cloneDoc_any _ _ d w3 (RItems.to H.out (Kp.below hB3)) hl).mono ?_
    rintro e w4 ⟨u4, rfl, hu4, hb4⟩
    have hB4 := hB3.trans (hb4.mono hB3.size)
    have hz3 := lt_of_heap hG3.out
    have hG4 := Lib.hid ((hb4.block _ hz3).trans hG3.out)
    have U4 := Lib.hid hu4.rd
    have U3' := Lib.hid (RItems.to U3.out (Kp.below hb4))
    obtain ⟨a3, c3, rfl, _⟩ := RdS.len U3.out
    obtain ⟨a4, c4, rfl, _⟩ := RdS.len U4.out
    have hfz2 : ∀ i, w4.frozen? ⟨w.heap.size, i, none⟩ = false := fun i => Lib.frozen_of_heap hG4.out _
    have hz4 := lt_of_heap hG4.out
    obtain ⟨y0, y1, y2, y3, y4, y5, y6⟩ := P7.of hG4.out
    clear hu4 U3 hG3 hB2 hB3
    go_wp2
    obtain ⟨q1, q2⟩ := set7z hG4.out (.int .i64 0) (.slice a3 d.length c3) (.slice a4 d.length c4) (.int .i64 0) (.slice none 0 0) (.slice none 0 0) (.bool true)
    generalize hwz : (((((((w4.setCell ⟨w.heap.size, 0, none⟩ _).setCell ⟨w.heap.size, 1, none⟩ _).setCell ⟨w.heap.size, 2, none⟩ _).setCell ⟨w.heap.size, 3, none⟩ _).setCell ⟨w.heap.size, 4, none⟩ _).setCell ⟨w.heap.size, 5, none⟩ _).setCell ⟨w.heap.size, 6, none⟩ _) = wz at *
    obtain ⟨z0, z1, z2, z3, z4, z5, z6⟩ := P7.of q1
    exact bodyPost_ret (v := .tuple #[.agg #[.int .i64 0, .slice a3 d.length c3, .slice a4 d.length c4, .int .i64 0, .slice none 0 0, .slice none 0 0, .bool true], .int .i64 0]) (by simp [results, Try.results66, go_sem, z0, z1, z2, z3, z4, z5, z6]) rfl ⟨_, rfl, ⟨_, _, _, _, rfl, RItems.to U3'.out (fun i hi hl' => ⟨trivial, q2.same i hl' (by omega)⟩), RItems.to U4.out (fun i hi hl' => ⟨trivial, q2.same i hl' (by omega)⟩), RdS.nil, RdS.nil⟩, hB4.trans (q2.bel.mono (Nat.le_refl _))⟩
  · have hr := hres.out
    rw [newC, if_pos hk] at hr
    cases hr
    have hk' : (chkDoc d != 0) = true := by simpa using hk
    have hfz2 : ∀ i, w2.frozen? ⟨w.heap.size, i, none⟩ = false := fun i => Lib.frozen_of_heap hG2.out _
    have hz2 := lt_of_heap hG2.out
    obtain ⟨y0, y1, y2, y3, y4, y5, y6⟩ := P7.of hG2.out
    clear hk hres
    go_wp2
    obtain ⟨q1, q2⟩ := set7z hG2.out (.int .i64 0) (.slice none 0 0) (.slice none 0 0) (.int .i64 0) (.slice none 0 0) (.slice none 0 0) (.bool false)
    generalize hwz : (((((((w2.setCell ⟨w.heap.size, 0, none⟩ _).setCell ⟨w.heap.size, 1, none⟩ _).setCell ⟨w.heap.size, 2, none⟩ _).setCell ⟨w.heap.size, 3, none⟩ _).setCell ⟨w.heap.size, 4, none⟩ _).setCell ⟨w.heap.size, 5, none⟩ _).setCell ⟨w.heap.size, 6, none⟩ _) = wz at *
    obtain ⟨z0, z1, z2, z3, z4, z5, z6⟩ := P7.of q1
    exact bodyPost_ret (v := .tuple #[.agg #[.int .i64 0, .slice none 0 0, .slice none 0 0, .int .i64 0, .slice none 0 0, .slice none 0 0, .bool false], .int .i64 (chkDoc d)]) (by simp [results, Try.results66, go_sem, z0, z1, z2, z3, z4, z5, z6]) rfl ⟨_, rfl, RCl.zero, hB2.trans (q2.bel.mono (Nat.le_refl _))⟩
end Go.Proofs.Ytgodceplajkcdaa
/- The closed fact 'heard' of the laws on clients. -/
namespace Go.Mh
open Go.RowKit

theorem RCl.ne {F : Nat → Prop} {w : World} {v : Value} {c : Cl} {g : Nat} (h : RCl F w v c) (hg : NoIt w g) : RCl (fun k => F k ∧ k ≠ g) w v c := by
  obtain ⟨b, n, s, k, e, h1, h2, h3, h4⟩ := h
  exact ⟨b, n, s, k, e, RItems.ne h1 hg, RItems.ne h2 hg, ROp.ne h3 hg, ROp.ne h4 hg⟩
theorem CAt.noIt {e : TypeId} {F : Nat → Prop} {w : World} {g : Nat} {c : Cl} (h : CAt e F w g c) : NoIt w g := by
  obtain ⟨_, _, b, n, s, k, h0, h1, h2, h3, h4⟩ := h
  obtain ⟨a1, c1, e1, _⟩ := h1
  obtain ⟨a2, c2, e2, _⟩ := h2
  obtain ⟨a3, c3, e3, _⟩ := h3
  obtain ⟨a4, c4, e4, _⟩ := h4
  exact NoIt.of ⟨_, _, _, e1⟩ ⟨_, _, _, e2⟩ ⟨_, _, _, e3⟩ ⟨_, _, _, e4⟩ h0

/-- A client's value stored into a variable of its own. -/
theorem var_store {e : TypeId} {w : World} {c : Cl} {Fq : Nat → Prop} {b n s k : Value} (hR : RCl Fq w (.agg #[.int .i64 c.rev, b, n, .int .i64 c.seq, s, k, .bool c.joined]) c) {w' : World}
    (hw : w.alloc (.cells #[.int .i64 c.rev, b, n, .int .i64 c.seq, s, k, .bool c.joined] e) = w') :
    CAt e (· ≠ w.heap.size) w' w.heap.size c ∧ Below w.heap.size w w' := by
  subst hw
  have hb : Below w.heap.size w (w.alloc (.cells #[.int .i64 c.rev, b, n, .int .i64 c.seq, s, k, .bool c.joined] e)) := bal (brf w) _
  have h2 : RCl (· ≠ w.heap.size) (w.alloc (.cells #[.int .i64 c.rev, b, n, .int .i64 c.seq, s, k, .bool c.joined] e)) (.agg #[.int .i64 c.rev, b, n, .int .i64 c.seq, s, k, .bool c.joined]) c := RCl.to hR (fun i _ hl => ⟨by omega, hb.block i hl⟩)
  obtain ⟨_, _, _, _, e0, h3, h4, h5, h6⟩ := h2
  simp at e0
  obtain ⟨rfl, rfl, rfl, rfl⟩ := e0
  exact ⟨⟨fun h => h rfl, fun i hi => by simp at hi; omega, _, _, _, _, heap_new w _, h3, h4, h5, h6⟩, hb⟩
end Go.Mh
namespace Go.Proofs.Ytgodceplajkcdaa
open Go.RowKit Go.Mh

instance : DecidableEq Cl := fun a b => decidable_of_iff (a.rev = b.rev ∧ a.base = b.base ∧ a.now = b.now ∧ a.seq = b.seq ∧ a.sent = b.sent ∧ a.held = b.held ∧ a.joined = b.joined) (by cases a; cases b; simp)
def hb2 : List It := [⟨97, 0, []⟩, ⟨120, 0, []⟩, ⟨98, 1, []⟩, ⟨10, 1, []⟩, ⟨60, 0, [104, 116, 116, 112, 58, 38]⟩, ⟨10, 2, []⟩]
def hb3 : List It := [⟨97, 0, []⟩, ⟨120, 0, []⟩, ⟨121, 0, []⟩, ⟨98, 1, []⟩, ⟨10, 1, []⟩, ⟨60, 0, [104, 116, 116, 112, 58, 38]⟩, ⟨10, 2, []⟩]
def hc1 : Cl := ⟨0, smallL, smallL, 0, [], [], true⟩
def hc2 : Cl := ⟨0, smallL, [⟨97, 0, []⟩, ⟨121, 0, []⟩, ⟨98, 1, []⟩, ⟨10, 1, []⟩, ⟨60, 0, [104, 116, 116, 112, 58, 38]⟩, ⟨10, 2, []⟩], 1, putsP 121 1 5, [], true⟩
def hm1 : Msg := ⟨1, ⟨1, 1, putsP 120 1 5⟩⟩
def hc3 : Cl := ⟨1, hb2, hb3, 1, putsP 121 2 6, [], true⟩
def hm2 : Msg := ⟨2, ⟨0, 1, putsP 121 2 6⟩⟩
def hc4 : Cl := ⟨2, hb3, hb3, 1, [], [], true⟩
theorem hd_1 : newC smallL = (hc1, 0) := by decide +kernel
theorem hd_2 : doC hc1 (putsP 121 1 5) = (hc2, true, 0) := by decide +kernel
theorem hd_3 : hearC hc2 0 hm1 = (hc3, false, 0) := by decide +kernel
theorem hd_4 : hearC hc3 0 hm2 = (hc4, false, 0) := by decide +kernel

theorem get_map' {α β : Type} {l : List α} {f : α → β} {i : Nat} {y : β} (h : (l[i]?).map f = some y) : ∃ x, l[i]? = some x ∧ f x = y := by
  cases hq : l[i]? with
  | none => rw [hq] at h; simp at h
  | some x => rw [hq] at h; simp at h; exact ⟨x, rfl, h⟩

set_option maxRecDepth 100000 in
set_option maxHeartbeats 8000000 in
theorem heard_any (w : World) :
    Calls Try.prog 65 #[] w fun e w' => e = .returned (.bool true) ∧ Below w.heap.size w w' := by
  obtain ⟨c1, c2, c3, c4, d1, d2, d3, d4, d5⟩ : ∃ c1 c2 c3 c4, Hid (newC smallL = (c1, 0)) ∧ Hid (doC c1 (putsP 121 1 5) = (c2, true, 0)) ∧ Hid (hearC c2 0 hm1 = (c3, false, 0)) ∧ Hid (hearC c3 0 hm2 = (c4, false, 0)) ∧ Hid (c4.rev = 2 ∧ c4.sent = [] ∧ c4.now.length = 7 ∧ (c4.now[1]?).map It.c = some 120 ∧ (c4.now[2]?).map It.c = some 121 ∧ c4.base = c4.now) :=
    ⟨hc1, hc2, hc3, hc4, Lib.hid hd_1, Lib.hid hd_2, Lib.hid hd_3, Lib.hid hd_4, Lib.hid ⟨rfl, rfl, rfl, rfl, rfl, rfl⟩⟩
  go_enter Try.func65, Try.ntmps65
  go_wp2_with fail
  refine (small_any w).mono ?_
  rintro e w1 ⟨v1, rfl, hr1, hb1⟩
  have C := Lib.hid (clNew_any _ v1 smallL w1 hr1)
  rw [d1.out] at C
  clear hr1
  go_wp2_with fail
  refine C.out.mono ?_
  rintro e w2 ⟨v2, rfl, hr2, hb2⟩
  have hB2 := hb1.trans (hb2.mono hb1.size)
  obtain ⟨b4, n4, s4, k4, rfl, _⟩ := id hr2
  obtain ⟨p1, p2, p3, p4, p5, p6, p7, p8, rfl, rfl, rfl, rfl⟩ := rcl_shape hr2
  have hr2' := Lib.hid hr2
  clear C hr2 hb1 hb2
  go_upto_region 2 with fail
  refine name_world ?_
  intro w3 hW3
  obtain ⟨hA, hbA⟩ := var_store hr2'.out hW3
  have hB3 := hB2.trans (hbA.mono hB2.size)
  have H3 := Lib.hid hA
  have hBB2 := hB2.size
  clear hW3 hA hbA hr2' hB2
  have hgw : w.heap.size ≤ w2.heap.size := hBB2
  generalize w2.heap.size = g at *
  obtain ⟨_, hNN, bb, nn, ss, kk, e0, e1, e2, e3, e4⟩ := id H3.out
  obtain ⟨ba, bc, rfl, _⟩ := RdS.len e1
  obtain ⟨na, nc, rfl, _⟩ := RdS.len e2
  obtain ⟨sa, sc, rfl, _⟩ := RdS.len e3
  obtain ⟨ka, kc, rfl, _⟩ := RdS.len e4
  obtain ⟨x0, x1, x2, x3, x4, x5, x6⟩ := P7.of e0
  have hgl := lt_of_heap e0
  have E0 := Lib.hid e0
  have RV : Hid (RCl (· ≠ g) w3.drew (.agg #[.int .i64 c1.rev, .slice ba c1.base.length bc, .slice na c1.now.length nc, .int .i64 c1.seq, .slice sa c1.sent.length sc, .slice ka c1.held.length kc, .bool c1.joined]) c1) := Lib.hid (RCl.to ⟨_, _, _, _, rfl, e1, e2, e3, e4⟩ (Kp.below (brf _).drew))
  have CD : Hid (∀ (wp : World) (rp : Value) (Gq : Nat → Prop), RCl (· ≠ g) wp (.agg #[.int .i64 c1.rev, .slice ba c1.base.length bc, .slice na c1.now.length nc, .int .i64 c1.seq, .slice sa c1.sent.length sc, .slice ka c1.held.length kc, .bool c1.joined]) c1 → ROp Gq wp rp (putsP 121 1 5) → Calls Try.prog 62 #[.agg #[.int .i64 c1.rev, .slice ba c1.base.length bc, .slice na c1.now.length nc, .int .i64 c1.seq, .slice sa c1.sent.length sc, .slice ka c1.held.length kc, .bool c1.joined], rp] wp fun e w' => ∃ v', e = .returned (.tuple #[v', .bool true, .int .i64 0]) ∧ RCl (fun _ => True) w' v' c2 ∧ Below wp.heap.size wp w') := Lib.hid (fun wp rp Gq h g' => by have := clDo_any _ _ _ _ _ _ wp h g'; rw [d2.out] at this; exact this)
  have hNN' : ∀ i, w3.heap.size ≤ i → i ≠ g := hNN
  clear e0 e1 e2 e3 e4 hNN
  go_cut [3, 4] (fun t3 t4 wx => t3 = .bool true ∧ t4 = .int .i64 0 ∧ CAt 87 (· ≠ g) wx g c2 ∧ Below w.heap.size w wx)
  case first =>
    go_region_with
      (first
        | (go_at_call 110; refine (puts_any 121 1 5 (by decide) _).mono ?_; rintro e wp ⟨rp, rfl, hrp, hbp⟩; have hGp := (hbp.block g hgl).trans E0.out; obtain ⟨xp0, xp1, xp2, xp3, xp4, xp5, xp6⟩ := P7.of hGp; obtain ⟨pa, pc, rfl, _⟩ := RdS.len hrp)
        | (go_at_call 62; refine (CD.out wp _ _ (RCl.to RV.out (Kp.below hbp)) hrp).mono ?_; rintro e wq ⟨vq, rfl, hrq, hbq⟩; obtain ⟨_, _, _, _, rfl, _⟩ := id hrq; obtain ⟨t1, t2, t3, t4, t5, t6, t7, t8, rfl, rfl, rfl, rfl⟩ := rcl_shape hrq; have hGq := (hbq.block g (lt_of_heap hGp)).trans hGp; obtain ⟨xq0, xq1, xq2, xq3, xq4, xq5, xq6⟩ := P7.of hGq; have hfq : ∀ i, wq.frozen? ⟨g, i, none⟩ = false := fun i => Lib.frozen_of_heap hGq _; have hgq : g < wq.heap.size := lt_of_heap hGq))
    all_goals
      go_wp2_with fail
      go_meet
      have hcq := CAt.ofVal (F := (· ≠ g)) hGq (RCl.ne hrq (NoIt.of ⟨_, _, _, rfl⟩ ⟨_, _, _, rfl⟩ ⟨_, _, _, rfl⟩ ⟨_, _, _, rfl⟩ hGq)) (fun h => h rfl) (fun i hi => by omega) (fun i hi => hi.2)
      have hbw : Below w.heap.size w wq := (hB3.drew.trans (hbp.mono hB3.drew.size)).trans (hbq.mono (hB3.drew.trans (hbp.mono hB3.drew.size)).size)
      exact ⟨rfl, rfl, hcq.1, hbw.trans (hcq.2.bel.mono hgw)⟩
  case rest =>
    obtain ⟨rfl, rfl, H4', hB4⟩ := hcut
    have H4 := Lib.hid H4'
    clear H4' x0 x1 x2 x3 x4 x5 x6 hB3 H3 E0 RV CD hgl hNN'
    go_upto_region 3 with fail
    obtain ⟨_, hNN, bb, nn, ss, kk, e0, e1, e2, e3, e4⟩ := id H4.out
    obtain ⟨ba, bc, rfl, _⟩ := RdS.len e1
    obtain ⟨na, nc, rfl, _⟩ := RdS.len e2
    obtain ⟨sa, sc, rfl, _⟩ := RdS.len e3
    obtain ⟨ka, kc, rfl, _⟩ := RdS.len e4
    obtain ⟨x0, x1, x2, x3, x4, x5, x6⟩ := P7.of e0
    have hgl := lt_of_heap e0
    have E0 := Lib.hid e0
    have RV : Hid (RCl (· ≠ g) wc.drew (.agg #[.int .i64 c2.rev, .slice ba c2.base.length bc, .slice na c2.now.length nc, .int .i64 c2.seq, .slice sa c2.sent.length sc, .slice ka c2.held.length kc, .bool c2.joined]) c2) := Lib.hid (RCl.to ⟨_, _, _, _, rfl, e1, e2, e3, e4⟩ (Kp.below (brf _).drew))
    have CD : Hid (∀ (wp : World) (rp : Value) (Gq : Nat → Prop), RCl (· ≠ g) wp (.agg #[.int .i64 c2.rev, .slice ba c2.base.length bc, .slice na c2.now.length nc, .int .i64 c2.seq, .slice sa c2.sent.length sc, .slice ka c2.held.length kc, .bool c2.joined]) c2 → ROp Gq wp rp (putsP 120 1 5) → Calls Try.prog 64 #[.agg #[.int .i64 c2.rev, .slice ba c2.base.length bc, .slice na c2.now.length nc, .int .i64 c2.seq, .slice sa c2.sent.length sc, .slice ka c2.held.length kc, .bool c2.joined], .int .i64 0, .agg #[.int .i64 1, .int .i64 1, .int .i64 1, rp]] wp fun e w' => ∃ v', e = .returned (.tuple #[v', .bool false, .int .i64 0]) ∧ RCl (fun _ => True) w' v' c3 ∧ Below wp.heap.size wp w') := Lib.hid (fun wp rp Gq h g' => by have := clHear_any _ _ _ _ _ 0 hm1 wp h g'; rw [d3.out] at this; exact this)
    have hNN' : ∀ i, wc.heap.size ≤ i → i ≠ g := hNN
    clear e0 e1 e2 e3 e4 hNN
    go_cut [6] (fun t4 wx => t4 = .int .i64 0 ∧ CAt 87 (· ≠ g) wx g c3 ∧ Below w.heap.size w wx)
    case first =>
      go_region_with
        (first
          | (go_at_call 110; refine (puts_any 120 1 5 (by decide) _).mono ?_; rintro e wp ⟨rp, rfl, hrp, hbp⟩; have hGp := (hbp.block g hgl).trans E0.out; obtain ⟨xp0, xp1, xp2, xp3, xp4, xp5, xp6⟩ := P7.of hGp; obtain ⟨pa, pc, rfl, _⟩ := RdS.len hrp)
          | (go_at_call 64; refine (CD.out wp _ _ (RCl.to RV.out (Kp.below hbp)) hrp).mono ?_; rintro e wq ⟨vq, rfl, hrq, hbq⟩; obtain ⟨_, _, _, _, rfl, _⟩ := id hrq; obtain ⟨t1, t2, t3, t4, t5, t6, t7, t8, rfl, rfl, rfl, rfl⟩ := rcl_shape hrq; have hGq := (hbq.block g (lt_of_heap hGp)).trans hGp; obtain ⟨xq0, xq1, xq2, xq3, xq4, xq5, xq6⟩ := P7.of hGq; have hfq : ∀ i, wq.frozen? ⟨g, i, none⟩ = false := fun i => Lib.frozen_of_heap hGq _; have hgq : g < wq.heap.size := lt_of_heap hGq))
      all_goals
        go_wp2_with fail
        go_meet
        have hcq := CAt.ofVal (F := (· ≠ g)) hGq (RCl.ne hrq (NoIt.of ⟨_, _, _, rfl⟩ ⟨_, _, _, rfl⟩ ⟨_, _, _, rfl⟩ ⟨_, _, _, rfl⟩ hGq)) (fun h => h rfl) (fun i hi => by omega) (fun i hi => hi.2)
        have hbw : Below w.heap.size w wq := (hB4.drew.trans (hbp.mono hB4.drew.size)).trans (hbq.mono (hB4.drew.trans (hbp.mono hB4.drew.size)).size)
        exact ⟨rfl, hcq.1, hbw.trans (hcq.2.bel.mono hgw)⟩
    case rest =>
      obtain ⟨rfl, H5', hB5⟩ := hcut
      have H5 := Lib.hid H5'
      clear H5' x0 x1 x2 x3 x4 x5 x6 hB4 H4 E0 RV CD hgl hNN'
      go_upto_region 4 with fail
      obtain ⟨_, hNN, bb, nn, ss, kk, e0, e1, e2, e3, e4⟩ := id H5.out
      obtain ⟨ba, bc, rfl, _⟩ := RdS.len e1
      obtain ⟨na, nc, rfl, _⟩ := RdS.len e2
      obtain ⟨sa, sc, rfl, _⟩ := RdS.len e3
      obtain ⟨ka, kc, rfl, _⟩ := RdS.len e4
      obtain ⟨x0, x1, x2, x3, x4, x5, x6⟩ := P7.of e0
      have hgl := lt_of_heap e0
      have E0 := Lib.hid e0
      have RV : Hid (RCl (· ≠ g) wc.drew (.agg #[.int .i64 c3.rev, .slice ba c3.base.length bc, .slice na c3.now.length nc, .int .i64 c3.seq, .slice sa c3.sent.length sc, .slice ka c3.held.length kc, .bool c3.joined]) c3) := Lib.hid (RCl.to ⟨_, _, _, _, rfl, e1, e2, e3, e4⟩ (Kp.below (brf _).drew))
      have CD : Hid (∀ (wp : World) (rp : Value) (Gq : Nat → Prop), RCl (· ≠ g) wp (.agg #[.int .i64 c3.rev, .slice ba c3.base.length bc, .slice na c3.now.length nc, .int .i64 c3.seq, .slice sa c3.sent.length sc, .slice ka c3.held.length kc, .bool c3.joined]) c3 → ROp Gq wp rp (putsP 121 2 6) → Calls Try.prog 64 #[.agg #[.int .i64 c3.rev, .slice ba c3.base.length bc, .slice na c3.now.length nc, .int .i64 c3.seq, .slice sa c3.sent.length sc, .slice ka c3.held.length kc, .bool c3.joined], .int .i64 0, .agg #[.int .i64 2, .int .i64 0, .int .i64 1, rp]] wp fun e w' => ∃ v', e = .returned (.tuple #[v', .bool false, .int .i64 0]) ∧ RCl (fun _ => True) w' v' c4 ∧ Below wp.heap.size wp w') := Lib.hid (fun wp rp Gq h g' => by have := clHear_any _ _ _ _ _ 0 hm2 wp h g'; rw [d4.out] at this; exact this)
      have hNN' : ∀ i, wc.heap.size ≤ i → i ≠ g := hNN
      clear e0 e1 e2 e3 e4 hNN
      go_cut [7, 8] (fun t3 t4 wx => t3 = .bool false ∧ t4 = .int .i64 0 ∧ CAt 87 (· ≠ g) wx g c4 ∧ Below w.heap.size w wx)
      case first =>
        go_region_with
          (first
            | (go_at_call 110; refine (puts_any 121 2 6 (by decide) _).mono ?_; rintro e wp ⟨rp, rfl, hrp, hbp⟩; have hGp := (hbp.block g hgl).trans E0.out; obtain ⟨xp0, xp1, xp2, xp3, xp4, xp5, xp6⟩ := P7.of hGp; obtain ⟨pa, pc, rfl, _⟩ := RdS.len hrp)
            | (go_at_call 64; refine (CD.out wp _ _ (RCl.to RV.out (Kp.below hbp)) hrp).mono ?_; rintro e wq ⟨vq, rfl, hrq, hbq⟩; obtain ⟨_, _, _, _, rfl, _⟩ := id hrq; obtain ⟨t1, t2, t3, t4, t5, t6, t7, t8, rfl, rfl, rfl, rfl⟩ := rcl_shape hrq; have hGq := (hbq.block g (lt_of_heap hGp)).trans hGp; obtain ⟨xq0, xq1, xq2, xq3, xq4, xq5, xq6⟩ := P7.of hGq; have hfq : ∀ i, wq.frozen? ⟨g, i, none⟩ = false := fun i => Lib.frozen_of_heap hGq _; have hgq : g < wq.heap.size := lt_of_heap hGq))
        all_goals
          go_wp2_with fail
          go_meet
          have hcq := CAt.ofVal (F := (· ≠ g)) hGq (RCl.ne hrq (NoIt.of ⟨_, _, _, rfl⟩ ⟨_, _, _, rfl⟩ ⟨_, _, _, rfl⟩ ⟨_, _, _, rfl⟩ hGq)) (fun h => h rfl) (fun i hi => by omega) (fun i hi => hi.2)
          have hbw : Below w.heap.size w wq := (hB5.drew.trans (hbp.mono hB5.drew.size)).trans (hbq.mono (hB5.drew.trans (hbp.mono hB5.drew.size)).size)
          exact ⟨rfl, rfl, hcq.1, hbw.trans (hcq.2.bel.mono hgw)⟩
      case rest =>
        obtain ⟨rfl, rfl, H6', hB6⟩ := hcut
        have H6 := Lib.hid H6'
        clear H6' x0 x1 x2 x3 x4 x5 x6 hB5 H5 E0 RV CD hgl hNN'
        obtain ⟨_, _, bb, nn, ss, kk, e0, e1, e2, e3, e4⟩ := id H6.out
        obtain ⟨ba, bc, rfl, _⟩ := RdS.len e1
        obtain ⟨na, nc, rfl, _⟩ := RdS.len e2
        obtain ⟨sa, sc, rfl, _⟩ := RdS.len e3
        obtain ⟨x0, x1, x2, x3, x4, x5, x6⟩ := P7.of e0
        obtain ⟨f1, f2, f3, f4, f5, f6⟩ := d5.out
        obtain ⟨i1, hi1, hc1'⟩ := get_map' f4
        obtain ⟨i2, hi2, hc2'⟩ := get_map' f5
        obtain ⟨bd, od, ed, z0, _, _⟩ := RItems.at e2 (brf _) hi1
        obtain ⟨bd', od', ed', t0, _, _⟩ := RItems.at e2 (brf _) hi2
        subst ed
        cases ed'
        have S := Lib.hid (same_any _ _ _ _ c4.base c4.now wc e1 e2)
        rw [decide_eq_true f6] at S
        rw [hc1'] at z0
        rw [hc2'] at t0
        rw [f1] at x0
        rw [f2] at x4
        rw [f3] at x2 S
        simp only [Nat.one_mul] at z0 t0
        clear e0 e1 e2 e3 e4 hi1 hi2 hc1' hc2' f1 f2 f3 f4 f5 f6 H6 d1 d2 d3 d4 d5
        go_wp2_with fail
        refine S.out.mono ?_
        rintro e w9 ⟨rfl, hb9⟩
        go_wp2
        go_ret
        exact ⟨rfl, hB6.trans (hb9.mono hB6.size)⟩
end Go.Proofs.Ytgodceplajkcdaa
