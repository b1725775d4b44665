/- The references on operations: Turned (under way). -/
import Derived.Test.YtckdlhgeelhnmaaGreatRefR
import Derived.Test.YtckdlhgeelhnmaaGreatRefCheckOp
import Derived.Test.YtckdlhgeelhnmaaGreatPlR
import Derived.Deep.MidRow
namespace Go.Proofs.YtckdlhgeelhnmaaGreat
open Go.RowKit Go.Mh

/-- What Turned answers, row by row: it is what Turn answers. -/
theorem turnP_rows {a b : List Pt} (ha : chkOp a = 0) (hb : chkOp b = 0) (hf : (rowsA [] (acts a)).length = (rowsA [] (acts b)).length) :
    turnP a b = chk2 (tidyA (turnR (rowsA [] (acts a)) (rowsA [] (acts b))).1) (tidyA (turnR (rowsA [] (acts a)) (rowsA [] (acts b))).2) := by
  rw [rowsA_len, rowsA_len] at hf
  rw [turnR_eq hf (chkOp_ok ha).fin (chkOp_ok hb).fin]
  unfold turnP
  rw [if_neg (by simpa using ha), if_neg (by simpa using hb), if_neg (by simpa using hf)]
theorem turnP_base {a b : List Pt} (ha : chkOp a = 0) (hb : chkOp b = 0) (hf : ¬ (rowsA [] (acts a)).length = (rowsA [] (acts b)).length) : turnP a b = ([], [], 6) := by
  rw [rowsA_len, rowsA_len] at hf
  unfold turnP
  rw [if_neg (by simpa using ha), if_neg (by simpa using hb), if_pos hf]
theorem turnA_len : ∀ a b, frm a = frm b → (turnA a b).1.length ≤ a.length + b.length ∧ (turnA a b).2.length ≤ a.length + b.length := by
  refine turn_ind ?_ ?_ ?_ ?_ ?_ ?_ ?_
  · exact ⟨Nat.zero_le _, Nat.zero_le _⟩
  · intro x a b _ h; rw [turn_p]; simp; omega
  · intro y a b hn _ h; rw [turn_q hn]; simp; omega
  · intro u t a b _ h; rw [turn_kk]; simp; omega
  · intro t a b _ h; rw [turn_ck]; simp; omega
  · intro u a b _ h; rw [turn_kc]; simp; omega
  · intro a b _ h; rw [turn_cc]; simp; omega
theorem turnR_step {p q : List Row} {i : Nat} {s t : Row} (hp : p[i]? = some s) (hq : q[i]? = some t) : turnR (p.drop i) (q.drop i) = ((rowT s t).1 ++ (turnR (p.drop (i + 1)) (q.drop (i + 1))).1, (rowT s t).2 ++ (turnR (p.drop (i + 1)) (q.drop (i + 1))).2) := by
  obtain ⟨h1, rfl⟩ := List.getElem?_eq_some_iff.1 hp
  obtain ⟨h2, rfl⟩ := List.getElem?_eq_some_iff.1 hq
  rw [List.drop_eq_getElem_cons h1, List.drop_eq_getElem_cons h2, turnR]
theorem RRows.at {F : Nat → Prop} {w wr : World} {a : Option Addr} {n cap : Nat} {L : List Row} (h : RRows F w (.slice a n cap) L) (hb : Below w.heap.size w wr) {k : Nat} {r : Row} (hx : L[k]? = some r) :
    ∃ b o pv sv, a = some ⟨b, o, none⟩ ∧ RActs F w pv r.1 ∧ E0 sv ∧ b < wr.heap.size ∧ wr.rangeAt b (o + k * 12) (pv :: acC sv r.2) := by
  obtain ⟨a', cap', e, _, _, _, hel⟩ := h
  cases e
  obtain ⟨b, o, cs, h1, _, hl, hat, pv, cs2, hcs, hr1, sv, hE, hc2⟩ := hel k r hx
  subst hcs hc2
  have hat' := hat.to (hb.block b (hat.lt (by simp)))
  exact ⟨b, o, pv, sv, h1, hr1, hE, hat'.lt (by simp), hat'⟩
theorem sub_wrap {m s z : Int} (h0 : 0 ≤ m) (h1 : m ≤ 3) (h2 : 0 ≤ s) (h3 : s ≤ 3) (h4 : 0 ≤ z) (h5 : z ≤ 3) : IntKind.i64.wrap (m - band m (bor s z)) = bnot m (bor s z) := by
  obtain ⟨x, rfl⟩ := small4 h0 h1
  obtain ⟨y, rfl⟩ := small4 h2 h3
  obtain ⟨u, rfl⟩ := small4 h4 h5
  rw [bor4, sub_band, bnot4]
  have := (not4 x (or4 y u)).isLt
  simp [IntKind.wrap, IntKind.bits, IntKind.signed]; omega
/-- What is done to an item: kept or cut, and what is kept is changed as one may. -/
def OwnOk : Ac → Prop
  | .put _ => False
  | .keep c => c.Ok
  | .cut => True
theorem rowsA_own : ∀ (l ps : List Ac) (r : Row), r ∈ rowsA ps l → r.2 ∈ l ∧ ∀ x, r.2 ≠ .put x
  | [], _, r, h => by simp [rowsA] at h
  | .put x :: l, ps, r, h => by
    rw [rowsA] at h
    obtain ⟨h1, h2⟩ := rowsA_own l _ r h
    exact ⟨List.mem_cons_of_mem _ h1, h2⟩
  | .keep c :: l, ps, r, h => by
    rw [rowsA] at h
    rcases List.mem_cons.1 h with rfl | h
    · exact ⟨by simp, by simp⟩
    · obtain ⟨h1, h2⟩ := rowsA_own l _ r h
      exact ⟨List.mem_cons_of_mem _ h1, h2⟩
  | .cut :: l, ps, r, h => by
    rw [rowsA] at h
    rcases List.mem_cons.1 h with rfl | h
    · exact ⟨by simp, by simp⟩
    · obtain ⟨h1, h2⟩ := rowsA_own l _ r h
      exact ⟨List.mem_cons_of_mem _ h1, h2⟩
theorem acts_okV {L : List Pt} (hok : OpOk L) {c : Kd} (h : Ac.keep c ∈ acts L) : c.Ok := by
  unfold acts at h
  obtain ⟨p, hp, hm⟩ := List.mem_flatMap.1 h
  rcases hok.tp p hp with ⟨d, n, _, hd, rfl⟩ | ⟨l, _, _, rfl⟩ | ⟨n, _, rfl⟩
  · rw [actsP_keep] at hm
    have := List.eq_of_mem_replicate hm
    cases this
    exact hd
  · rw [actsP_put] at hm; simp at hm
  · rw [actsP_cut] at hm
    have := List.eq_of_mem_replicate hm
    cases this
theorem rows_ok {L : List Pt} (hok : OpOk L) {r : Row} (h : r ∈ rowsA [] (acts L)) : OwnOk r.2 := by
  obtain ⟨h1, h2⟩ := rowsA_own _ _ _ h
  cases hr : r.2 with
  | put x => exact absurd hr (h2 x)
  | keep c => rw [hr] at h1; exact acts_okV hok h1
  | cut => trivial
theorem acts4000 {L : List Pt} (hok : OpOk L) : (acts L).length ≤ 4000 := by
  have h := acts_len hok L.length (Nat.le_refl _)
  have := hok.len
  rw [List.take_length] at h
  omega
theorem turnR_len {a b : List Pt} (ha : OpOk a) (hb : OpOk b) (hf : (rowsA [] (acts a)).length = (rowsA [] (acts b)).length) : (turnR (rowsA [] (acts a)) (rowsA [] (acts b))).1.length ≤ 8000 ∧ (turnR (rowsA [] (acts a)) (rowsA [] (acts b))).2.length ≤ 8000 := by
  rw [rowsA_len, rowsA_len] at hf
  rw [turnR_eq hf ha.fin hb.fin]
  have h := turnA_len _ _ hf
  have := acts4000 ha
  have := acts4000 hb
  omega
/-- An act's cells, by what they hold. -/
def acK : Ac → Int | .put _ => 2 | .keep _ => 1 | .cut => 3
def acU : Ac → Nat | .put x => x.c.toNat | _ => 0
def acM : Ac → Int | .put x => x.m | _ => 0
def acL : Ac → ByteArray | .put x => ⟨x.l.toArray⟩ | _ => ⟨#[]⟩
def acP : Ac → Int | .put _ => 0 | .keep _ => 1 | .cut => 3
def acN : Ac → Int | .put _ => 0 | _ => 1
def acA (a : Option Addr) : Ac → Option Addr | .put _ => none | _ => a
def acCap (c : Nat) : Ac → Nat | .put _ => 0 | _ => c
def acSet : Ac → Int | .keep c => c.set | _ => 0
def acClr : Ac → Int | .keep c => c.clr | _ => 0
def acTo : Ac → Bool | .keep c => c.to | _ => false
def acLk : Ac → ByteArray | .keep c => ⟨c.l.toArray⟩ | _ => ⟨#[]⟩
theorem acC_eq (a : Option Addr) (c : Nat) (x : Ac) : acC (.slice a 0 c) x = [.int .i64 (acK x), .int .u8 (acU x), .int .i64 (acM x), .string (acL x), .int .i64 (acP x), .int .i64 (acN x), .slice (acA a x) 0 (acCap c x), .int .i64 (acSet x), .int .i64 (acClr x), .bool (acTo x), .string (acLk x)] := by
  cases x <;> rfl

set_option maxRecDepth 100000 in
set_option maxHeartbeats 16000000 in
theorem refTurned_any (F G : Nat → Prop) (v u : Value) (a b : List Pt) (w : World) (h : ROp F w v a) (g : ROp G w u b) :
    Calls Tryz.prog 59 #[v, u] w fun e w' => ∃ r s, e = .returned (.tuple #[r, s, .int .i64 (turnP a b).2.2]) ∧ ROp (w.heap.size ≤ ·) w' r (turnP a b).1 ∧ ROp (w.heap.size ≤ ·) w' s (turnP a b).2.1 ∧ Below w.heap.size w w' := by
  obtain ⟨va, vc, rfl, _⟩ := RdS.len h
  obtain ⟨ua, uc, rfl, _⟩ := RdS.len g
  have H := Lib.hid (fun w' (hb : Below w.heap.size w w') => ROp.to h (Kp.below hb))
  have G' := Lib.hid (fun w' (hb : Below w.heap.size w w') => ROp.to g (Kp.below hb))
  clear h g
  go_enter Tryz.func59, Tryz.ntmps59
  go_wp2
  go_loopw [25] (fun iv wr => ∃ i : Nat, i ≤ 2 ∧ iv = .int .i64 i ∧ (0 < i → chkOp a = 0) ∧ (1 < i → chkOp b = 0) ∧ wr.heap[w.heap.size]? = some (.cells #[.slice va a.length vc, .slice ua b.length uc] 39 (0, 0)) ∧ Below w.heap.size w wr) (fun iv _ => 2 - (intOf iv).toNat)
  case atStart => exact ⟨0, by omega, rfl, by omega, by omega, heap_new _ _, bal (brf w) _⟩
  case round =>
    obtain ⟨i, hi, rfl, ca, cb, hbx, hb⟩ := hrel
    have ca' := Lib.hid ca
    have cb' := Lib.hid cb
    clear ca cb
    have k0 : wr.cell? ⟨w.heap.size, 0, none⟩ = some (.slice va a.length vc) := by unfold World.cell?; rw [hbx]; rfl
    have k1 : wr.cell? ⟨w.heap.size, 1, none⟩ = some (.slice ua b.length uc) := by unfold World.cell?; rw [hbx]; rfl
    have hbl : w.heap.size < wr.heap.size := lt_of_heap hbx
    have hbx' := Lib.hid hbx
    clear hbx
    rcases (by omega : i = 0 ∨ i = 1 ∨ i = 2) with rfl | rfl | rfl
    · go_wp2_with fail
      refine (checkOp_any _ _ a wr (H.out wr hb)).mono ?_
      rintro e w1 ⟨rfl, hb1⟩
      by_cases hz : chkOp a = 0
      · have hz' := Lib.hid hz
        rw [hz]
        clear hz
        have hbx1 := (hb1.block _ hbl).trans hbx'.out
        go_wp2
        go_roundw
        case rel => exact ⟨1, by omega, rfl, fun _ => hz'.out, by omega, hbx1, btr hb hb1⟩
        case measure => simp [intOf]
      · have hne : (chkOp a != 0) = true := by simpa using hz
        have hres : Hid (turnP a b = ([], [], chkOp a)) := Lib.hid (by unfold turnP; rw [if_pos hz])
        clear hz
        go_wp2
        go_ret3
        exact ⟨.slice none 0 0, .slice none 0 0, by rw [hres.out]; rfl, by rw [hres.out]; exact RdS.nil, by rw [hres.out]; exact RdS.nil, btr hb hb1⟩
    · go_wp2_with fail
      refine (checkOp_any _ _ b wr (G'.out wr hb)).mono ?_
      rintro e w1 ⟨rfl, hb1⟩
      by_cases hz : chkOp b = 0
      · have hz' := Lib.hid hz
        rw [hz]
        clear hz
        have hbx1 := (hb1.block _ hbl).trans hbx'.out
        go_wp2
        go_roundw
        case rel => exact ⟨2, by omega, rfl, fun _ => ca'.out (by omega), fun _ => hz'.out, hbx1, btr hb hb1⟩
        case measure => simp [intOf]
      · have hne : (chkOp b != 0) = true := by simpa using hz
        have hres : Hid (turnP a b = ([], [], chkOp b)) := Lib.hid (by unfold turnP; rw [if_neg (by simpa using ca'.out (by omega)), if_pos hz])
        clear hz
        go_wp2
        go_ret3
        exact ⟨.slice none 0 0, .slice none 0 0, by rw [hres.out]; rfl, by rw [hres.out]; exact RdS.nil, by rw [hres.out]; exact RdS.nil, btr hb hb1⟩
    · have hza := Lib.hid (ca'.out (by omega))
      have hzb := Lib.hid (cb'.out (by omega))
      have C1 := Lib.hid (refRows_any _ _ a wr (H.out wr hb) (chkOp_ok hza.out))
      clear k0 k1 hbx' ca' cb'
      go_wp2_with fail
      refine C1.out.mono ?_
      rintro e w1 ⟨r1, rfl, hr1, hb1⟩
      have hB1 := btr hb hb1
      have C2 := Lib.hid (refRows_any _ _ b w1 (G'.out w1 hB1) (chkOp_ok hzb.out))
      obtain ⟨pa, pc, rfl, _⟩ := RdS.len hr1
      have R1 := Lib.hid (RdS.to (F' := fun _ => True) hr1 (by decide) (fun _ _ _ => ⟨trivial, rfl⟩) (fun cs x _ r => (RRow.to r (Kp.weak w1 fun _ _ => trivial) : RRow (fun _ => True) w1 cs x)))
      clear C1 hr1
      go_wp2_with fail
      refine C2.out.mono ?_
      rintro e w2 ⟨r2, rfl, hr2, hb2⟩
      have hB2 := btr hB1 hb2
      obtain ⟨qa, qc, rfl, _⟩ := RdS.len hr2
      have R2 := Lib.hid (RdS.to (F' := fun _ => True) hr2 (by decide) (fun _ _ _ => ⟨trivial, rfl⟩) (fun cs x _ r => (RRow.to r (Kp.weak w2 fun _ _ => trivial) : RRow (fun _ => True) w2 cs x)))
      clear C2 hr2
      by_cases hln : (rowsA [] (acts a)).length = (rowsA [] (acts b)).length
      · have hres := Lib.hid (turnP_rows hza.out hzb.out hln)
        have HT := Lib.hid (turnR_len (chkOp_ok hza.out) (chkOp_ok hzb.out) hln)
        have hPo := Lib.hid (fun r (h : r ∈ rowsA [] (acts a)) => rows_ok (chkOp_ok hza.out) h)
        have hQo := Lib.hid (fun r (h : r ∈ rowsA [] (acts b)) => rows_ok (chkOp_ok hzb.out) h)
        have hP80 : (rowsA [] (acts a)).length ≤ 80 := by rw [rowsA_len]; exact (chkOp_ok hza.out).frm
        have hne : (((rowsA [] (acts a)).length : Int) != ((rowsA [] (acts b)).length : Int)) = false := by simp; omega
        have hlq := Lib.hid hln
        clear hln hza hzb H G'
        generalize rowsA [] (acts a) = P at *
        generalize rowsA [] (acts b) = Q at *
        go_upto_region 12 with fail
        have HB1 := Lib.hid (bal (btr hb2 (brf w2)) (.cells #[.int .i64 1, .int .u8 0, .int .i64 0, .string ⟨#[]⟩, .int .i64 1, .int .i64 1, .slice none 0 0, .int .i64 0, .int .i64 0, .bool false, .string ⟨#[]⟩] 114))
        have HB2 := Lib.hid (bal (brf w2) (.cells #[.int .i64 1, .int .u8 0, .int .i64 0, .string ⟨#[]⟩, .int .i64 1, .int .i64 1, .slice none 0 0, .int .i64 0, .int .i64 0, .bool false, .string ⟨#[]⟩] 114))
        have HB0 := Lib.hid (btr hB2 HB2.out)
        have hk := heap_new w2 (.cells #[.int .i64 1, .int .u8 0, .int .i64 0, .string ⟨#[]⟩, .int .i64 1, .int .i64 1, .slice none 0 0, .int .i64 0, .int .i64 0, .bool false, .string ⟨#[]⟩] 114)
        generalize hwb : w2.alloc (.cells #[.int .i64 1, .int .u8 0, .int .i64 0, .string ⟨#[]⟩, .int .i64 1, .int .i64 1, .slice none 0 0, .int .i64 0, .int .i64 0, .bool false, .string ⟨#[]⟩] 114) = wb at *
        clear hwb
        obtain ⟨gk, hgk⟩ : ∃ g, g = w2.heap.size := ⟨_, rfl⟩
        rw [← hgk] at hk ⊢
        clear hgk
        have hk' := Lib.hid hk
        have hlk := lt_of_heap hk
        clear hk hb1 hb2 hB1 hB2
        go_wp2
        go_loopw [13, 14, 48] (fun lv mv iv ws => ∃ (i : Nat) (X Y : List Ac), i ≤ P.length ∧ iv = .int .i64 i ∧ TwoA wb.heap.size ws lv mv X Y ∧ Hid (turnR P Q = (X ++ (turnR (P.drop i) (Q.drop i)).1, Y ++ (turnR (P.drop i) (Q.drop i)).2)) ∧ Below wb.heap.size wb ws) (fun _ _ iv _ => P.length - (intOf iv).toNat)
        case atStart => exact ⟨0, [], [], Nat.zero_le _, rfl, TwoA.start (Nat.le_refl _), Lib.hid (by simp), brf _⟩
        case round =>
          obtain ⟨i, X, Y, hi, rfl, T, hst, hb⟩ := hrel
          obtain ⟨la, lc, rfl⟩ := len_nil T.l
          obtain ⟨ma, mc, rfl⟩ := len_nil T.m
          have T0 := Lib.hid T
          clear T
          by_cases hlt : i < P.length
          · obtain ⟨s, hs⟩ : ∃ s, P[i]? = some s := ⟨_, List.getElem?_eq_getElem hlt⟩
            have hlt2 : i < Q.length := by rw [← hlq.out]; exact hlt
            obtain ⟨t, ht⟩ : ∃ t, Q[i]? = some t := ⟨_, List.getElem?_eq_getElem hlt2⟩
            have hstep := hst.out
            rw [turnR_step hs ht] at hstep
            have hso := Lib.hid (hPo.out s (List.mem_of_getElem? hs))
            have hto := Lib.hid (hQo.out t (List.mem_of_getElem? ht))
            obtain ⟨b1, o1, pv1, sv1, rfl, hA1, hE1, hl1, hC1⟩ := RRows.at R1.out (btr HB1.out hb) hs
            obtain ⟨b2, o2, pv2, sv2, rfl, hA2, hE2, hl2, hC2⟩ := RRows.at R2.out (btr HB2.out hb) ht
            obtain ⟨sa, sac, rfl, _⟩ := RdS.len hA1
            obtain ⟨ta, tac, rfl, _⟩ := RdS.len hA2
            obtain ⟨ea, ec, rfl, hme⟩ := hE1
            obtain ⟨fa, fc, rfl, hmf⟩ := hE2
            rw [acC_eq] at hC1 hC2
            clear hs ht
            go_upto_region 16 with fail
            have SD : wr.drew.heap[b1]? = wr.heap[b1]? ∧ wr.drew.heap[b2]? = wr.heap[b2]? := ⟨rfl, rfl⟩
            refine wp_region_held (S := fun w' => w'.heap[b1]? = wr.heap[b1]? ∧ w'.heap[b2]? = wr.heap[b2]?) (by kernel_rfl) ?_
            refine wpAnyH_takeD 0 51 (v := ?_) rfl rfl (by kernel_rfl) (by kernel_rfl) (by kernel_rfl) (fun _ _ _ h => h) (Or.inl ⟨by rfl, ?_⟩) SD ?_
            rotate_left
            · (intro w' hw'; (try dsimp only at hw'); go_simp; try with_reducible rfl)
            simp only [List.set_cons_zero, List.set_cons_succ]
            refine wpAnyH_takeD 1 52 (v := ?_) rfl rfl (by kernel_rfl) (by kernel_rfl) (by kernel_rfl) (fun _ _ _ h => h) (Or.inl ⟨by rfl, ?_⟩) SD ?_
            rotate_left
            · (intro w' hw'; (try dsimp only at hw'); go_simp; try with_reducible rfl)
            simp only [List.set_cons_zero, List.set_cons_succ]
            refine wpAnyH_takeD 2 53 (v := ?_) rfl rfl (by kernel_rfl) (by kernel_rfl) (by kernel_rfl) (fun _ _ _ h => h) (Or.inl ⟨by rfl, ?_⟩) SD ?_
            rotate_left
            · (intro w' hw'; (try dsimp only at hw'); go_simp; try with_reducible rfl)
            simp only [List.set_cons_zero, List.set_cons_succ]
            refine wpAnyH_takeD 3 54 (v := ?_) rfl rfl (by kernel_rfl) (by kernel_rfl) (by kernel_rfl) (fun _ _ _ h => h) (?_) SD ?_
            rotate_left
            · refine yieldsIf_load_mid ?_ 124 (.tmp 53) ?_ b1 (o1 + i * 12) ?_ [.slice sa s.1.length sac, .int .i64 (acK s.2), .int .u8 (acU s.2), .int .i64 (acM s.2), .string (acL s.2), .int .i64 (acP s.2), .int .i64 (acN s.2), .slice (acA ea s.2) 0 (acCap ec s.2), .int .i64 (acSet s.2), .int .i64 (acClr s.2), .bool (acTo s.2), .string (acLk s.2)] _ ?_ Tryz.underlying124 rfl (by kernel_rfl)
              · rfl
              · rfl
              · rfl
              · intro w' hw' j v hj
                exact (World.cell?_of_block hw'.1).trans (hC1 j v hj)
            simp only [List.set_cons_zero, List.set_cons_succ]
            refine wpAnyH_takeD 4 55 (v := ?_) rfl rfl (by kernel_rfl) (by kernel_rfl) (by kernel_rfl) (fun _ _ _ h => h) (Or.inl ⟨by rfl, ?_⟩) SD ?_
            rotate_left
            · (intro w' hw'; (try dsimp only at hw'); go_simp; try with_reducible rfl)
            simp only [List.set_cons_zero, List.set_cons_succ]
            refine wpAnyH_takeD 5 56 (v := ?_) rfl rfl (by kernel_rfl) (by kernel_rfl) (by kernel_rfl) (fun _ _ _ h => h) (Or.inl ⟨by rfl, ?_⟩) SD ?_
            rotate_left
            · (intro w' hw'; (try dsimp only at hw'); go_simp; try with_reducible rfl)
            simp only [List.set_cons_zero, List.set_cons_succ]
            refine wpAnyH_takeD 6 57 (v := ?_) rfl rfl (by kernel_rfl) (by kernel_rfl) (by kernel_rfl) (fun _ _ _ h => h) (Or.inl ⟨by rfl, ?_⟩) SD ?_
            rotate_left
            · (intro w' hw'; (try dsimp only at hw'); go_simp; try with_reducible rfl)
            simp only [List.set_cons_zero, List.set_cons_succ]
            refine wpAnyH_takeD 7 58 (v := ?_) rfl rfl (by kernel_rfl) (by kernel_rfl) (by kernel_rfl) (fun _ _ _ h => h) (?_) SD ?_
            rotate_left
            · refine yieldsIf_load_mid ?_ 124 (.tmp 57) ?_ b2 (o2 + i * 12) ?_ [.slice ta t.1.length tac, .int .i64 (acK t.2), .int .u8 (acU t.2), .int .i64 (acM t.2), .string (acL t.2), .int .i64 (acP t.2), .int .i64 (acN t.2), .slice (acA fa t.2) 0 (acCap fc t.2), .int .i64 (acSet t.2), .int .i64 (acClr t.2), .bool (acTo t.2), .string (acLk t.2)] _ ?_ Tryz.underlying124 rfl (by kernel_rfl)
              · rfl
              · rfl
              · rfl
              · intro w' hw' j v hj
                exact (World.cell?_of_block hw'.2).trans (hC2 j v hj)
            simp only [List.set_cons_zero, List.set_cons_succ]
            refine wpAnyH_two 8 9 16 17 rfl rfl (by decide) (by kernel_rfl) (by kernel_rfl) (by kernel_rfl) (by decide) (fun v w' => ∃ g, v = .pointer (some ⟨g, 0, none⟩) ∧ New1 wr 124 #[.slice none 0 0, .int .i64 0, .int .u8 0, .int .i64 0, .string ⟨#[]⟩, .int .i64 0, .int .i64 0, .slice none 0 0, .int .i64 0, .int .i64 0, .bool false, .string ⟨#[]⟩] g w') (fun v w' => ∃ g, v = .pointer (some ⟨g, 0, none⟩) ∧ New1 wr 124 #[.slice none 0 0, .int .i64 0, .int .u8 0, .int .i64 0, .string ⟨#[]⟩, .int .i64 0, .int .i64 0, .slice none 0 0, .int .i64 0, .int .i64 0, .bool false, .string ⟨#[]⟩] g w') (fun v u w' => ∃ g1 g2, v = .pointer (some ⟨g1, 0, none⟩) ∧ u = .pointer (some ⟨g2, 0, none⟩) ∧ New2 wr 124 #[.slice none 0 0, .int .i64 0, .int .u8 0, .int .i64 0, .string ⟨#[]⟩, .int .i64 0, .int .i64 0, .slice none 0 0, .int .i64 0, .int .i64 0, .bool false, .string ⟨#[]⟩] g1 g2 w') ?_ ?_ ?_ ?_ ?_
            · intro K' hK'
              simp only [List.set_cons_zero, List.set_cons_succ] at hK'
              refine Eq.mpr (if_pos rfl) ?_
              go_simp
              have hN := New1.mk' (brf wr).drew 124 #[.slice none 0 0, .int .i64 0, .int .u8 0, .int .i64 0, .string ⟨#[]⟩, .int .i64 0, .int .i64 0, .slice none 0 0, .int .i64 0, .int .i64 0, .bool false, .string ⟨#[]⟩]
              exact hK'.out _ _ ⟨hN.hb.block _ hl1, hN.hb.block _ hl2⟩ ⟨_, rfl, hN⟩
            · rintro v w' ⟨g, rfl, hN⟩ K' hK'
              simp only [List.set_cons_zero, List.set_cons_succ] at hK' ⊢
              refine Eq.mpr (if_pos rfl) ?_
              go_simp
              have hN2 := hN.two
              exact hK'.out _ _ ⟨hN2.hb.block _ hl1, hN2.hb.block _ hl2⟩ ⟨_, _, rfl, rfl, hN2⟩
            · intro K' hK'
              simp only [List.set_cons_zero, List.set_cons_succ] at hK'
              refine Eq.mpr (if_pos rfl) ?_
              go_simp
              have hN := New1.mk' (brf wr).drew 124 #[.slice none 0 0, .int .i64 0, .int .u8 0, .int .i64 0, .string ⟨#[]⟩, .int .i64 0, .int .i64 0, .slice none 0 0, .int .i64 0, .int .i64 0, .bool false, .string ⟨#[]⟩]
              exact hK'.out _ _ ⟨hN.hb.block _ hl1, hN.hb.block _ hl2⟩ ⟨_, rfl, hN⟩
            · rintro v w' ⟨g, rfl, hN⟩ K' hK'
              simp only [List.set_cons_zero, List.set_cons_succ] at hK' ⊢
              refine Eq.mpr (if_pos rfl) ?_
              go_simp
              have hN2 := hN.two
              exact hK'.out _ _ ⟨hN2.hb.block _ hl1, hN2.hb.block _ hl2⟩ ⟨_, _, rfl, rfl, hN2.symm⟩
            rintro v u w16 ⟨gs, gt, rfl, rfl, hN⟩ _
            simp only [List.set_cons_zero, List.set_cons_succ]
            have q1 := setRow_heap w16 gs _ #[.slice sa s.1.length sac, .int .i64 (acK s.2), .int .u8 (acU s.2), .int .i64 (acM s.2), .string (acL s.2), .int .i64 (acP s.2), .int .i64 (acN s.2), .slice (acA ea s.2) 0 (acCap ec s.2), .int .i64 (acSet s.2), .int .i64 (acClr s.2), .bool (acTo s.2), .string (acLk s.2)] 124 _ hN.h1
            have q2 := (setRow_other w16 gs gt #[.slice sa s.1.length sac, .int .i64 (acK s.2), .int .u8 (acU s.2), .int .i64 (acM s.2), .string (acL s.2), .int .i64 (acP s.2), .int .i64 (acN s.2), .slice (acA ea s.2) 0 (acCap ec s.2), .int .i64 (acSet s.2), .int .i64 (acClr s.2), .bool (acTo s.2), .string (acLk s.2)] (Ne.symm hN.ne)).trans hN.h2
            have q3 := (setRow_other (w16.setRow gs #[.slice sa s.1.length sac, .int .i64 (acK s.2), .int .u8 (acU s.2), .int .i64 (acM s.2), .string (acL s.2), .int .i64 (acP s.2), .int .i64 (acN s.2), .slice (acA ea s.2) 0 (acCap ec s.2), .int .i64 (acSet s.2), .int .i64 (acClr s.2), .bool (acTo s.2), .string (acLk s.2)]) gt gs #[.slice ta t.1.length tac, .int .i64 (acK t.2), .int .u8 (acU t.2), .int .i64 (acM t.2), .string (acL t.2), .int .i64 (acP t.2), .int .i64 (acN t.2), .slice (acA fa t.2) 0 (acCap fc t.2), .int .i64 (acSet t.2), .int .i64 (acClr t.2), .bool (acTo t.2), .string (acLk t.2)] hN.ne).trans q1
            have q4 := setRow_heap (w16.setRow gs #[.slice sa s.1.length sac, .int .i64 (acK s.2), .int .u8 (acU s.2), .int .i64 (acM s.2), .string (acL s.2), .int .i64 (acP s.2), .int .i64 (acN s.2), .slice (acA ea s.2) 0 (acCap ec s.2), .int .i64 (acSet s.2), .int .i64 (acClr s.2), .bool (acTo s.2), .string (acLk s.2)]) gt _ #[.slice ta t.1.length tac, .int .i64 (acK t.2), .int .u8 (acU t.2), .int .i64 (acM t.2), .string (acL t.2), .int .i64 (acP t.2), .int .i64 (acN t.2), .slice (acA fa t.2) 0 (acCap fc t.2), .int .i64 (acSet t.2), .int .i64 (acClr t.2), .bool (acTo t.2), .string (acLk t.2)] 124 _ q2
            have hB10 := below_setRow hN.hb hN.ge1 #[.slice sa s.1.length sac, .int .i64 (acK s.2), .int .u8 (acU s.2), .int .i64 (acM s.2), .string (acL s.2), .int .i64 (acP s.2), .int .i64 (acN s.2), .slice (acA ea s.2) 0 (acCap ec s.2), .int .i64 (acSet s.2), .int .i64 (acClr s.2), .bool (acTo s.2), .string (acLk s.2)]
            have hB11 := below_setRow hB10 hN.ge2 #[.slice ta t.1.length tac, .int .i64 (acK t.2), .int .u8 (acU t.2), .int .i64 (acM t.2), .string (acL t.2), .int .i64 (acP t.2), .int .i64 (acN t.2), .slice (acA fa t.2) 0 (acCap fc t.2), .int .i64 (acSet t.2), .int .i64 (acClr t.2), .bool (acTo t.2), .string (acLk t.2)]
            refine wpAnyH_step 10 rfl (by kernel_rfl) (fun K' hK' => ?_)
            refine Eq.mpr (if_pos rfl) ?_
            refine wp_store_row 124 (.tmp 16) (.tmp 54) rfl gs #[.slice sa s.1.length sac, .int .i64 (acK s.2), .int .u8 (acU s.2), .int .i64 (acM s.2), .string (acL s.2), .int .i64 (acP s.2), .int .i64 (acN s.2), .slice (acA ea s.2) 0 (acCap ec s.2), .int .i64 (acSet s.2), .int .i64 (acClr s.2), .bool (acTo s.2), .string (acLk s.2)] rfl rfl 124 _ hN.h1 (by kernel_rfl) rfl (by simp [Value.oneCell']) ?_
            refine hK'.out _ _ ⟨hB10.block _ hl1, hB10.block _ hl2⟩ ?_
            clear hK' K'
            refine wpAnyH_step 11 rfl (by kernel_rfl) (fun K' hK' => ?_)
            refine Eq.mpr (if_pos rfl) ?_
            refine wp_store_row 124 (.tmp 17) (.tmp 58) rfl gt #[.slice ta t.1.length tac, .int .i64 (acK t.2), .int .u8 (acU t.2), .int .i64 (acM t.2), .string (acL t.2), .int .i64 (acP t.2), .int .i64 (acN t.2), .slice (acA fa t.2) 0 (acCap fc t.2), .int .i64 (acSet t.2), .int .i64 (acClr t.2), .bool (acTo t.2), .string (acLk t.2)] rfl rfl 124 _ q2 (by kernel_rfl) rfl (by simp [Value.oneCell']) ?_
            refine hK'.out _ _ ⟨hB11.block _ hl1, hB11.block _ hl2⟩ ?_
            clear hK' K'
            have H5' : Bx wb.heap.size gk gs gt #[.int .i64 1, .int .u8 0, .int .i64 0, .string ⟨#[]⟩, .int .i64 1, .int .i64 1, .slice none 0 0, .int .i64 0, .int .i64 0, .bool false, .string ⟨#[]⟩] #[.slice sa s.1.length sac, .int .i64 (acK s.2), .int .u8 (acU s.2), .int .i64 (acM s.2), .string (acL s.2), .int .i64 (acP s.2), .int .i64 (acN s.2), .slice (acA ea s.2) 0 (acCap ec s.2), .int .i64 (acSet s.2), .int .i64 (acClr s.2), .bool (acTo s.2), .string (acLk s.2)] #[.slice ta t.1.length tac, .int .i64 (acK t.2), .int .u8 (acU t.2), .int .i64 (acM t.2), .string (acL t.2), .int .i64 (acP t.2), .int .i64 (acN t.2), .slice (acA fa t.2) 0 (acCap fc t.2), .int .i64 (acSet t.2), .int .i64 (acClr t.2), .bool (acTo t.2), .string (acLk t.2)] ((w16.setRow gs #[.slice sa s.1.length sac, .int .i64 (acK s.2), .int .u8 (acU s.2), .int .i64 (acM s.2), .string (acL s.2), .int .i64 (acP s.2), .int .i64 (acN s.2), .slice (acA ea s.2) 0 (acCap ec s.2), .int .i64 (acSet s.2), .int .i64 (acClr s.2), .bool (acTo s.2), .string (acLk s.2)]).setRow gt #[.slice ta t.1.length tac, .int .i64 (acK t.2), .int .u8 (acU t.2), .int .i64 (acM t.2), .string (acL t.2), .int .i64 (acP t.2), .int .i64 (acN t.2), .slice (acA fa t.2) 0 (acCap fc t.2), .int .i64 (acSet t.2), .int .i64 (acClr t.2), .bool (acTo t.2), .string (acLk t.2)]) := ⟨(hB11.block gk (Nat.lt_of_lt_of_le hlk hb.size)).trans ((hb.block gk hlk).trans hk'.out), q3, q4, hlk⟩
            generalize hw5 : (w16.setRow gs #[.slice sa s.1.length sac, .int .i64 (acK s.2), .int .u8 (acU s.2), .int .i64 (acM s.2), .string (acL s.2), .int .i64 (acP s.2), .int .i64 (acN s.2), .slice (acA ea s.2) 0 (acCap ec s.2), .int .i64 (acSet s.2), .int .i64 (acClr s.2), .bool (acTo s.2), .string (acLk s.2)]).setRow gt #[.slice ta t.1.length tac, .int .i64 (acK t.2), .int .u8 (acU t.2), .int .i64 (acM t.2), .string (acL t.2), .int .i64 (acP t.2), .int .i64 (acN t.2), .slice (acA fa t.2) 0 (acCap fc t.2), .int .i64 (acSet t.2), .int .i64 (acClr t.2), .bool (acTo t.2), .string (acLk t.2)] = w5 at *
            have H5 := Lib.hid H5'
            have T5 := Lib.hid (T0.out.below hB11)
            have A5 := Lib.hid (RActs.to hA1 (Kp.below (btr (btr HB1.out hb) hB11)))
            have D5 := Lib.hid hA2
            have B5 := Lib.hid hB11
            have BW := Lib.hid (show Below wr.heap.size wr w5.drew from hB11.drew)
            clear hw5 q1 q2 q3 q4 hB10 hB11 hN H5' T0 hA1 hA2 hC1 hC2 SD
            refine wpAnyH_done (by kernel_rfl) ?_ _
            obtain ⟨M1, qM1⟩ : ∃ M, List.replicate t.1.length keep0 = M := ⟨_, rfl⟩
            obtain ⟨M2, qM2⟩ : ∃ M, List.replicate s.1.length keep0 = M := ⟨_, rfl⟩
            obtain ⟨X1, qX1⟩ : ∃ M, X ++ s.1 = M := ⟨_, rfl⟩
            obtain ⟨X2, qX2⟩ : ∃ M, X1 ++ M1 = M := ⟨_, rfl⟩
            obtain ⟨Y1, qY1⟩ : ∃ M, Y ++ M2 = M := ⟨_, rfl⟩
            obtain ⟨Y2, qY2⟩ : ∃ M, Y1 ++ t.1 = M := ⟨_, rfl⟩
            have hlm1 : M1.length = t.1.length := by rw [← qM1, List.length_replicate]
            have hlm2 : M2.length = s.1.length := by rw [← qM2, List.length_replicate]
            have hlx1 : X1.length = X.length + s.1.length := by rw [← qX1, List.length_append]
            have hlx2 : X2.length = X.length + s.1.length + t.1.length := by rw [← qX2, List.length_append, hlx1, hlm1]
            have hly1 : Y1.length = Y.length + s.1.length := by rw [← qY1, List.length_append, hlm2]
            have hly2 : Y2.length = Y.length + s.1.length + t.1.length := by rw [← qY2, List.length_append, hly1]
            have hst2 : turnR P Q = (X2 ++ ((own2 s.2 t.2).1 ++ (turnR (P.drop (i + 1)) (Q.drop (i + 1))).1), Y2 ++ ((own2 s.2 t.2).2 ++ (turnR (P.drop (i + 1)) (Q.drop (i + 1))).2)) := by
              rw [hstep, ← qX2, ← qX1, ← qY2, ← qY1, ← qM1, ← qM2]
              simp only [rowT, List.append_assoc]
            have hbx : X.length + s.1.length + t.1.length ≤ 8000 := by have := HT.out.1; rw [hst2] at this; simp only [List.length_append, hlx2] at this; omega
            have hby : Y.length + s.1.length + t.1.length ≤ 8000 := by have := HT.out.2; rw [hst2] at this; simp only [List.length_append, hly2] at this; omega
            have hst3 := Lib.hid hst2
            have E1 := Lib.hid qX1
            have E2 := Lib.hid qX2
            have E3 := Lib.hid qY1
            have E4 := Lib.hid qY2
            have EM1 := Lib.hid qM1
            have EM2 := Lib.hid qM2
            have L1 := Lib.hid hlm1
            have L2 := Lib.hid hlm2
            have L3 := Lib.hid hlx1
            have L4 := Lib.hid hlx2
            have L5 := Lib.hid hly1
            have L6 := Lib.hid hly2
            have L7 := Lib.hid hbx
            have L8 := Lib.hid hby
            clear qX1 qX2 qY1 qY2 qM1 qM2 hlm1 hlm2 hlx1 hlx2 hly1 hly2 hst2 hst hstep hbx hby
            go_upto_region 17 with fail
            have SD : Bx wb.heap.size gk gs gt #[.int .i64 1, .int .u8 0, .int .i64 0, .string ⟨#[]⟩, .int .i64 1, .int .i64 1, .slice none 0 0, .int .i64 0, .int .i64 0, .bool false, .string ⟨#[]⟩] #[.slice sa s.1.length sac, .int .i64 (acK s.2), .int .u8 (acU s.2), .int .i64 (acM s.2), .string (acL s.2), .int .i64 (acP s.2), .int .i64 (acN s.2), .slice (acA ea s.2) 0 (acCap ec s.2), .int .i64 (acSet s.2), .int .i64 (acClr s.2), .bool (acTo s.2), .string (acLk s.2)] #[.slice ta t.1.length tac, .int .i64 (acK t.2), .int .u8 (acU t.2), .int .i64 (acM t.2), .string (acL t.2), .int .i64 (acP t.2), .int .i64 (acN t.2), .slice (acA fa t.2) 0 (acCap fc t.2), .int .i64 (acSet t.2), .int .i64 (acClr t.2), .bool (acTo t.2), .string (acLk t.2)] w5.drew := ⟨H5.out.hk, H5.out.hs, H5.out.ht, H5.out.lk⟩
            have TD := Lib.hid (T5.out.below (brf w5).drew)
            have AD := Lib.hid (RActs.to A5.out (Kp.below (brf w5).drew))
            refine wp_region_held (S := Bx wb.heap.size gk gs gt #[.int .i64 1, .int .u8 0, .int .i64 0, .string ⟨#[]⟩, .int .i64 1, .int .i64 1, .slice none 0 0, .int .i64 0, .int .i64 0, .bool false, .string ⟨#[]⟩] #[.slice sa s.1.length sac, .int .i64 (acK s.2), .int .u8 (acU s.2), .int .i64 (acM s.2), .string (acL s.2), .int .i64 (acP s.2), .int .i64 (acN s.2), .slice (acA ea s.2) 0 (acCap ec s.2), .int .i64 (acSet s.2), .int .i64 (acClr s.2), .bool (acTo s.2), .string (acLk s.2)] #[.slice ta t.1.length tac, .int .i64 (acK t.2), .int .u8 (acU t.2), .int .i64 (acM t.2), .string (acL t.2), .int .i64 (acP t.2), .int .i64 (acN t.2), .slice (acA fa t.2) 0 (acCap fc t.2), .int .i64 (acSet t.2), .int .i64 (acClr t.2), .bool (acTo t.2), .string (acLk t.2)]) (by kernel_rfl) ?_
            refine wpAnyH_takeD 0 59 (v := ?_) rfl rfl (by kernel_rfl) (by kernel_rfl) (by kernel_rfl) (fun _ _ _ h => h) (Or.inl ⟨by rfl, ?_⟩) SD ?_
            rotate_left
            · (intro w' hw'; (try dsimp only at hw'); go_simp; try with_reducible rfl)
            simp only [List.set_cons_zero, List.set_cons_succ]
            refine wpAnyH_takeD 1 60 (v := ?_) rfl rfl (by kernel_rfl) (by kernel_rfl) (by kernel_rfl) (fun _ _ _ h => h) (Or.inl ⟨by rfl, ?_⟩) SD ?_
            rotate_left
            · (intro w' hw'; (try dsimp only at hw'); go_simp; try with_reducible rfl)
            simp only [List.set_cons_zero, List.set_cons_succ]
            refine wpAnyH_takeD 2 61 (v := ?_) rfl rfl (by kernel_rfl) (by kernel_rfl) (by kernel_rfl) (fun _ _ _ h => h) (Or.inl ⟨by rfl, ?_⟩) SD ?_
            rotate_left
            · (intro w' hw'; have k0 := cell_of hw'.hs 0 _ rfl; (try dsimp only at hw'); go_simp; try with_reducible rfl)
            simp only [List.set_cons_zero, List.set_cons_succ]
            refine wpAnyH_takeD 4 63 (v := ?_) rfl rfl (by kernel_rfl) (by kernel_rfl) (by kernel_rfl) (fun _ _ _ h => h) (?_) SD ?_
            rotate_left
            · refine yieldsIf_load_mid ?_ 114 (.tmp 12) ?_ gk 0 ?_ [.int .i64 1, .int .u8 0, .int .i64 0, .string ⟨#[]⟩, .int .i64 1, .int .i64 1, .slice none 0 0, .int .i64 0, .int .i64 0, .bool false, .string ⟨#[]⟩] _ ?_ Tryz.underlying114 rfl (by kernel_rfl)
              · rfl
              · rfl
              · rfl
              · intro w' hw' j v hj
                exact cell_of hw'.hk (0 + j) v (by simpa using hj)
            simp only [List.set_cons_zero, List.set_cons_succ]
            refine wpAnyH_takeD 6 65 (v := ?_) rfl rfl (by kernel_rfl) (by kernel_rfl) (by kernel_rfl) (fun _ _ _ h => h) (Or.inl ⟨by rfl, ?_⟩) SD ?_
            rotate_left
            · (intro w' hw'; (try dsimp only at hw'); go_simp; try with_reducible rfl)
            simp only [List.set_cons_zero, List.set_cons_succ]
            refine wpAnyH_takeD 7 66 (v := ?_) rfl rfl (by kernel_rfl) (by kernel_rfl) (by kernel_rfl) (fun _ _ _ h => h) (Or.inl ⟨by rfl, ?_⟩) SD ?_
            rotate_left
            · (intro w' hw'; have k0 := cell_of hw'.ht 0 _ rfl; (try dsimp only at hw'); go_simp; try with_reducible rfl)
            simp only [List.set_cons_zero, List.set_cons_succ]
            refine wpAnyH_takeD 8 67 (v := ?_) rfl rfl (by kernel_rfl) (by kernel_rfl) (by kernel_rfl) (fun _ _ _ h => h) (Or.inl ⟨by rfl, ?_⟩) SD ?_
            rotate_left
            · (intro w' hw'; (try dsimp only at hw'); go_simp; try with_reducible rfl)
            simp only [List.set_cons_zero, List.set_cons_succ]
            refine wpAnyH_two 3 5 62 64 rfl rfl (by decide) (by kernel_rfl) (by kernel_rfl) (by kernel_rfl) (by decide) (fun v w' => TwoA wb.heap.size w' v (.slice ma Y.length mc) X1 Y ∧ Bx wb.heap.size gk gs gt #[.int .i64 1, .int .u8 0, .int .i64 0, .string ⟨#[]⟩, .int .i64 1, .int .i64 1, .slice none 0 0, .int .i64 0, .int .i64 0, .bool false, .string ⟨#[]⟩] #[.slice sa s.1.length sac, .int .i64 (acK s.2), .int .u8 (acU s.2), .int .i64 (acM s.2), .string (acL s.2), .int .i64 (acP s.2), .int .i64 (acN s.2), .slice (acA ea s.2) 0 (acCap ec s.2), .int .i64 (acSet s.2), .int .i64 (acClr s.2), .bool (acTo s.2), .string (acLk s.2)] #[.slice ta t.1.length tac, .int .i64 (acK t.2), .int .u8 (acU t.2), .int .i64 (acM t.2), .string (acL t.2), .int .i64 (acP t.2), .int .i64 (acN t.2), .slice (acA fa t.2) 0 (acCap fc t.2), .int .i64 (acSet t.2), .int .i64 (acClr t.2), .bool (acTo t.2), .string (acLk t.2)] w' ∧ Below wb.heap.size wb w') (fun u w' => TwoA wb.heap.size w' (.slice la X.length lc) (.slice ma Y.length mc) X Y ∧ Bx wb.heap.size gk gs gt #[.int .i64 1, .int .u8 0, .int .i64 0, .string ⟨#[]⟩, .int .i64 1, .int .i64 1, .slice none 0 0, .int .i64 0, .int .i64 0, .bool false, .string ⟨#[]⟩] #[.slice sa s.1.length sac, .int .i64 (acK s.2), .int .u8 (acU s.2), .int .i64 (acM s.2), .string (acL s.2), .int .i64 (acP s.2), .int .i64 (acN s.2), .slice (acA ea s.2) 0 (acCap ec s.2), .int .i64 (acSet s.2), .int .i64 (acClr s.2), .bool (acTo s.2), .string (acLk s.2)] #[.slice ta t.1.length tac, .int .i64 (acK t.2), .int .u8 (acU t.2), .int .i64 (acM t.2), .string (acL t.2), .int .i64 (acP t.2), .int .i64 (acN t.2), .slice (acA fa t.2) 0 (acCap fc t.2), .int .i64 (acSet t.2), .int .i64 (acClr t.2), .bool (acTo t.2), .string (acLk t.2)] w' ∧ RActs (fun _ => True) w' (.slice sa s.1.length sac) s.1 ∧ (∃ g, u = .slice (some ⟨g, 0, none⟩) 1 1 ∧ RActs (· = g) w' u [keep0] ∧ ∀ k, (Value.slice la X.length lc).ownBlock = some k → k ≠ g) ∧ Below wb.heap.size wb w') (fun v u w' => TwoA wb.heap.size w' v (.slice ma Y.length mc) X1 Y ∧ (∃ g, u = .slice (some ⟨g, 0, none⟩) 1 1 ∧ RActs (· = g) w' u [keep0]) ∧ Below wb.heap.size wb w') ?_ ?_ ?_ ?_ ?_
            · intro K' hK'
              simp only [List.set_cons_zero, List.set_cons_succ] at hK'
              refine stepTwo (a := ⟨_, _⟩) ?_ (.tmp 59) (.tmp 61) ?_ TD.out ?_ (.slice sa s.1.length sac) ?_ AD.out (by have := L7.out; omega) ?_
              · rfl
              · rfl
              · rfl
              · rfl
              intro v1 w1' hT1 hB1 hg1
              rw [E1.out] at hT1
              have hS1 := SD.grown TD.out hg1
              exact hK'.out _ _ hS1 ⟨hT1, hS1, (btr hb (BW.out)).trans hB1⟩
            · rintro v w' ⟨hT, hS, hB⟩ K' hK'
              obtain ⟨la1, lc1, rfl⟩ := len_nil hT.l
              simp only [List.set_cons_zero, List.set_cons_succ] at hK' ⊢
              refine Eq.mpr (if_pos rfl) ?_
              go_simp
              have hb1 : Below w'.heap.size w' (w'.alloc (.cells #[.int .i64 1, .int .u8 0, .int .i64 0, .string ⟨#[]⟩, .int .i64 1, .int .i64 1, .slice none 0 0, .int .i64 0, .int .i64 0, .bool false, .string ⟨#[]⟩] 114)) := bal (brf w') _
              have hR : RActs (· = w'.heap.size) (w'.alloc (.cells #[.int .i64 1, .int .u8 0, .int .i64 0, .string ⟨#[]⟩, .int .i64 1, .int .i64 1, .slice none 0 0, .int .i64 0, .int .i64 0, .bool false, .string ⟨#[]⟩] 114)) (.slice (some ⟨w'.heap.size, 0, none⟩) 1 1) [keep0] := RdS.one [.int .i64 1, .int .u8 0, .int .i64 0, .string ⟨#[]⟩, .int .i64 1, .int .i64 1, .slice none 0 0, .int .i64 0, .int .i64 0, .bool false, .string ⟨#[]⟩] 114 rfl rfl ⟨.slice none 0 0, E0.nil, rfl⟩
              exact hK'.out _ _ (hS.below hb1) ⟨hT.below hb1, ⟨_, rfl, hR⟩, hB.trans (hb1.mono hT.hB)⟩
            · intro K' hK'
              simp only [List.set_cons_zero, List.set_cons_succ] at hK'
              refine Eq.mpr (if_pos rfl) ?_
              go_simp
              have hb1 : Below w5.drew.heap.size w5.drew (w5.drew.alloc (.cells #[.int .i64 1, .int .u8 0, .int .i64 0, .string ⟨#[]⟩, .int .i64 1, .int .i64 1, .slice none 0 0, .int .i64 0, .int .i64 0, .bool false, .string ⟨#[]⟩] 114)) := bal (brf w5.drew) _
              have hR : RActs (· = w5.drew.heap.size) (w5.drew.alloc (.cells #[.int .i64 1, .int .u8 0, .int .i64 0, .string ⟨#[]⟩, .int .i64 1, .int .i64 1, .slice none 0 0, .int .i64 0, .int .i64 0, .bool false, .string ⟨#[]⟩] 114)) (.slice (some ⟨w5.drew.heap.size, 0, none⟩) 1 1) [keep0] := RdS.one [.int .i64 1, .int .u8 0, .int .i64 0, .string ⟨#[]⟩, .int .i64 1, .int .i64 1, .slice none 0 0, .int .i64 0, .int .i64 0, .bool false, .string ⟨#[]⟩] 114 rfl rfl ⟨.slice none 0 0, E0.nil, rfl⟩
              have hS1 := SD.below hb1
              exact hK'.out _ _ hS1 ⟨TD.out.below hb1, hS1, RActs.to AD.out (Kp.below hb1), ⟨_, rfl, hR, fun k hk => Nat.ne_of_lt (own_ge TD.out.l hk).2.1⟩, (btr hb BW.out).trans (hb1.mono TD.out.hB)⟩
            · rintro u w' ⟨hT, hS, hA, ⟨g, rfl, hR, hne⟩, hB⟩ K' hK'
              simp only [List.set_cons_zero, List.set_cons_succ] at hK' ⊢
              refine stepTwo (a := ⟨_, _⟩) ?_ (.tmp 59) (.tmp 61) ?_ hT ?_ (.slice sa s.1.length sac) ?_ hA (by have := L7.out; omega) ?_
              · rfl
              · rfl
              · rfl
              · rfl
              intro v1 w1' hT1 hB1 hg1
              rw [E1.out] at hT1
              exact hK'.out _ _ (hS.grown hT hg1) ⟨hT1, ⟨_, rfl, RActs.grown hR hne hg1⟩, hB.trans hB1⟩
            rintro v u w6 ⟨hT6, ⟨g, rfl, hR6⟩, hB6⟩ hS6
            obtain ⟨la1, lc1, rfl⟩ := len_nil hT6.l
            simp only [List.set_cons_zero, List.set_cons_succ]
            have T6 := Lib.hid hT6
            clear hT6 AD TD SD T5
            refine wpAnyH_step 9 rfl (by kernel_rfl) (fun K' hK' => ?_)
            refine Eq.mpr (if_pos rfl) ?_
            go_simp
            go_at_call 96
            refine (repeat_any _ _ keep0 t.1.length w6 hR6 (by have := L7.out; omega)).mono ?_
            rintro e w7 ⟨r7, rfl, hr7, hb7⟩
            rw [EM1.out] at hr7
            obtain ⟨ra7, rc7, rfl⟩ := len_nil hr7
            have hS7 := hS6.below hb7
            have T7 := Lib.hid (T6.out.below hb7)
            have hB7 := hB6.trans (hb7.mono T6.out.hB)
            have R7 := Lib.hid hr7.rd
            clear hr7 T6 hR6 hb7
            go_wp2_with fail
            refine hK'.out _ _ hS7 ?_
            clear hK' K'
            refine wpAnyH_step 10 rfl (by kernel_rfl) (fun K' hK' => ?_)
            refine stepTwo (a := ⟨_, _⟩) ?_ (.tmp 62) (.tmp 68) ?_ T7.out ?_ (.slice ra7 M1.length rc7) ?_ R7.out (by have := L7.out; have := L3.out; have := L1.out; omega) ?_
            · rfl
            · rfl
            · rfl
            · rfl
            intro v8 w8 hT8 hB8 hg8
            rw [E2.out] at hT8
            obtain ⟨la2, lc2, rfl⟩ := len_nil hT8.l
            have hS8 := hS7.grown T7.out hg8
            have hB8' := hB7.trans hB8
            have T8 := Lib.hid hT8
            clear hT8 hB8 hg8 R7 T7
            refine hK'.out _ _ hS8 ?_
            clear hK' K'
            refine wpAnyH_takeD 11 13 (v := ?_) rfl rfl (by kernel_rfl) (by kernel_rfl) (by kernel_rfl) (fun _ _ _ h => h) (Or.inl ⟨by rfl, ?_⟩) hS8 ?_
            rotate_left
            · (intro w' hw'; (try dsimp only at hw'); go_simp; try with_reducible rfl)
            simp only [List.set_cons_zero, List.set_cons_succ]
            refine wpAnyH_done (by kernel_rfl) ?_ _
            have H8 := Lib.hid hS8
            clear hS8 hS7 hS6 hB6 hB7
            go_upto_region 18 with fail
            have SD : Bx wb.heap.size gk gs gt #[.int .i64 1, .int .u8 0, .int .i64 0, .string ⟨#[]⟩, .int .i64 1, .int .i64 1, .slice none 0 0, .int .i64 0, .int .i64 0, .bool false, .string ⟨#[]⟩] #[.slice sa s.1.length sac, .int .i64 (acK s.2), .int .u8 (acU s.2), .int .i64 (acM s.2), .string (acL s.2), .int .i64 (acP s.2), .int .i64 (acN s.2), .slice (acA ea s.2) 0 (acCap ec s.2), .int .i64 (acSet s.2), .int .i64 (acClr s.2), .bool (acTo s.2), .string (acLk s.2)] #[.slice ta t.1.length tac, .int .i64 (acK t.2), .int .u8 (acU t.2), .int .i64 (acM t.2), .string (acL t.2), .int .i64 (acP t.2), .int .i64 (acN t.2), .slice (acA fa t.2) 0 (acCap fc t.2), .int .i64 (acSet t.2), .int .i64 (acClr t.2), .bool (acTo t.2), .string (acLk t.2)] w8.drew := ⟨H8.out.hk, H8.out.hs, H8.out.ht, H8.out.lk⟩
            have hbd : Below w8.heap.size w8 w8.drew := (brf w8).drew
            have TD := Lib.hid (T8.out.below hbd).symm
            have hBd := hB8'.trans (hbd.mono T8.out.hB)
            refine wp_region_held (S := Bx wb.heap.size gk gs gt #[.int .i64 1, .int .u8 0, .int .i64 0, .string ⟨#[]⟩, .int .i64 1, .int .i64 1, .slice none 0 0, .int .i64 0, .int .i64 0, .bool false, .string ⟨#[]⟩] #[.slice sa s.1.length sac, .int .i64 (acK s.2), .int .u8 (acU s.2), .int .i64 (acM s.2), .string (acL s.2), .int .i64 (acP s.2), .int .i64 (acN s.2), .slice (acA ea s.2) 0 (acCap ec s.2), .int .i64 (acSet s.2), .int .i64 (acClr s.2), .bool (acTo s.2), .string (acLk s.2)] #[.slice ta t.1.length tac, .int .i64 (acK t.2), .int .u8 (acU t.2), .int .i64 (acM t.2), .string (acL t.2), .int .i64 (acP t.2), .int .i64 (acN t.2), .slice (acA fa t.2) 0 (acCap fc t.2), .int .i64 (acSet t.2), .int .i64 (acClr t.2), .bool (acTo t.2), .string (acLk t.2)]) (by kernel_rfl) ?_
            show wpAnyH _ _ _ _ _ _ _ _ w8.drew
            generalize hwd : w8.drew = wd at *
            clear hwd hbd
            refine wpAnyH_takeD 0 70 (v := ?_) rfl rfl (by kernel_rfl) (by kernel_rfl) (by kernel_rfl) (fun _ _ _ h => h) (Or.inl ⟨by rfl, ?_⟩) SD ?_
            rotate_left
            · (intro w' hw'; (try dsimp only at hw'); go_simp; try with_reducible rfl)
            simp only [List.set_cons_zero, List.set_cons_succ]
            refine wpAnyH_takeD 1 71 (v := ?_) rfl rfl (by kernel_rfl) (by kernel_rfl) (by kernel_rfl) (fun _ _ _ h => h) (?_) SD ?_
            rotate_left
            · refine yieldsIf_load_mid ?_ 114 (.tmp 12) ?_ gk 0 ?_ [.int .i64 1, .int .u8 0, .int .i64 0, .string ⟨#[]⟩, .int .i64 1, .int .i64 1, .slice none 0 0, .int .i64 0, .int .i64 0, .bool false, .string ⟨#[]⟩] _ ?_ Tryz.underlying114 rfl (by kernel_rfl)
              · rfl
              · rfl
              · rfl
              · intro w' hw' j v hj
                exact cell_of hw'.hk (0 + j) v (by simpa using hj)
            simp only [List.set_cons_zero, List.set_cons_succ]
            refine wpAnyH_takeD 3 73 (v := ?_) rfl rfl (by kernel_rfl) (by kernel_rfl) (by kernel_rfl) (fun _ _ _ h => h) (Or.inl ⟨by rfl, ?_⟩) SD ?_
            rotate_left
            · (intro w' hw'; (try dsimp only at hw'); go_simp; try with_reducible rfl)
            simp only [List.set_cons_zero, List.set_cons_succ]
            refine wpAnyH_takeD 4 74 (v := ?_) rfl rfl (by kernel_rfl) (by kernel_rfl) (by kernel_rfl) (fun _ _ _ h => h) (Or.inl ⟨by rfl, ?_⟩) SD ?_
            rotate_left
            · (intro w' hw'; have k0 := cell_of hw'.hs 0 _ rfl; (try dsimp only at hw'); go_simp; try with_reducible rfl)
            simp only [List.set_cons_zero, List.set_cons_succ]
            refine wpAnyH_takeD 5 75 (v := ?_) rfl rfl (by kernel_rfl) (by kernel_rfl) (by kernel_rfl) (fun _ _ _ h => h) (Or.inl ⟨by rfl, ?_⟩) SD ?_
            rotate_left
            · (intro w' hw'; (try dsimp only at hw'); go_simp; try with_reducible rfl)
            simp only [List.set_cons_zero, List.set_cons_succ]
            refine wpAnyH_takeD 8 78 (v := ?_) rfl rfl (by kernel_rfl) (by kernel_rfl) (by kernel_rfl) (fun _ _ _ h => h) (Or.inl ⟨by rfl, ?_⟩) SD ?_
            rotate_left
            · (intro w' hw'; (try dsimp only at hw'); go_simp; try with_reducible rfl)
            simp only [List.set_cons_zero, List.set_cons_succ]
            refine wpAnyH_takeD 9 79 (v := ?_) rfl rfl (by kernel_rfl) (by kernel_rfl) (by kernel_rfl) (fun _ _ _ h => h) (Or.inl ⟨by rfl, ?_⟩) SD ?_
            rotate_left
            · (intro w' hw'; have k0 := cell_of hw'.ht 0 _ rfl; (try dsimp only at hw'); go_simp; try with_reducible rfl)
            simp only [List.set_cons_zero, List.set_cons_succ]
            refine wpAnyH_step 2 rfl (by kernel_rfl) (fun K' hK' => ?_)
            refine Eq.mpr (if_pos rfl) ?_
            go_simp
            have hb1 : Below wd.heap.size wd (wd.alloc (.cells #[.int .i64 1, .int .u8 0, .int .i64 0, .string ⟨#[]⟩, .int .i64 1, .int .i64 1, .slice none 0 0, .int .i64 0, .int .i64 0, .bool false, .string ⟨#[]⟩] 114)) := bal (brf wd) _
            have hR : RActs (· = wd.heap.size) (wd.alloc (.cells #[.int .i64 1, .int .u8 0, .int .i64 0, .string ⟨#[]⟩, .int .i64 1, .int .i64 1, .slice none 0 0, .int .i64 0, .int .i64 0, .bool false, .string ⟨#[]⟩] 114)) (.slice (some ⟨wd.heap.size, 0, none⟩) 1 1) [keep0] := RdS.one [.int .i64 1, .int .u8 0, .int .i64 0, .string ⟨#[]⟩, .int .i64 1, .int .i64 1, .slice none 0 0, .int .i64 0, .int .i64 0, .bool false, .string ⟨#[]⟩] 114 rfl rfl ⟨.slice none 0 0, E0.nil, rfl⟩
            have hS9 := SD.below hb1
            have T9 := Lib.hid (TD.out.below hb1)
            have hB9 := hBd.trans (hb1.mono TD.out.hB)
            refine hK'.out _ _ hS9 ?_
            clear hK' K'
            obtain ⟨w9, hw9⟩ : ∃ x, wd.alloc (.cells #[.int .i64 1, .int .u8 0, .int .i64 0, .string ⟨#[]⟩, .int .i64 1, .int .i64 1, .slice none 0 0, .int .i64 0, .int .i64 0, .bool false, .string ⟨#[]⟩] 114) = x := ⟨_, rfl⟩
            rw [hw9] at hR hS9 T9 hB9 ⊢
            generalize wd.heap.size = g9 at hR ⊢
            clear hw9 hb1 TD SD hBd T8 hB8'
            refine wpAnyH_step 6 rfl (by kernel_rfl) (fun K' hK' => ?_)
            refine Eq.mpr (if_pos rfl) ?_
            go_simp
            go_at_call 96
            refine (repeat_any _ _ keep0 s.1.length w9 hR (by have := L7.out; omega)).mono ?_
            rintro e w10 ⟨r10, rfl, hr10, hb10⟩
            rw [EM2.out] at hr10
            obtain ⟨ra10, rc10, rfl⟩ := len_nil hr10
            have hS10 := hS9.below hb10
            have T10 := Lib.hid (T9.out.below hb10)
            have hB10 := hB9.trans (hb10.mono T9.out.hB)
            have R10 := Lib.hid hr10.rd
            clear hr10 T9 hR hb10 hS9
            go_wp2_with fail
            refine hK'.out _ _ hS10 ?_
            clear hK' K'
            refine wpAnyH_step 7 rfl (by kernel_rfl) (fun K' hK' => ?_)
            refine stepTwo (a := ⟨_, _⟩) ?_ (.tmp 70) (.tmp 76) ?_ T10.out ?_ (.slice ra10 M2.length rc10) ?_ R10.out (by have := L8.out; have := L2.out; omega) ?_
            · rfl
            · rfl
            · rfl
            · rfl
            intro v11 w11 hT11 hB11 hg11
            rw [E3.out] at hT11
            obtain ⟨ma1, mc1, rfl⟩ := len_nil hT11.l
            have hS11 := hS10.grown T10.out hg11
            have hB11' := hB10.trans hB11
            have T11 := Lib.hid hT11
            clear hT11 hB11 hg11 R10 T10
            refine hK'.out _ _ hS11 ?_
            clear hK' K'
            have D11 := Lib.hid (RActs.to D5.out (Kp.below (btr HB2.out hB11')))
            refine wpAnyH_step 10 rfl (by kernel_rfl) (fun K' hK' => ?_)
            refine stepTwo (a := ⟨_, _⟩) ?_ (.tmp 77) (.tmp 79) ?_ T11.out ?_ (.slice ta t.1.length tac) ?_ D11.out (by have := L8.out; have := L5.out; omega) ?_
            · rfl
            · rfl
            · rfl
            · rfl
            intro v12 w12 hT12 hB12 hg12
            rw [E4.out] at hT12
            obtain ⟨ma2, mc2, rfl⟩ := len_nil hT12.l
            have hS12 := hS11.grown T11.out hg12
            have hB12' := Lib.hid (hB11'.trans hB12)
            have T12 := Lib.hid hT12.symm
            clear hT12 hB12 hg12 D11 T11
            refine hK'.out _ _ hS12 ?_
            clear hK' K'
            refine wpAnyH_takeD 11 14 (v := ?_) rfl rfl (by kernel_rfl) (by kernel_rfl) (by kernel_rfl) (fun _ _ _ h => h) (Or.inl ⟨by rfl, ?_⟩) hS12 ?_
            rotate_left
            · (intro w' hw'; (try dsimp only at hw'); go_simp; try with_reducible rfl)
            simp only
            refine wpAnyH_done (by kernel_rfl) ?_ _
            have H12 := Lib.hid hS12
            clear hS12 hS11 hS10 hB10 hB11' D5
            have hl2 : X2.length ≤ 8000 := by have := L4.out; have := L7.out; omega
            have hl3 : Y2.length ≤ 8000 := by have := L6.out; have := L8.out; omega
            clear E1 E2 E3 E4 EM1 EM2 L1 L2 L3 L4 L5 L6 L7 L8 B5 BW A5 H5
            generalize s.2 = so at *
            generalize t.2 = to at *
            cases so with
            | put x => exact hso.out.elim
            | cut =>
              cases to with
              | put x => exact hto.out.elim
              | cut =>
                have hst4 : Hid (turnR P Q = (X2 ++ (turnR (P.drop (i + 1)) (Q.drop (i + 1))).1, Y2 ++ (turnR (P.drop (i + 1)) (Q.drop (i + 1))).2)) := Lib.hid (by rw [hst3.out]; simp [own2])
                clear hst3
                have c0 : w12.cell? ⟨gs, 1, none⟩ = some (.int .i64 3) := cell_of H12.out.hs 1 _ rfl
                have d0 : w12.cell? ⟨gt, 1, none⟩ = some (.int .i64 3) := cell_of H12.out.ht 1 _ rfl
                go_wp2
                go_roundw
                case rel => exact ⟨i + 1, X2, Y2, by omega, by go_num, T12.out, hst4, hB12'.out⟩
                case measure => simp [intOf]; omega
              | keep v =>
                obtain ⟨vs, vz, vt, vl⟩ := v
                obtain ⟨Z3, qZ3⟩ : ∃ M, X2 ++ [Ac.cut] = M := ⟨_, rfl⟩
                have hst4 : Hid (turnR P Q = (Z3 ++ (turnR (P.drop (i + 1)) (Q.drop (i + 1))).1, Y2 ++ (turnR (P.drop (i + 1)) (Q.drop (i + 1))).2)) := Lib.hid (by rw [hst3.out, ← qZ3]; simp [own2])
                have EZ := Lib.hid qZ3
                clear qZ3 hst3
                have c0 : w12.cell? ⟨gs, 1, none⟩ = some (.int .i64 3) := cell_of H12.out.hs 1 _ rfl
                have c1 : w12.cell? ⟨gs, 2, none⟩ = some (.int .u8 0) := cell_of H12.out.hs 2 _ rfl
                have c2 : w12.cell? ⟨gs, 3, none⟩ = some (.int .i64 0) := cell_of H12.out.hs 3 _ rfl
                have c3 : w12.cell? ⟨gs, 4, none⟩ = some (.string ⟨#[]⟩) := cell_of H12.out.hs 4 _ rfl
                have c4 : w12.cell? ⟨gs, 5, none⟩ = some (.int .i64 3) := cell_of H12.out.hs 5 _ rfl
                have c5 : w12.cell? ⟨gs, 6, none⟩ = some (.int .i64 1) := cell_of H12.out.hs 6 _ rfl
                have c6 : w12.cell? ⟨gs, 7, none⟩ = some (.slice ea 0 ec) := cell_of H12.out.hs 7 _ rfl
                have c7 : w12.cell? ⟨gs, 8, none⟩ = some (.int .i64 0) := cell_of H12.out.hs 8 _ rfl
                have c8 : w12.cell? ⟨gs, 9, none⟩ = some (.int .i64 0) := cell_of H12.out.hs 9 _ rfl
                have c9 : w12.cell? ⟨gs, 10, none⟩ = some (.bool false) := cell_of H12.out.hs 10 _ rfl
                have c10 : w12.cell? ⟨gs, 11, none⟩ = some (str []) := cell_of H12.out.hs 11 _ rfl
                have d0 : w12.cell? ⟨gt, 1, none⟩ = some (.int .i64 1) := cell_of H12.out.ht 1 _ rfl
                have hb13 := bal (brf w12) (.cells #[.int .i64 3, .int .u8 0, .int .i64 0, .string ⟨#[]⟩, .int .i64 3, .int .i64 1, .slice ea 0 ec, .int .i64 0, .int .i64 0, .bool false, str []] 114)
                have T13 := Lib.hid ((T12.out).below hb13)
                go_wp2_with (at_builtin; refine wpListTwo rfl (.tmp 154) (.tmp 157) rfl T13.out rfl (F := fun _ => True) (M := [Ac.cut]) _ rfl (RdS.one [.int .i64 3, .int .u8 0, .int .i64 0, .string ⟨#[]⟩, .int .i64 3, .int .i64 1, .slice ea 0 ec, .int .i64 0, .int .i64 0, .bool false, str []] 114 rfl trivial ⟨.slice ea 0 ec, ⟨ea, ec, rfl, hme⟩, rfl⟩) (by simp; omega) ?_; intro v14 w14 hT14 hB14 hg14; rw [EZ.out] at hT14; obtain ⟨na14, nc14, rfl⟩ := len_nil hT14.l)
                go_wp2
                go_roundw
                case rel => exact ⟨i + 1, Z3, Y2, by omega, by go_num, hT14, hst4, (hB12'.out.trans (hb13.mono T12.out.hB)).trans hB14⟩
                case measure => simp [intOf]; omega
            | keep u =>
              obtain ⟨us, uz, ut, ul⟩ := u
              cases to with
              | put x => exact hto.out.elim
              | cut =>
                obtain ⟨Z3, qZ3⟩ : ∃ M, Y2 ++ [Ac.cut] = M := ⟨_, rfl⟩
                have hst4 : Hid (turnR P Q = (X2 ++ (turnR (P.drop (i + 1)) (Q.drop (i + 1))).1, Z3 ++ (turnR (P.drop (i + 1)) (Q.drop (i + 1))).2)) := Lib.hid (by rw [hst3.out, ← qZ3]; simp [own2])
                have EZ := Lib.hid qZ3
                clear qZ3 hst3
                have c0 : w12.cell? ⟨gs, 1, none⟩ = some (.int .i64 1) := cell_of H12.out.hs 1 _ rfl
                have d0 : w12.cell? ⟨gt, 1, none⟩ = some (.int .i64 3) := cell_of H12.out.ht 1 _ rfl
                have d1 : w12.cell? ⟨gt, 2, none⟩ = some (.int .u8 0) := cell_of H12.out.ht 2 _ rfl
                have d2 : w12.cell? ⟨gt, 3, none⟩ = some (.int .i64 0) := cell_of H12.out.ht 3 _ rfl
                have d3 : w12.cell? ⟨gt, 4, none⟩ = some (.string ⟨#[]⟩) := cell_of H12.out.ht 4 _ rfl
                have d4 : w12.cell? ⟨gt, 5, none⟩ = some (.int .i64 3) := cell_of H12.out.ht 5 _ rfl
                have d5 : w12.cell? ⟨gt, 6, none⟩ = some (.int .i64 1) := cell_of H12.out.ht 6 _ rfl
                have d6 : w12.cell? ⟨gt, 7, none⟩ = some (.slice fa 0 fc) := cell_of H12.out.ht 7 _ rfl
                have d7 : w12.cell? ⟨gt, 8, none⟩ = some (.int .i64 0) := cell_of H12.out.ht 8 _ rfl
                have d8 : w12.cell? ⟨gt, 9, none⟩ = some (.int .i64 0) := cell_of H12.out.ht 9 _ rfl
                have d9 : w12.cell? ⟨gt, 10, none⟩ = some (.bool false) := cell_of H12.out.ht 10 _ rfl
                have d10 : w12.cell? ⟨gt, 11, none⟩ = some (str []) := cell_of H12.out.ht 11 _ rfl
                have hb13 := bal (brf w12) (.cells #[.int .i64 3, .int .u8 0, .int .i64 0, .string ⟨#[]⟩, .int .i64 3, .int .i64 1, .slice fa 0 fc, .int .i64 0, .int .i64 0, .bool false, str []] 114)
                have T13 := Lib.hid ((T12.out.symm).below hb13)
                go_wp2_with (at_builtin; refine wpListTwo rfl (.tmp 164) (.tmp 167) rfl T13.out rfl (F := fun _ => True) (M := [Ac.cut]) _ rfl (RdS.one [.int .i64 3, .int .u8 0, .int .i64 0, .string ⟨#[]⟩, .int .i64 3, .int .i64 1, .slice fa 0 fc, .int .i64 0, .int .i64 0, .bool false, str []] 114 rfl trivial ⟨.slice fa 0 fc, ⟨fa, fc, rfl, hmf⟩, rfl⟩) (by simp; omega) ?_; intro v14 w14 hT14 hB14 hg14; rw [EZ.out] at hT14; obtain ⟨na14, nc14, rfl⟩ := len_nil hT14.l)
                go_wp2
                go_roundw
                case rel => exact ⟨i + 1, X2, Z3, by omega, by go_num, hT14.symm, hst4, (hB12'.out.trans (hb13.mono T12.out.hB)).trans hB14⟩
                case measure => simp [intOf]; omega
              | keep v =>
                obtain ⟨vs, vz, vt, vl⟩ := v
                have hw1 := sub_wrap hto.out.s0 hto.out.s3 hso.out.s0 hso.out.s3 hso.out.c0 hso.out.c3
                have hw2 := sub_wrap hto.out.c0 hto.out.c3 hso.out.s0 hso.out.s3 hso.out.c0 hso.out.c3
                dsimp only at hw1 hw2
                clear hso hto
                cases ut with
                | true =>
                  obtain ⟨X3, qX3⟩ : ∃ M, X2 ++ [Ac.keep ⟨us, uz, true, ul⟩] = M := ⟨_, rfl⟩
                  obtain ⟨Y3, qY3⟩ : ∃ M, Y2 ++ [Ac.keep (overK ⟨vs, vz, vt, vl⟩ ⟨us, uz, true, ul⟩)] = M := ⟨_, rfl⟩
                  have hst4 : Hid (turnR P Q = (X3 ++ (turnR (P.drop (i + 1)) (Q.drop (i + 1))).1, Y3 ++ (turnR (P.drop (i + 1)) (Q.drop (i + 1))).2)) := Lib.hid (by rw [hst3.out, ← qX3, ← qY3]; simp [own2])
                  have EX := Lib.hid qX3
                  have EY := Lib.hid qY3
                  clear qX3 qY3 hst3
                  have c0 : w12.cell? ⟨gs, 1, none⟩ = some (.int .i64 1) := cell_of H12.out.hs 1 _ rfl
                  have c1 : w12.cell? ⟨gs, 2, none⟩ = some (.int .u8 0) := cell_of H12.out.hs 2 _ rfl
                  have c2 : w12.cell? ⟨gs, 3, none⟩ = some (.int .i64 0) := cell_of H12.out.hs 3 _ rfl
                  have c3 : w12.cell? ⟨gs, 4, none⟩ = some (.string ⟨#[]⟩) := cell_of H12.out.hs 4 _ rfl
                  have c4 : w12.cell? ⟨gs, 5, none⟩ = some (.int .i64 1) := cell_of H12.out.hs 5 _ rfl
                  have c5 : w12.cell? ⟨gs, 6, none⟩ = some (.int .i64 1) := cell_of H12.out.hs 6 _ rfl
                  have c6 : w12.cell? ⟨gs, 7, none⟩ = some (.slice ea 0 ec) := cell_of H12.out.hs 7 _ rfl
                  have c7 : w12.cell? ⟨gs, 8, none⟩ = some (.int .i64 us) := cell_of H12.out.hs 8 _ rfl
                  have c8 : w12.cell? ⟨gs, 9, none⟩ = some (.int .i64 uz) := cell_of H12.out.hs 9 _ rfl
                  have c9 : w12.cell? ⟨gs, 10, none⟩ = some (.bool true) := cell_of H12.out.hs 10 _ rfl
                  have c10 : w12.cell? ⟨gs, 11, none⟩ = some (str ul) := cell_of H12.out.hs 11 _ rfl
                  have d0 : w12.cell? ⟨gt, 1, none⟩ = some (.int .i64 1) := cell_of H12.out.ht 1 _ rfl
                  have hb13 := bal (brf w12) (.cells #[.int .i64 1, .int .u8 0, .int .i64 0, .string ⟨#[]⟩, .int .i64 1, .int .i64 1, .slice ea 0 ec, .int .i64 us, .int .i64 uz, .bool true, str ul] 114)
                  have T13 := Lib.hid (T12.out.below hb13)
                  have H13 := Lib.hid (H12.out.below hb13)
                  go_upto_region 21 with (at_builtin; refine wpListTwo rfl (.tmp 92) (.tmp 95) rfl T13.out rfl (F := fun _ => True) (M := [Ac.keep ⟨us, uz, true, ul⟩]) _ rfl (RdS.one [.int .i64 1, .int .u8 0, .int .i64 0, .string ⟨#[]⟩, .int .i64 1, .int .i64 1, .slice ea 0 ec, .int .i64 us, .int .i64 uz, .bool true, str ul] 114 rfl trivial ⟨.slice ea 0 ec, ⟨ea, ec, rfl, hme⟩, rfl⟩) (by simp; omega) ?_; intro v14 w14 hT14 hB14 hg14; rw [EX.out] at hT14; obtain ⟨la14, lc14, rfl⟩ := len_nil hT14.l)
                  have H14 := Lib.hid (H13.out.grown T13.out hg14)
                  have B14 := Lib.hid ((hB12'.out.trans (hb13.mono T12.out.hB)).trans hB14)
                  have T14 := Lib.hid hT14
                  clear c0 c1 c2 c3 c4 c5 c6 c7 c8 c9 c10 d0 hb13 T13 H13 hT14 hB14 hg14
                  have d0 : w14.cell? ⟨gt, 1, none⟩ = some (.int .i64 1) := cell_of H14.out.ht 1 _ rfl
                  have d1 : w14.cell? ⟨gt, 2, none⟩ = some (.int .u8 0) := cell_of H14.out.ht 2 _ rfl
                  have d2 : w14.cell? ⟨gt, 3, none⟩ = some (.int .i64 0) := cell_of H14.out.ht 3 _ rfl
                  have d3 : w14.cell? ⟨gt, 4, none⟩ = some (.string ⟨#[]⟩) := cell_of H14.out.ht 4 _ rfl
                  have d4 : w14.cell? ⟨gt, 5, none⟩ = some (.int .i64 1) := cell_of H14.out.ht 5 _ rfl
                  have d5 : w14.cell? ⟨gt, 6, none⟩ = some (.int .i64 1) := cell_of H14.out.ht 6 _ rfl
                  have d6 : w14.cell? ⟨gt, 7, none⟩ = some (.slice fa 0 fc) := cell_of H14.out.ht 7 _ rfl
                  have d7 : w14.cell? ⟨gt, 8, none⟩ = some (.int .i64 vs) := cell_of H14.out.ht 8 _ rfl
                  have d8 : w14.cell? ⟨gt, 9, none⟩ = some (.int .i64 vz) := cell_of H14.out.ht 9 _ rfl
                  have d9 : w14.cell? ⟨gt, 10, none⟩ = some (.bool vt) := cell_of H14.out.ht 10 _ rfl
                  have d10 : w14.cell? ⟨gt, 11, none⟩ = some (str vl) := cell_of H14.out.ht 11 _ rfl
                  go_upto_region 22 with fail
                  have hz := heap_new w14 (.cells #[.int .i64 1, .int .u8 0, .int .i64 0, .string ⟨#[]⟩, .int .i64 1, .int .i64 1, .slice fa 0 fc, .int .i64 vs, .int .i64 vz, .bool vt, str vl] 114)
                  have Bz := bal (brf w14) (.cells #[.int .i64 1, .int .u8 0, .int .i64 0, .string ⟨#[]⟩, .int .i64 1, .int .i64 1, .slice fa 0 fc, .int .i64 vs, .int .i64 vz, .bool vt, str vl] 114)
                  generalize hw15 : w14.alloc (.cells #[.int .i64 1, .int .u8 0, .int .i64 0, .string ⟨#[]⟩, .int .i64 1, .int .i64 1, .slice fa 0 fc, .int .i64 vs, .int .i64 vz, .bool vt, str vl] 114) = w15 at *
                  obtain ⟨gz, hgz⟩ : ∃ g, g = w14.heap.size := ⟨_, rfl⟩
                  have hgz' : w14.heap.size ≤ gz := by omega
                  rw [← hgz] at hz ⊢
                  have hz15 := Lib.hid hz
                  have Bz15 := Lib.hid Bz
                  clear d0 d1 d2 d3 d4 d5 d6 d7 d8 d9 d10 hw15 hgz hz Bz
                  have x7 := cell_of hz15.out 7 (.int .i64 vs) rfl
                  have y7 := fz_of hz15.out 7
                  have hG := H14.out.below Bz15.out
                  have s8 : w15.cell? ⟨gs, 8, none⟩ = some (.int .i64 us) := cell_of hG.hs 8 _ rfl
                  have s9 : w15.cell? ⟨gs, 9, none⟩ = some (.int .i64 uz) := cell_of hG.hs 9 _ rfl
                  have s10 : w15.cell? ⟨gs, 10, none⟩ = some (.bool true) := cell_of hG.hs 10 _ rfl
                  clear hG
                  go_upto_region 23 with fail
                  have hz := heap_setCell_same w15 gz 7 _ _ (.int .i64 (bnot vs (bor us uz))) hz15.out
                  have Bz := Bz15.out.setCell (p := ⟨gz, 7, none⟩) hgz' (.int .i64 (bnot vs (bor us uz)))
                  generalize w15.setCell ⟨gz, 7, none⟩ (.int .i64 (bnot vs (bor us uz))) = w16 at *
                  have hz16 : Hid (w16.heap[gz]? = some (.cells #[.int .i64 1, .int .u8 0, .int .i64 0, .string ⟨#[]⟩, .int .i64 1, .int .i64 1, .slice fa 0 fc, .int .i64 (bnot vs (bor us uz)), .int .i64 vz, .bool vt, str vl] 114 (0, 0))) := Lib.hid (by simpa using hz)
                  have Bz16 := Lib.hid Bz
                  clear x7 y7 s8 s9 s10 hz Bz hz15 Bz15
                  have x8 := cell_of hz16.out 8 (.int .i64 vz) rfl
                  have y8 := fz_of hz16.out 8
                  have hG := H14.out.below Bz16.out
                  have s8 : w16.cell? ⟨gs, 8, none⟩ = some (.int .i64 us) := cell_of hG.hs 8 _ rfl
                  have s9 : w16.cell? ⟨gs, 9, none⟩ = some (.int .i64 uz) := cell_of hG.hs 9 _ rfl
                  have s10 : w16.cell? ⟨gs, 10, none⟩ = some (.bool true) := cell_of hG.hs 10 _ rfl
                  clear hG
                  go_upto_region 24 with fail
                  have hz := heap_setCell_same w16 gz 8 _ _ (.int .i64 (bnot vz (bor us uz))) hz16.out
                  have Bz := Bz16.out.setCell (p := ⟨gz, 8, none⟩) hgz' (.int .i64 (bnot vz (bor us uz)))
                  generalize w16.setCell ⟨gz, 8, none⟩ (.int .i64 (bnot vz (bor us uz))) = w17 at *
                  have hz17 : Hid (w17.heap[gz]? = some (.cells #[.int .i64 1, .int .u8 0, .int .i64 0, .string ⟨#[]⟩, .int .i64 1, .int .i64 1, .slice fa 0 fc, .int .i64 (bnot vs (bor us uz)), .int .i64 (bnot vz (bor us uz)), .bool vt, str vl] 114 (0, 0))) := Lib.hid (by simpa using hz)
                  have Bz17 := Lib.hid Bz
                  clear x8 y8 s8 s9 s10 hz Bz hz16 Bz16
                  have hG := H14.out.below Bz17.out
                  have s10 : w17.cell? ⟨gs, 10, none⟩ = some (.bool true) := cell_of hG.hs 10 _ rfl
                  have x9 := cell_of hz17.out 9 (.bool vt) rfl
                  have y9 := fz_of hz17.out 9
                  have x10 := cell_of hz17.out 10 (str vl) rfl
                  have y10 := fz_of hz17.out 10
                  clear hG
                  go_upto_region 26 with fail
                  have hz18 := heap_setCell_same w17 gz 9 _ _ (.bool false) hz17.out
                  have hz := heap_setCell_same _ gz 10 _ _ (.string ⟨#[]⟩) hz18
                  have Bz := (Bz17.out.setCell (p := ⟨gz, 9, none⟩) hgz' (.bool false)).setCell (p := ⟨gz, 10, none⟩) hgz' (.string ⟨#[]⟩)
                  generalize (w17.setCell ⟨gz, 9, none⟩ (.bool false)).setCell ⟨gz, 10, none⟩ (.string ⟨#[]⟩) = w19 at *
                  have hz19 : Hid (w19.heap[gz]? = some (.cells #[.int .i64 1, .int .u8 0, .int .i64 0, .string ⟨#[]⟩, .int .i64 1, .int .i64 1, .slice fa 0 fc, .int .i64 (bnot vs (bor us uz)), .int .i64 (bnot vz (bor us uz)), .bool false, .string ⟨#[]⟩] 114 (0, 0))) := Lib.hid (by simpa using hz)
                  have Bz19 := Lib.hid Bz
                  clear x9 y9 x10 y10 s10 hz Bz hz17 Bz17 hz18
                  have x0 := cell_of hz19.out 0 (.int .i64 1) rfl
                  have x1 := cell_of hz19.out 1 (.int .u8 0) rfl
                  have x2 := cell_of hz19.out 2 (.int .i64 0) rfl
                  have x3 := cell_of hz19.out 3 (.string ⟨#[]⟩) rfl
                  have x4 := cell_of hz19.out 4 (.int .i64 1) rfl
                  have x5 := cell_of hz19.out 5 (.int .i64 1) rfl
                  have x6 := cell_of hz19.out 6 (.slice fa 0 fc) rfl
                  have x7 := cell_of hz19.out 7 (.int .i64 (bnot vs (bor us uz))) rfl
                  have x8 := cell_of hz19.out 8 (.int .i64 (bnot vz (bor us uz))) rfl
                  have x9 := cell_of hz19.out 9 (.bool false) rfl
                  have x10 := cell_of hz19.out 10 (.string ⟨#[]⟩) rfl
                  have hb20 := bal (brf w19) (.cells #[.int .i64 1, .int .u8 0, .int .i64 0, .string ⟨#[]⟩, .int .i64 1, .int .i64 1, .slice fa 0 fc, .int .i64 (bnot vs (bor us uz)), .int .i64 (bnot vz (bor us uz)), .bool false, .string ⟨#[]⟩] 114)
                  have T20 := Lib.hid ((T14.out.below Bz19.out).symm.below hb20)
                  have B20 := Lib.hid ((B14.out.trans (Bz19.out.mono T14.out.hB)).trans (hb20.mono (Nat.le_trans T14.out.hB Bz19.out.size)))
                  clear hb20
                  go_wp2_with (at_builtin; refine wpListTwo rfl (.tmp 145) (.tmp 147) rfl T20.out rfl (F := fun _ => True) (M := [Ac.keep (overK ⟨vs, vz, vt, vl⟩ ⟨us, uz, true, ul⟩)]) _ rfl (RdS.one [.int .i64 1, .int .u8 0, .int .i64 0, .string ⟨#[]⟩, .int .i64 1, .int .i64 1, .slice fa 0 fc, .int .i64 (bnot vs (bor us uz)), .int .i64 (bnot vz (bor us uz)), .bool false, .string ⟨#[]⟩] 114 rfl trivial ⟨.slice fa 0 fc, ⟨fa, fc, rfl, hmf⟩, rfl⟩) (by simp; omega) ?_; intro v21 w21 hT21 hB21 hg21; rw [EY.out] at hT21; obtain ⟨ma21, mc21, rfl⟩ := len_nil hT21.l)
                  go_wp2
                  go_roundw
                  case rel => exact ⟨i + 1, X3, Y3, by omega, by go_num, hT21.symm, hst4, B20.out.trans hB21⟩
                  case measure => simp [intOf]; omega
                | false =>
                  obtain ⟨X3, qX3⟩ : ∃ M, X2 ++ [Ac.keep ⟨us, uz, false, ul⟩] = M := ⟨_, rfl⟩
                  obtain ⟨Y3, qY3⟩ : ∃ M, Y2 ++ [Ac.keep (overK ⟨vs, vz, vt, vl⟩ ⟨us, uz, false, ul⟩)] = M := ⟨_, rfl⟩
                  have hst4 : Hid (turnR P Q = (X3 ++ (turnR (P.drop (i + 1)) (Q.drop (i + 1))).1, Y3 ++ (turnR (P.drop (i + 1)) (Q.drop (i + 1))).2)) := Lib.hid (by rw [hst3.out, ← qX3, ← qY3]; simp [own2])
                  have EX := Lib.hid qX3
                  have EY := Lib.hid qY3
                  clear qX3 qY3 hst3
                  have c0 : w12.cell? ⟨gs, 1, none⟩ = some (.int .i64 1) := cell_of H12.out.hs 1 _ rfl
                  have c1 : w12.cell? ⟨gs, 2, none⟩ = some (.int .u8 0) := cell_of H12.out.hs 2 _ rfl
                  have c2 : w12.cell? ⟨gs, 3, none⟩ = some (.int .i64 0) := cell_of H12.out.hs 3 _ rfl
                  have c3 : w12.cell? ⟨gs, 4, none⟩ = some (.string ⟨#[]⟩) := cell_of H12.out.hs 4 _ rfl
                  have c4 : w12.cell? ⟨gs, 5, none⟩ = some (.int .i64 1) := cell_of H12.out.hs 5 _ rfl
                  have c5 : w12.cell? ⟨gs, 6, none⟩ = some (.int .i64 1) := cell_of H12.out.hs 6 _ rfl
                  have c6 : w12.cell? ⟨gs, 7, none⟩ = some (.slice ea 0 ec) := cell_of H12.out.hs 7 _ rfl
                  have c7 : w12.cell? ⟨gs, 8, none⟩ = some (.int .i64 us) := cell_of H12.out.hs 8 _ rfl
                  have c8 : w12.cell? ⟨gs, 9, none⟩ = some (.int .i64 uz) := cell_of H12.out.hs 9 _ rfl
                  have c9 : w12.cell? ⟨gs, 10, none⟩ = some (.bool false) := cell_of H12.out.hs 10 _ rfl
                  have c10 : w12.cell? ⟨gs, 11, none⟩ = some (str ul) := cell_of H12.out.hs 11 _ rfl
                  have d0 : w12.cell? ⟨gt, 1, none⟩ = some (.int .i64 1) := cell_of H12.out.ht 1 _ rfl
                  have hb13 := bal (brf w12) (.cells #[.int .i64 1, .int .u8 0, .int .i64 0, .string ⟨#[]⟩, .int .i64 1, .int .i64 1, .slice ea 0 ec, .int .i64 us, .int .i64 uz, .bool false, str ul] 114)
                  have T13 := Lib.hid (T12.out.below hb13)
                  have H13 := Lib.hid (H12.out.below hb13)
                  go_upto_region 21 with (at_builtin; refine wpListTwo rfl (.tmp 92) (.tmp 95) rfl T13.out rfl (F := fun _ => True) (M := [Ac.keep ⟨us, uz, false, ul⟩]) _ rfl (RdS.one [.int .i64 1, .int .u8 0, .int .i64 0, .string ⟨#[]⟩, .int .i64 1, .int .i64 1, .slice ea 0 ec, .int .i64 us, .int .i64 uz, .bool false, str ul] 114 rfl trivial ⟨.slice ea 0 ec, ⟨ea, ec, rfl, hme⟩, rfl⟩) (by simp; omega) ?_; intro v14 w14 hT14 hB14 hg14; rw [EX.out] at hT14; obtain ⟨la14, lc14, rfl⟩ := len_nil hT14.l)
                  have H14 := Lib.hid (H13.out.grown T13.out hg14)
                  have B14 := Lib.hid ((hB12'.out.trans (hb13.mono T12.out.hB)).trans hB14)
                  have T14 := Lib.hid hT14
                  clear c0 c1 c2 c3 c4 c5 c6 c7 c8 c9 c10 d0 hb13 T13 H13 hT14 hB14 hg14
                  have d0 : w14.cell? ⟨gt, 1, none⟩ = some (.int .i64 1) := cell_of H14.out.ht 1 _ rfl
                  have d1 : w14.cell? ⟨gt, 2, none⟩ = some (.int .u8 0) := cell_of H14.out.ht 2 _ rfl
                  have d2 : w14.cell? ⟨gt, 3, none⟩ = some (.int .i64 0) := cell_of H14.out.ht 3 _ rfl
                  have d3 : w14.cell? ⟨gt, 4, none⟩ = some (.string ⟨#[]⟩) := cell_of H14.out.ht 4 _ rfl
                  have d4 : w14.cell? ⟨gt, 5, none⟩ = some (.int .i64 1) := cell_of H14.out.ht 5 _ rfl
                  have d5 : w14.cell? ⟨gt, 6, none⟩ = some (.int .i64 1) := cell_of H14.out.ht 6 _ rfl
                  have d6 : w14.cell? ⟨gt, 7, none⟩ = some (.slice fa 0 fc) := cell_of H14.out.ht 7 _ rfl
                  have d7 : w14.cell? ⟨gt, 8, none⟩ = some (.int .i64 vs) := cell_of H14.out.ht 8 _ rfl
                  have d8 : w14.cell? ⟨gt, 9, none⟩ = some (.int .i64 vz) := cell_of H14.out.ht 9 _ rfl
                  have d9 : w14.cell? ⟨gt, 10, none⟩ = some (.bool vt) := cell_of H14.out.ht 10 _ rfl
                  have d10 : w14.cell? ⟨gt, 11, none⟩ = some (str vl) := cell_of H14.out.ht 11 _ rfl
                  go_upto_region 22 with fail
                  have hz := heap_new w14 (.cells #[.int .i64 1, .int .u8 0, .int .i64 0, .string ⟨#[]⟩, .int .i64 1, .int .i64 1, .slice fa 0 fc, .int .i64 vs, .int .i64 vz, .bool vt, str vl] 114)
                  have Bz := bal (brf w14) (.cells #[.int .i64 1, .int .u8 0, .int .i64 0, .string ⟨#[]⟩, .int .i64 1, .int .i64 1, .slice fa 0 fc, .int .i64 vs, .int .i64 vz, .bool vt, str vl] 114)
                  generalize hw15 : w14.alloc (.cells #[.int .i64 1, .int .u8 0, .int .i64 0, .string ⟨#[]⟩, .int .i64 1, .int .i64 1, .slice fa 0 fc, .int .i64 vs, .int .i64 vz, .bool vt, str vl] 114) = w15 at *
                  obtain ⟨gz, hgz⟩ : ∃ g, g = w14.heap.size := ⟨_, rfl⟩
                  have hgz' : w14.heap.size ≤ gz := by omega
                  rw [← hgz] at hz ⊢
                  have hz15 := Lib.hid hz
                  have Bz15 := Lib.hid Bz
                  clear d0 d1 d2 d3 d4 d5 d6 d7 d8 d9 d10 hw15 hgz hz Bz
                  have x7 := cell_of hz15.out 7 (.int .i64 vs) rfl
                  have y7 := fz_of hz15.out 7
                  have hG := H14.out.below Bz15.out
                  have s8 : w15.cell? ⟨gs, 8, none⟩ = some (.int .i64 us) := cell_of hG.hs 8 _ rfl
                  have s9 : w15.cell? ⟨gs, 9, none⟩ = some (.int .i64 uz) := cell_of hG.hs 9 _ rfl
                  have s10 : w15.cell? ⟨gs, 10, none⟩ = some (.bool false) := cell_of hG.hs 10 _ rfl
                  clear hG
                  go_upto_region 23 with fail
                  have hz := heap_setCell_same w15 gz 7 _ _ (.int .i64 (bnot vs (bor us uz))) hz15.out
                  have Bz := Bz15.out.setCell (p := ⟨gz, 7, none⟩) hgz' (.int .i64 (bnot vs (bor us uz)))
                  generalize w15.setCell ⟨gz, 7, none⟩ (.int .i64 (bnot vs (bor us uz))) = w16 at *
                  have hz16 : Hid (w16.heap[gz]? = some (.cells #[.int .i64 1, .int .u8 0, .int .i64 0, .string ⟨#[]⟩, .int .i64 1, .int .i64 1, .slice fa 0 fc, .int .i64 (bnot vs (bor us uz)), .int .i64 vz, .bool vt, str vl] 114 (0, 0))) := Lib.hid (by simpa using hz)
                  have Bz16 := Lib.hid Bz
                  clear x7 y7 s8 s9 s10 hz Bz hz15 Bz15
                  have x8 := cell_of hz16.out 8 (.int .i64 vz) rfl
                  have y8 := fz_of hz16.out 8
                  have hG := H14.out.below Bz16.out
                  have s8 : w16.cell? ⟨gs, 8, none⟩ = some (.int .i64 us) := cell_of hG.hs 8 _ rfl
                  have s9 : w16.cell? ⟨gs, 9, none⟩ = some (.int .i64 uz) := cell_of hG.hs 9 _ rfl
                  have s10 : w16.cell? ⟨gs, 10, none⟩ = some (.bool false) := cell_of hG.hs 10 _ rfl
                  clear hG
                  go_upto_region 24 with fail
                  have hz := heap_setCell_same w16 gz 8 _ _ (.int .i64 (bnot vz (bor us uz))) hz16.out
                  have Bz := Bz16.out.setCell (p := ⟨gz, 8, none⟩) hgz' (.int .i64 (bnot vz (bor us uz)))
                  generalize w16.setCell ⟨gz, 8, none⟩ (.int .i64 (bnot vz (bor us uz))) = w17 at *
                  have hz17 : Hid (w17.heap[gz]? = some (.cells #[.int .i64 1, .int .u8 0, .int .i64 0, .string ⟨#[]⟩, .int .i64 1, .int .i64 1, .slice fa 0 fc, .int .i64 (bnot vs (bor us uz)), .int .i64 (bnot vz (bor us uz)), .bool vt, str vl] 114 (0, 0))) := Lib.hid (by simpa using hz)
                  have Bz17 := Lib.hid Bz
                  clear x8 y8 s8 s9 s10 hz Bz hz16 Bz16
                  have hG := H14.out.below Bz17.out
                  have s10 : w17.cell? ⟨gs, 10, none⟩ = some (.bool false) := cell_of hG.hs 10 _ rfl
                  clear hG
                  have x0 := cell_of hz17.out 0 (.int .i64 1) rfl
                  have x1 := cell_of hz17.out 1 (.int .u8 0) rfl
                  have x2 := cell_of hz17.out 2 (.int .i64 0) rfl
                  have x3 := cell_of hz17.out 3 (.string ⟨#[]⟩) rfl
                  have x4 := cell_of hz17.out 4 (.int .i64 1) rfl
                  have x5 := cell_of hz17.out 5 (.int .i64 1) rfl
                  have x6 := cell_of hz17.out 6 (.slice fa 0 fc) rfl
                  have x7 := cell_of hz17.out 7 (.int .i64 (bnot vs (bor us uz))) rfl
                  have x8 := cell_of hz17.out 8 (.int .i64 (bnot vz (bor us uz))) rfl
                  have x9 := cell_of hz17.out 9 (.bool vt) rfl
                  have x10 := cell_of hz17.out 10 (str vl) rfl
                  have hb20 := bal (brf w17) (.cells #[.int .i64 1, .int .u8 0, .int .i64 0, .string ⟨#[]⟩, .int .i64 1, .int .i64 1, .slice fa 0 fc, .int .i64 (bnot vs (bor us uz)), .int .i64 (bnot vz (bor us uz)), .bool vt, str vl] 114)
                  have T20 := Lib.hid ((T14.out.below Bz17.out).symm.below hb20)
                  have B20 := Lib.hid ((B14.out.trans (Bz17.out.mono T14.out.hB)).trans (hb20.mono (Nat.le_trans T14.out.hB Bz17.out.size)))
                  clear hb20
                  go_wp2_with (at_builtin; refine wpListTwo rfl (.tmp 145) (.tmp 147) rfl T20.out rfl (F := fun _ => True) (M := [Ac.keep (overK ⟨vs, vz, vt, vl⟩ ⟨us, uz, false, ul⟩)]) _ rfl (RdS.one [.int .i64 1, .int .u8 0, .int .i64 0, .string ⟨#[]⟩, .int .i64 1, .int .i64 1, .slice fa 0 fc, .int .i64 (bnot vs (bor us uz)), .int .i64 (bnot vz (bor us uz)), .bool vt, str vl] 114 rfl trivial ⟨.slice fa 0 fc, ⟨fa, fc, rfl, hmf⟩, rfl⟩) (by simp; omega) ?_; intro v21 w21 hT21 hB21 hg21; rw [EY.out] at hT21; obtain ⟨ma21, mc21, rfl⟩ := len_nil hT21.l)
                  go_wp2
                  go_roundw
                  case rel => exact ⟨i + 1, X3, Y3, by omega, by go_num, hT21.symm, hst4, B20.out.trans hB21⟩
                  case measure => simp [intOf]; omega
          · obtain rfl : i = P.length := by omega
            have hfin := Lib.hid (show turnR P Q = (X, Y) by rw [hst.out, List.drop_length]; simp [turnR])
            have hL8 := HT.out
            rw [hfin.out] at hL8
            dsimp only at hL8
            rw [hfin.out] at hres
            have C1 := Lib.hid (refTidied_any _ _ X wr T0.out.l.rd (by have := hL8.1; omega))
            have hz0 := Lib.hid (Nat.le_trans HB0.out.size hb.size)
            go_wp2_with fail
            refine C1.out.mono ?_
            rintro e w3 ⟨r3, rfl, hr3, hb3⟩
            have C2 := Lib.hid (refTidied_any _ _ Y w3 (RActs.to T0.out.m.rd (Kp.below hb3)) (by have := hL8.2; omega))
            obtain ⟨a3, c3, rfl, _⟩ := RdS.len hr3
            clear C1
            go_wp2_with fail
            refine C2.out.mono ?_
            rintro e w4 ⟨r4, rfl, hr4, hb4⟩
            obtain ⟨a4, c4, rfl, _⟩ := RdS.len hr4
            have hr3' : Hid (ROp (w.heap.size ≤ ·) w4 (.slice a3 (tidyA X).length c3) (tidyA X)) := Lib.hid (ROp.to hr3 (fun k hk hl => ⟨Nat.le_trans hz0.out hk, hb4.block k hl⟩))
            have hr4' : Hid (ROp (w.heap.size ≤ ·) w4 (.slice a4 (tidyA Y).length c4) (tidyA Y)) := Lib.hid (ROp.to hr4 (Kp.weak w4 fun k hk => Nat.le_trans hz0.out (Nat.le_trans hb3.size hk)))
            have hB4 := Lib.hid (btr (btr (btr HB0.out hb) hb3) hb4)
            clear hr3 hr4 C2 hb3 hb4 T0 hfin hL8 HT
            generalize tidyA X = x at *
            generalize tidyA Y = y at *
            have C3 := Lib.hid (checkOp_any _ _ x w4 hr3'.out)
            go_wp2_with fail
            refine C3.out.mono ?_
            rintro e w5 ⟨rfl, hb5⟩
            clear C3
            by_cases h1 : chkOp x = 0
            · have h1' := Lib.hid h1
              rw [h1]
              clear h1
              have C4 := Lib.hid (checkOp_any _ _ y w5 (ROp.to hr4'.out (Kp.below hb5)))
              go_wp2_with fail
              refine C4.out.mono ?_
              rintro e w6 ⟨rfl, hb6⟩
              clear C4
              have hB6 := Lib.hid (btr (btr hB4.out hb5) hb6)
              have hx6 := Lib.hid (ROp.to (F' := (w.heap.size ≤ ·)) hr3'.out (fun k hk hl => ⟨hk, (btr hb5 hb6).block k hl⟩))
              have hy6 := Lib.hid (ROp.to (F' := (w.heap.size ≤ ·)) hr4'.out (fun k hk hl => ⟨hk, (btr hb5 hb6).block k hl⟩))
              by_cases h2 : chkOp y = 0
              · have hres2 : Hid (turnP a b = (x, y, 0)) := Lib.hid (by rw [hres.out]; unfold chk2; rw [if_neg (by simpa using h1'.out), if_neg (by simpa using h2)])
                rw [h2]
                clear h2
                go_wp2
                go_ret3
                exact ⟨_, _, by rw [hres2.out]; rfl, by rw [hres2.out]; exact hx6.out, by rw [hres2.out]; exact hy6.out, hB6.out⟩
              · have hres2 : Hid (turnP a b = ([], [], chkOp y)) := Lib.hid (by rw [hres.out]; unfold chk2; rw [if_neg (by simpa using h1'.out), if_pos (by simpa using h2)])
                have hne2 : (chkOp y != 0) = true := by simpa using h2
                clear h2
                go_wp2
                go_ret3
                exact ⟨.slice none 0 0, .slice none 0 0, by rw [hres2.out]; rfl, by rw [hres2.out]; exact RdS.nil, by rw [hres2.out]; exact RdS.nil, hB6.out⟩
            · have hres2 : Hid (turnP a b = ([], [], chkOp x)) := Lib.hid (by rw [hres.out]; unfold chk2; rw [if_pos (by simpa using h1)])
              have hne2 : (chkOp x != 0) = true := by simpa using h1
              clear h1
              go_wp2
              go_ret3
              exact ⟨.slice none 0 0, .slice none 0 0, by rw [hres2.out]; rfl, by rw [hres2.out]; exact RdS.nil, by rw [hres2.out]; exact RdS.nil, btr hB4.out hb5⟩
      · have hres := Lib.hid (turnP_base hza.out hzb.out hln)
        have hne : (((rowsA [] (acts a)).length : Int) != ((rowsA [] (acts b)).length : Int)) = true := by simp; omega
        clear hln
        generalize rowsA [] (acts a) = P at *
        generalize rowsA [] (acts b) = Q at *
        go_wp2
        go_ret3
        exact ⟨.slice none 0 0, .slice none 0 0, by rw [hres.out]; rfl, by rw [hres.out]; exact RdS.nil, by rw [hres.out]; exact RdS.nil, hB2⟩
end Go.Proofs.YtckdlhgeelhnmaaGreat
