/- The references on operations: TidyOf, Applied. -/
import Derived.Test.YtckdlhgeelhnmaaGreatRefU
import Derived.Test.YtckdlhgeelhnmaaGreatRefCheckOp
import Derived.Test.YtckdlhgeelhnmaaGreatRegT
namespace Go.Proofs.YtckdlhgeelhnmaaGreat
open Go.RowKit Go.Mh

theorem doA_step {D : List It} {A : List Ac} {j kk : Nat} {x : Ac} (hx : A[j]? = some x) : doA (D.drop kk) (A.drop j) = doA (D.drop kk) (x :: A.drop (j + 1)) ∧ frm (A.drop j) = frm (x :: A.drop (j + 1)) := by
  obtain ⟨hlt, rfl⟩ := List.getElem?_eq_some_iff.1 hx
  rw [List.drop_eq_getElem_cons hlt]
  exact ⟨rfl, rfl⟩
theorem acts_mem {L : List Pt} (hok : OpOk L) {c : Kd} (h : Ac.keep c ∈ acts L) : c.Ok := by
  unfold acts at h
  obtain ⟨p, hp, hm⟩ := List.mem_flatMap.1 h
  rcases hok.tp p hp with ⟨d, n, _, hd, rfl⟩ | ⟨l, _, _, rfl⟩ | ⟨n, _, rfl⟩
  · rw [actsP_keep] at hm
    have := List.eq_of_mem_replicate hm
    cases this
    exact hd
  · rw [actsP_put] at hm; simp at hm
  · rw [actsP_cut] at hm
    have := List.eq_of_mem_replicate hm
    cases this
theorem changed_keep (x : It) (c : Kd) (sv : Value) (w : World) (hx : x.Mk) (hc : c.Ok) :
    Calls Tryz.prog 88 #[.agg #[.int .u8 x.c.toNat, .int .i64 x.m, str x.l], .agg #[.int .i64 1, .int .i64 1, sv, .int .i64 c.set, .int .i64 c.clr, .bool c.to, str c.l]] w fun e w' => e = .returned (iv (markI x c)) ∧ Below w.heap.size w w' :=
  changed_any x (keepP c 1) sv w hx hc

set_option maxRecDepth 100000 in
set_option maxHeartbeats 16000000 in
theorem refApplied_any (F G : Nat → Prop) (v u : Value) (D : List It) (L : List Pt) (w : World) (h : RItems F w v D) (g : ROp G w u L) :
    Calls Tryz.prog 47 #[v, u] w fun e w' => ∃ r, e = .returned (.tuple #[r, .int .i64 (applyP D L).2]) ∧ RItems (w.heap.size ≤ ·) w' r (applyP D L).1 ∧ Below w.heap.size w w' := by
  obtain ⟨a, cap, rfl, hn⟩ := RdS.len h
  obtain ⟨a', cap', rfl, hn'⟩ := RdS.len g
  have H := Lib.hid h; clear h
  have G' := Lib.hid g; clear g
  have hres : ∃ r, Hid (applyP D L = r) := ⟨_, Lib.hid rfl⟩
  obtain ⟨res, hres⟩ := hres
  rw [hres.out]
  unfold applyP at hres
  go_enter Tryz.func47, Tryz.ntmps47
  go_wp2_with fail
  refine (checkDoc_any F _ D w H.out).mono ?_
  rintro e w1 ⟨rfl, hb1⟩
  by_cases h1 : chkDoc D = 0
  · have hres1 := hres.out
    rw [if_neg (by simpa using h1)] at hres1
    have hmk := Lib.hid (doc_mks h1)
    have H1 := Lib.hid (H.out.to (Kp.below hb1))
    have G1 := Lib.hid (ROp.to G'.out (Kp.below hb1))
    have hr1 := Lib.hid hres1
    clear hres1 hres
    rw [h1]
    clear h1
    go_wp2_with fail
    refine (checkOp_any G _ L w1 G1.out).mono ?_
    rintro e w2 ⟨rfl, hb2⟩
    by_cases h2 : chkOp L = 0
    · have hres2 := hr1.out
      rw [if_neg (by simpa using h2)] at hres2
      have hok := Lib.hid (chkOp_ok h2)
      have H2 := Lib.hid (H1.out.to (Kp.below hb2))
      have G2 := Lib.hid (ROp.to G1.out (Kp.below hb2))
      have hr2 := Lib.hid hres2
      clear hres2 hr1
      rw [h2]
      clear h2
      go_wp2_with fail
      refine (refLong_any G _ L w2 G2.out).mono ?_
      rintro e w3 ⟨rfl, hb3⟩
      rw [hok.out.longs]
      have hB3 : Below w.heap.size w w3 := (hb1.trans (hb2.mono hb1.size)).trans (hb3.mono (Nat.le_trans hb1.size hb2.size))
      by_cases h3 : frm (acts L) = D.length
      · by_cases h4 : 80 < too (acts L)
        · have hres3 := hr2.out
          rw [if_neg (by simpa using h3), if_pos h4] at hres3
          subst hres3
          have h3' : ((frm (acts L) : Int) != (D.length : Int)) = false := by simp; omega
          clear h3 hr2
          generalize frm (acts L) = fr at *
          generalize too (acts L) = tt at *
          go_wp2
          go_ret2
          exact ⟨.slice none 0 0, rfl, RdS.nil, hB3⟩
        · have hres3 := hr2.out
          rw [if_neg (by simpa using h3), if_neg h4] at hres3
          subst hres3
          have H3 := Lib.hid (H2.out.to (Kp.below hb3))
          have G3 := Lib.hid (ROp.to G2.out (Kp.below hb3))
          have C := Lib.hid (refActs_any G _ L w3 G3.out hok.out)
          have h3' : ((frm (acts L) : Int) != (D.length : Int)) = false := by simp; omega
          have hf3 := Lib.hid h3
          have hD80 : D.length ≤ 80 := by have := hok.out.frm; omega
          have hlen : (acts L).length ≤ 4000 := by have h := acts_len hok.out L.length (Nat.le_refl _); have := hok.out.len; rw [List.take_length] at h; omega
          have hkd := Lib.hid (fun c => acts_mem (c := c) hok.out)
          clear h3 hr2 hok
          generalize hAq : acts L = A at *
          have hAe := Lib.hid hAq
          clear hAq
          have hf4 := Lib.hid (rfl : frm A = frm A)
          have ht4 : ¬ (80 : Int) < (too A : Int) := by omega
          clear h4
          obtain ⟨fr, hfr⟩ : ∃ n, frm A = n := ⟨_, rfl⟩
          obtain ⟨tt, htt⟩ : ∃ n, too A = n := ⟨_, rfl⟩
          rw [hfr] at h3' ⊢
          rw [htt] at ht4 ⊢
          have hfr' := Lib.hid hfr
          clear hfr htt hf4
          go_wp2_with fail
          refine C.out.mono ?_
          rintro e w4 ⟨r4, rfl, hr4, hb4⟩
          obtain ⟨ra, rc, rfl⟩ := len_nil hr4
          have hB4 := btr hB3 hb4
          have H4 := Lib.hid (H3.out.to (Kp.below hb4))
          have HA := Lib.hid hr4.rd
          clear hr4 hb4 C G3 H3
          go_wp2
          go_loopw [10, 11, 38] (fun ov kv jv ws => ∃ (j kk : Nat) (out : List It), j ≤ A.length ∧ jv = .int .i64 j ∧ kv = .int .i64 kk ∧ OwnS w4.heap.size 50 3 RIt ws ov out ∧ Hid (doA D A = out ++ doA (D.drop kk) (A.drop j)) ∧ Hid (kk + frm (A.drop j) = D.length) ∧ out.length ≤ j ∧ kk ≤ 80 ∧ Below w4.heap.size w4 ws) (fun _ _ jv _ => A.length - (intOf jv).toNat)
          case atStart => exact ⟨0, 0, [], Nat.zero_le _, rfl, rfl, OwnS.nil, Lib.hid (by simp), Lib.hid (by rw [List.drop_zero, Nat.zero_add, hf3.out]), by simp, by omega, brf _⟩
          case round =>
            obtain ⟨j, kk, out, hj, rfl, rfl, hown, hst, hfm, hol, hk80, hb⟩ := hrel
            obtain ⟨oa, oc, rfl⟩ := len_nil hown
            have O1 := Lib.hid hown
            clear hown
            by_cases hlt : j < A.length
            · obtain ⟨x, hx⟩ : ∃ x, A[j]? = some x := ⟨_, List.getElem?_eq_getElem hlt⟩
              obtain ⟨b0, o0, sv, rfl, hE, hb0, hcell⟩ := RActs.at HA.out hb hx
              obtain ⟨hd1, hd2⟩ := doA_step (D := D) (kk := kk) hx
              have hs := Lib.hid (hst.out.trans (congrArg (out ++ ·) hd1))
              have hf := Lib.hid (hfm.out.symm.trans (congrArg (kk + ·) hd2))
              have hxm := Lib.hid (List.mem_of_getElem? hx)
              obtain ⟨sa, sc, rfl, hsm⟩ := hE
              have hwz := hb.size
              clear hst hfm hd1 hd2 hx
              cases x with
              | put x =>
                have c0 : wr.cell? ⟨b0, o0 + j * 11, none⟩ = some _ := hcell 0 _ rfl
                have c1 := hcell 1 _ rfl
                have c2 := hcell 2 _ rfl
                have c3 := hcell 3 _ rfl
                have c4 := hcell 4 _ rfl
                have c5 := hcell 5 _ rfl
                have c6 := hcell 6 _ rfl
                have c7 := hcell 7 _ rfl
                have c8 := hcell 8 _ rfl
                have c9 := hcell 9 _ rfl
                have c10 := hcell 10 _ rfl
                clear hcell
                have hs1 := Lib.hid (hs.out.trans (by simp [doA] : _ = (out ++ [x]) ++ doA (D.drop kk) (A.drop (j + 1))))
                have hf1 := Lib.hid (hf.out.symm : kk + frm (A.drop (j + 1)) = D.length)
                obtain ⟨o2, q2⟩ : ∃ o, out ++ [x] = o := ⟨_, rfl⟩
                have hl2 : o2.length ≤ j + 1 := by rw [← q2]; simp; omega
                rw [q2] at hs1
                have E2 := Lib.hid q2
                have O2 := Lib.hid (O1.out.below (bal (brf wr) (.cells #[.int .i64 2, .int .u8 x.c.toNat, .int .i64 x.m, str x.l, .int .i64 0, .int .i64 0, .slice none 0 0, .int .i64 0, .int .i64 0, .bool false, .string ⟨#[]⟩] 114)) fun _ _ _ r => r)
                clear q2 hs hf O1
                go_wp2_with (at_builtin; refine wpList_app1 rfl (.tmp 46) (.tmp 49) 34 rfl w4.heap.size 50 3 32 _ elDoc RIt _ out rfl O2.out x [.int .u8 x.c.toNat, .int .i64 x.m, str x.l] 50 _ rfl (by first | rfl | simp) rfl (fun _ _ => rfl) RIt_one (by unfold maxLen; omega) (by omega) (by first | omega | (simp; omega)) (fun _ _ _ _ _ r => r) ?_; intro v2 w2' ho2 hb2' hz2 hk2; rw [E2.out] at ho2; obtain ⟨pa2, pc2, rfl⟩ := len_nil ho2)
                go_wp2
                go_roundw
                case rel => exact ⟨j + 1, kk, o2, by omega, by go_num, rfl, ho2, hs1, hf1, hl2, hk80, (bal hb _).trans hb2'⟩
                case measure => simp [intOf]; omega
              | cut =>
                have c0 : wr.cell? ⟨b0, o0 + j * 11, none⟩ = some _ := hcell 0 _ rfl
                have c1 := hcell 1 _ rfl
                have c2 := hcell 2 _ rfl
                have c3 := hcell 3 _ rfl
                have c4 := hcell 4 _ rfl
                have c5 := hcell 5 _ rfl
                have c6 := hcell 6 _ rfl
                have c7 := hcell 7 _ rfl
                have c8 := hcell 8 _ rfl
                have c9 := hcell 9 _ rfl
                have c10 := hcell 10 _ rfl
                clear hcell
                have hs1 := Lib.hid (hs.out.trans (by simp [doA] : _ = out ++ doA (D.drop (kk + 1)) (A.drop (j + 1))))
                have hf1 := Lib.hid (show (kk + 1) + frm (A.drop (j + 1)) = D.length by have := hf.out; simp [frm] at this; omega)
                have hk1 : kk + 1 ≤ 80 := by have := hf1.out; omega
                have O2 := Lib.hid (O1.out.below (bal (brf wr) (.cells #[.int .i64 3, .int .u8 0, .int .i64 0, .string ⟨#[]⟩, .int .i64 3, .int .i64 1, .slice sa 0 sc, .int .i64 0, .int .i64 0, .bool false, str []] 114)) fun _ _ _ r => r)
                clear hs hf O1
                go_wp2
                go_roundw
                case rel => exact ⟨j + 1, kk + 1, out, by omega, by go_num, by go_num, O2.out, hs1, hf1, by omega, hk1, bal hb _⟩
                case measure => simp [intOf]; omega
              | keep d =>
                obtain ⟨s, z, t, lk⟩ := d
                have c0 : wr.cell? ⟨b0, o0 + j * 11, none⟩ = some _ := hcell 0 _ rfl
                have c1 := hcell 1 _ rfl
                have c2 := hcell 2 _ rfl
                have c3 := hcell 3 _ rfl
                have c4 := hcell 4 _ rfl
                have c5 := hcell 5 _ rfl
                have c6 := hcell 6 _ rfl
                have c7 := hcell 7 _ rfl
                have c8 := hcell 8 _ rfl
                have c9 := hcell 9 _ rfl
                have c10 := hcell 10 _ rfl
                clear hcell
                have hkk : kk < D.length := by have := hf.out; simp [frm] at this; omega
                obtain ⟨y, hy⟩ : ∃ y, D[kk]? = some y := ⟨_, List.getElem?_eq_getElem hkk⟩
                obtain ⟨b2, o2, e2, x0', x1', x2'⟩ := RItems.at H4.out (brf w4) hy
                cases e2
                have hb2w : b2 < w4.heap.size := lt_of_cell x0'
                have x0 := (hb.cell (p := ⟨b2, o2 + kk * 3, none⟩) hb2w).trans x0'
                have x1 := (hb.cell (p := ⟨b2, o2 + kk * 3 + 1, none⟩) hb2w).trans x1'
                have x2 := (hb.cell (p := ⟨b2, o2 + kk * 3 + 2, none⟩) hb2w).trans x2'
                have hb2l : b2 < wr.heap.size := by omega
                have hdr : D.drop kk = y :: D.drop (kk + 1) := by
                  obtain ⟨hlt', rfl⟩ := List.getElem?_eq_some_iff.1 hy
                  exact List.drop_eq_getElem_cons hlt'
                have hs1 := hs.out.trans (by rw [hdr]; simp [doA] : _ = (out ++ [markI y ⟨s, z, t, lk⟩]) ++ doA (D.drop (kk + 1)) (A.drop (j + 1)))
                have hf1 := Lib.hid (show (kk + 1) + frm (A.drop (j + 1)) = D.length by have := hf.out; simp [frm] at this; omega)
                have hk1 : kk + 1 ≤ 80 := by omega
                have hym := Lib.hid (hmk.out y (List.mem_of_getElem? hy))
                have hkd1 := Lib.hid (hkd.out _ hxm.out)
                obtain ⟨o9, q9⟩ : ∃ o, out ++ [markI y ⟨s, z, t, lk⟩] = o := ⟨_, rfl⟩
                have hl9 : o9.length ≤ j + 1 := by rw [← q9]; simp; omega
                rw [q9] at hs1
                have hs2 := Lib.hid hs1
                have E9 := Lib.hid q9
                have hbx := heap_new wr (.cells #[.int .i64 1, .int .u8 0, .int .i64 0, .string ⟨#[]⟩, .int .i64 1, .int .i64 1, .slice sa 0 sc, .int .i64 s, .int .i64 z, .bool t, str lk] 114)
                have O2 := Lib.hid (O1.out.below (bal (brf wr) (.cells #[.int .i64 1, .int .u8 0, .int .i64 0, .string ⟨#[]⟩, .int .i64 1, .int .i64 1, .slice sa 0 sc, .int .i64 s, .int .i64 z, .bool t, str lk] 114)) fun _ _ _ r => r)
                have hne := O2.out.ne hbx (by decide)
                have hB2 := Lib.hid (bal hb (.cells #[.int .i64 1, .int .u8 0, .int .i64 0, .string ⟨#[]⟩, .int .i64 1, .int .i64 1, .slice sa 0 sc, .int .i64 s, .int .i64 z, .bool t, str lk] 114))
                have Q0 : (wr.alloc (.cells #[.int .i64 1, .int .u8 0, .int .i64 0, .string ⟨#[]⟩, .int .i64 1, .int .i64 1, .slice sa 0 sc, .int .i64 s, .int .i64 z, .bool t, str lk] 114)).cell? ⟨b2, o2 + kk * 3, none⟩ = some (.int .u8 y.c.toNat) ∧ (wr.alloc (.cells #[.int .i64 1, .int .u8 0, .int .i64 0, .string ⟨#[]⟩, .int .i64 1, .int .i64 1, .slice sa 0 sc, .int .i64 s, .int .i64 z, .bool t, str lk] 114)).cell? ⟨b2, o2 + kk * 3 + 1, none⟩ = some (.int .i64 y.m) ∧ (wr.alloc (.cells #[.int .i64 1, .int .u8 0, .int .i64 0, .string ⟨#[]⟩, .int .i64 1, .int .i64 1, .slice sa 0 sc, .int .i64 s, .int .i64 z, .bool t, str lk] 114)).cell? ⟨b2, o2 + kk * 3 + 2, none⟩ = some (str y.l) ∧ (wr.alloc (.cells #[.int .i64 1, .int .u8 0, .int .i64 0, .string ⟨#[]⟩, .int .i64 1, .int .i64 1, .slice sa 0 sc, .int .i64 s, .int .i64 z, .bool t, str lk] 114)).cell? ⟨wr.heap.size, 4, none⟩ = some (.int .i64 1) ∧ (wr.alloc (.cells #[.int .i64 1, .int .u8 0, .int .i64 0, .string ⟨#[]⟩, .int .i64 1, .int .i64 1, .slice sa 0 sc, .int .i64 s, .int .i64 z, .bool t, str lk] 114)).cell? ⟨wr.heap.size, 5, none⟩ = some (.int .i64 1) ∧ (wr.alloc (.cells #[.int .i64 1, .int .u8 0, .int .i64 0, .string ⟨#[]⟩, .int .i64 1, .int .i64 1, .slice sa 0 sc, .int .i64 s, .int .i64 z, .bool t, str lk] 114)).cell? ⟨wr.heap.size, 6, none⟩ = some (.slice sa 0 sc) ∧ (wr.alloc (.cells #[.int .i64 1, .int .u8 0, .int .i64 0, .string ⟨#[]⟩, .int .i64 1, .int .i64 1, .slice sa 0 sc, .int .i64 s, .int .i64 z, .bool t, str lk] 114)).cell? ⟨wr.heap.size, 7, none⟩ = some (.int .i64 s) ∧ (wr.alloc (.cells #[.int .i64 1, .int .u8 0, .int .i64 0, .string ⟨#[]⟩, .int .i64 1, .int .i64 1, .slice sa 0 sc, .int .i64 s, .int .i64 z, .bool t, str lk] 114)).cell? ⟨wr.heap.size, 8, none⟩ = some (.int .i64 z) ∧ (wr.alloc (.cells #[.int .i64 1, .int .u8 0, .int .i64 0, .string ⟨#[]⟩, .int .i64 1, .int .i64 1, .slice sa 0 sc, .int .i64 s, .int .i64 z, .bool t, str lk] 114)).cell? ⟨wr.heap.size, 9, none⟩ = some (.bool t) ∧ (wr.alloc (.cells #[.int .i64 1, .int .u8 0, .int .i64 0, .string ⟨#[]⟩, .int .i64 1, .int .i64 1, .slice sa 0 sc, .int .i64 s, .int .i64 z, .bool t, str lk] 114)).cell? ⟨wr.heap.size, 10, none⟩ = some (str lk) := ⟨((bal (brf wr) _).cell hb2l).trans x0, ((bal (brf wr) _).cell hb2l).trans x1, ((bal (brf wr) _).cell hb2l).trans x2, by unfold World.cell?; rw [hbx]; rfl, by unfold World.cell?; rw [hbx]; rfl, by unfold World.cell?; rw [hbx]; rfl, by unfold World.cell?; rw [hbx]; rfl, by unfold World.cell?; rw [hbx]; rfl, by unfold World.cell?; rw [hbx]; rfl, by unfold World.cell?; rw [hbx]; rfl⟩
                have KS : ∀ w' w'' : World, (w'.cell? ⟨b2, o2 + kk * 3, none⟩ = some (.int .u8 y.c.toNat) ∧ w'.cell? ⟨b2, o2 + kk * 3 + 1, none⟩ = some (.int .i64 y.m) ∧ w'.cell? ⟨b2, o2 + kk * 3 + 2, none⟩ = some (str y.l) ∧ w'.cell? ⟨wr.heap.size, 4, none⟩ = some (.int .i64 1) ∧ w'.cell? ⟨wr.heap.size, 5, none⟩ = some (.int .i64 1) ∧ w'.cell? ⟨wr.heap.size, 6, none⟩ = some (.slice sa 0 sc) ∧ w'.cell? ⟨wr.heap.size, 7, none⟩ = some (.int .i64 s) ∧ w'.cell? ⟨wr.heap.size, 8, none⟩ = some (.int .i64 z) ∧ w'.cell? ⟨wr.heap.size, 9, none⟩ = some (.bool t) ∧ w'.cell? ⟨wr.heap.size, 10, none⟩ = some (str lk)) → w''.heap[b2]? = w'.heap[b2]? → w''.heap[wr.heap.size]? = w'.heap[wr.heap.size]? → (w''.cell? ⟨b2, o2 + kk * 3, none⟩ = some (.int .u8 y.c.toNat) ∧ w''.cell? ⟨b2, o2 + kk * 3 + 1, none⟩ = some (.int .i64 y.m) ∧ w''.cell? ⟨b2, o2 + kk * 3 + 2, none⟩ = some (str y.l) ∧ w''.cell? ⟨wr.heap.size, 4, none⟩ = some (.int .i64 1) ∧ w''.cell? ⟨wr.heap.size, 5, none⟩ = some (.int .i64 1) ∧ w''.cell? ⟨wr.heap.size, 6, none⟩ = some (.slice sa 0 sc) ∧ w''.cell? ⟨wr.heap.size, 7, none⟩ = some (.int .i64 s) ∧ w''.cell? ⟨wr.heap.size, 8, none⟩ = some (.int .i64 z) ∧ w''.cell? ⟨wr.heap.size, 9, none⟩ = some (.bool t) ∧ w''.cell? ⟨wr.heap.size, 10, none⟩ = some (str lk)) := by
                  rintro w' w'' ⟨k0, k1, k2, k3, k4, k5, k6, k7, k8, k9⟩ e1 e2
                  exact ⟨(World.cell?_of_block (w := w') e1).trans k0, (World.cell?_of_block (w := w') e1).trans k1, (World.cell?_of_block (w := w') e1).trans k2, (World.cell?_of_block (w := w') e2).trans k3, (World.cell?_of_block (w := w') e2).trans k4, (World.cell?_of_block (w := w') e2).trans k5, (World.cell?_of_block (w := w') e2).trans k6, (World.cell?_of_block (w := w') e2).trans k7, (World.cell?_of_block (w := w') e2).trans k8, (World.cell?_of_block (w := w') e2).trans k9⟩
                have hgx : wr.heap.size < (wr.alloc (.cells #[.int .i64 1, .int .u8 0, .int .i64 0, .string ⟨#[]⟩, .int .i64 1, .int .i64 1, .slice sa 0 sc, .int .i64 s, .int .i64 z, .bool t, str lk] 114)).heap.size := by simp
                have hgb : b2 < (wr.alloc (.cells #[.int .i64 1, .int .u8 0, .int .i64 0, .string ⟨#[]⟩, .int .i64 1, .int .i64 1, .slice sa 0 sc, .int .i64 s, .int .i64 z, .bool t, str lk] 114)).heap.size := by simp; omega
                have KS := Lib.hid KS
                clear hs1 q9 hs hf x0' x1' x2' hdr hy hbx
                go_upto_region 21 with fail
                clear c0 c1 c2 c3 c4 c5 c6 c7 c8 c9 c10 x0 x1 x2 O1
                generalize hwb : wr.alloc (.cells #[.int .i64 1, .int .u8 0, .int .i64 0, .string ⟨#[]⟩, .int .i64 1, .int .i64 1, .slice sa 0 sc, .int .i64 s, .int .i64 z, .bool t, str lk] 114) = wb at *
                clear hwb
                generalize wr.heap.size = gx at *
                have QD := KS.out wb wb.drew Q0 rfl rfl
                refine wp_region_held (S := fun w' => w'.cell? ⟨b2, o2 + kk * 3, none⟩ = some (.int .u8 y.c.toNat) ∧ w'.cell? ⟨b2, o2 + kk * 3 + 1, none⟩ = some (.int .i64 y.m) ∧ w'.cell? ⟨b2, o2 + kk * 3 + 2, none⟩ = some (str y.l) ∧ w'.cell? ⟨gx, 4, none⟩ = some (.int .i64 1) ∧ w'.cell? ⟨gx, 5, none⟩ = some (.int .i64 1) ∧ w'.cell? ⟨gx, 6, none⟩ = some (.slice sa 0 sc) ∧ w'.cell? ⟨gx, 7, none⟩ = some (.int .i64 s) ∧ w'.cell? ⟨gx, 8, none⟩ = some (.int .i64 z) ∧ w'.cell? ⟨gx, 9, none⟩ = some (.bool t) ∧ w'.cell? ⟨gx, 10, none⟩ = some (str lk)) (by kernel_rfl) ?_
                refine wpAnyH_takeD 0 53 (v := ?_) rfl rfl (by kernel_rfl) (by kernel_rfl) (by kernel_rfl) (fun _ _ _ h => h) (Or.inl ⟨by rfl, ?_⟩) QD ?_
                rotate_left
                · (intro w' hw'; (try dsimp only at hw'); go_simp; try with_reducible rfl)
                simp only [List.set_cons_zero, List.set_cons_succ]
                refine wpAnyH_takeD 1 54 (v := ?_) rfl rfl (by kernel_rfl) (by kernel_rfl) (by kernel_rfl) (fun _ _ _ h => h) (Or.inl ⟨by rfl, ?_⟩) QD ?_
                rotate_left
                · (intro w' hw'; (try dsimp only at hw'); go_simp; try with_reducible rfl)
                simp only [List.set_cons_zero, List.set_cons_succ]
                refine wpAnyH_takeD 2 55 (v := ?_) rfl rfl (by kernel_rfl) (by kernel_rfl) (by kernel_rfl) (fun _ _ _ h => h) (Or.inl ⟨by rfl, ?_⟩) QD ?_
                rotate_left
                · (intro w' hw'; (try dsimp only at hw'); go_simp; try with_reducible rfl)
                simp only [List.set_cons_zero, List.set_cons_succ]
                refine wpAnyH_takeD 3 56 (v := ?_) rfl rfl (by kernel_rfl) (by kernel_rfl) (by kernel_rfl) (fun _ _ _ h => h) (Or.inl ⟨by rfl, ?_⟩) QD ?_
                rotate_left
                · (intro w' hw'; (try dsimp only at hw'); go_simp; try with_reducible rfl)
                simp only [List.set_cons_zero, List.set_cons_succ]
                refine wpAnyH_takeD 4 57 (v := ?_) rfl rfl (by kernel_rfl) (by kernel_rfl) (by kernel_rfl) (fun _ _ _ h => h) (Or.inl ⟨by rfl, ?_⟩) QD ?_
                rotate_left
                · (intro w' hw'; (try dsimp only at hw'); go_simp; try with_reducible rfl)
                simp only [List.set_cons_zero, List.set_cons_succ]
                refine wpAnyH_takeD 5 58 (v := ?_) rfl rfl (by kernel_rfl) (by kernel_rfl) (by kernel_rfl) (fun _ _ _ h => h) (Or.inl ⟨by rfl, ?_⟩) QD ?_
                rotate_left
                · (intro w' hw'; (try dsimp only at hw'); go_simp; try with_reducible rfl)
                simp only [List.set_cons_zero, List.set_cons_succ]
                refine wpAnyH_takeD 6 59 (v := ?_) rfl rfl (by kernel_rfl) (by kernel_rfl) (by kernel_rfl) (fun _ _ _ h => h) (Or.inl ⟨by rfl, ?_⟩) QD ?_
                rotate_left
                · (intro w' hw'; (try dsimp only at hw'); go_simp; try with_reducible rfl)
                simp only [List.set_cons_zero, List.set_cons_succ]
                refine wpAnyH_step 7 rfl (by kernel_rfl) (fun K' hK' => ?_)
                rw [if_pos (by rfl)]
                go_simp
                go_at_call 88
                refine (changed_keep y ⟨s, z, t, lk⟩ _ _ hym.out hkd1.out).mono ?_
                rintro e w5 ⟨rfl, hb5⟩
                have hb5' : Below wb.heap.size wb w5 := (brf wb).drew.trans hb5
                have Q1 := KS.out wb w5 Q0 (hb5'.block _ hgb) (hb5'.block _ hgx)
                have O5 := Lib.hid (O2.out.below hb5' fun _ _ _ r => r)
                generalize markI y ⟨s, z, t, lk⟩ = m at *
                go_wp2_with fail
                refine hK'.out _ _ Q1 ?_
                clear hK' K'
                refine wpAnyH_step 8 rfl (by kernel_rfl) (fun K' hK' => ?_)
                rw [if_pos (by rfl)]
                go_simp
                have hB6 : Below wb.heap.size wb (w5.alloc (.cells #[.int .u8 m.c.toNat, .int .i64 m.m, str m.l] 50)) := bal hb5' _
                have Q2 := KS.out wb _ Q0 (hB6.block _ hgb) (hB6.block _ hgx)
                refine hK'.out _ _ Q2 ?_
                clear hK' K'
                refine wpAnyH_step 9 rfl (by kernel_rfl) (fun K' hK' => ?_)
                refine step_app rfl (.tmp 53) (.tmp 61) 34 rfl w4.heap.size 50 3 32 _ elDoc RIt _ out [m] rfl (O2.out.below hB6 fun _ _ _ r => r) (fun _ => True) _ rfl (RdS.one [.int .u8 m.c.toNat, .int .i64 m.m, str m.l] 50 rfl trivial rfl) RIt_one (by unfold maxLen; simp; omega) (by simp; omega) (Nat.le_trans hB2.out.size hB6.size) (fun _ _ _ _ _ r => r) ?_
                intro v9 w9 ho9 hg9 hbl9
                rw [E9.out] at ho9
                obtain ⟨pa9, pc9, rfl⟩ := len_nil ho9
                have Q3 := KS.out _ w9 Q2 (hg9.block b2 (Nat.lt_of_lt_of_le hgb hB6.size) (fun e => by have := (own_ge O2.out e.symm).1; omega)) (hg9.block gx (Nat.lt_of_lt_of_le hgx hB6.size) hne)
                refine hK'.out _ _ Q3 ?_
                clear hK' K'
                refine wpAnyH_takeD 10 10 (v := ?_) rfl rfl (by kernel_rfl) (by kernel_rfl) (by kernel_rfl) (fun _ _ _ h => h) (Or.inl ⟨by rfl, ?_⟩) Q3 ?_
                rotate_left
                · (intro w' hw'; (try dsimp only at hw'); go_simp; try with_reducible rfl)
                simp only [List.set_cons_zero, List.set_cons_succ]
                refine wpAnyH_done (by kernel_rfl) ?_ _
                go_wp2
                go_roundw
                case rel => exact ⟨j + 1, kk + 1, o9, by omega, by go_num, by go_num, ho9, hs2, hf1, hl9, hk1, (hB2.out.trans (hB6.mono hB2.out.size)).trans hbl9⟩
                case measure => simp [intOf]; omega
            · obtain rfl : j = A.length := by omega
              have hfin := Lib.hid (show doA D A = out by rw [hst.out, List.drop_length]; simp [doA])
              have hR := Lib.hid (RItems.to (F' := (w.heap.size ≤ ·)) O1.out.rd (Kp.weak wr fun k hk => Nat.le_trans hB4.size hk))
              go_wp2
              go_ret2
              exact ⟨_, rfl, by rw [hAe.out, hfin.out]; exact hR.out, btr hB4 hb⟩
      · have hres3 := hr2.out
        rw [if_pos (by simpa using h3)] at hres3
        subst hres3
        have h3' : ((frm (acts L) : Int) != (D.length : Int)) = true := by simp; omega
        clear h3 hr2
        generalize frm (acts L) = fr at *
        generalize too (acts L) = tt at *
        go_wp2
        go_ret2
        exact ⟨.slice none 0 0, rfl, RdS.nil, hB3⟩
    · have hres2 := hr1.out
      rw [if_pos (by simpa using h2)] at hres2
      subst hres2
      have h2' : (chkOp L != 0) = true := by simpa using h2
      clear hr1 h2
      go_wp2
      go_ret2
      exact ⟨.slice none 0 0, rfl, RdS.nil, hb1.trans (hb2.mono hb1.size)⟩
  · have hres1 := hres.out
    rw [if_pos (by simpa using h1)] at hres1
    subst hres1
    have h1' : (chkDoc D != 0) = true := by simpa using h1
    clear hres h1
    go_wp2
    go_ret2
    exact ⟨.slice none 0 0, rfl, RdS.nil, hb1⟩
end Go.Proofs.YtckdlhgeelhnmaaGreat
