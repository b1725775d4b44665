/- The references on operations: JoinedTo. -/
import Derived.Test.YtgodceplajkcdaaRefV
namespace Go.Mh
open Go Go.RowKit
theorem there_of {w : World} {g T o n : Nat} {cs : Array Value} (h : w.heap[g]? = some (.cells cs T (0, 0))) (hs : o + n ≤ cs.size) : w.there g o n := by
  intro j hj
  have hlt : o + j < cs.size := by omega
  refine ⟨?_, by simp [World.frozen?, h]⟩
  unfold World.cell?
  rw [h]
  simp [hlt]
theorem set3 {w : World} {g T : Nat} {a0 a1 a2 a3 a4 a5 a6 a7 a8 a9 a10 x y z : Value} (h : w.heap[g]? = some (.cells #[a0, a1, a2, a3, a4, a5, a6, a7, a8, a9, a10] T (0, 0))) :
    (w.setCells g 1 [x, y, z]).heap[g]? = some (.cells #[a0, x, y, z, a4, a5, a6, a7, a8, a9, a10] T (0, 0)) := by
  have h1 := heap_setCell_same w g 1 _ _ x h
  have h2 := heap_setCell_same _ g 2 _ _ y h1
  have h3 := heap_setCell_same _ g 3 _ _ z h2
  simpa [World.setCells] using h3
theorem below_set3 {B g : Nat} {a w : World} {x y z : Value} (h : Below B a w) (hg : B ≤ g) : Below B a (w.setCells g 1 [x, y, z]) :=
  ((h.setCell (p := ⟨g, 1, none⟩) hg x).setCell (p := ⟨g, 2, none⟩) hg y).setCell (p := ⟨g, 3, none⟩) hg z
theorem other_set3 {g k : Nat} {w : World} {x y z : Value} (h : k ≠ g) : (w.setCells g 1 [x, y, z]).heap[k]? = w.heap[k]? := by
  have h1 := heap_setCell_other w ⟨g, 1, none⟩ k x h
  have h2 := heap_setCell_other (w.setCell ⟨g, 1, none⟩ x) ⟨g, 2, none⟩ k y h
  have h3 := heap_setCell_other ((w.setCell ⟨g, 1, none⟩ x).setCell ⟨g, 2, none⟩ y) ⟨g, 3, none⟩ k z h
  exact (h3.trans h2).trans h1
theorem sub_wrap1 {m s : Int} (h0 : 0 ≤ m) (h1 : m ≤ 3) (h2 : 0 ≤ s) (h3 : s ≤ 3) : IntKind.i64.wrap (m - band m s) = bnot m s := by
  obtain ⟨x, rfl⟩ := small4 h0 h1
  obtain ⟨y, rfl⟩ := small4 h2 h3
  rw [sub_band, bnot4]
  have := (not4 x y).isLt
  simp [IntKind.wrap, IntKind.bits, IntKind.signed]; omega
def chk1 (x : List Pt) : List Pt × Int := if chkOp x ≠ 0 then ([], chkOp x) else (x, 0)
theorem joinA_len : ∀ a b, too a = frm b → (joinA a b).length ≤ a.length + b.length := by
  refine join_ind ?_ ?_ ?_ ?_ ?_ ?_ ?_
  · exact Nat.zero_le _
  · intro a b _ h; rw [join_c]; simp; omega
  · intro y a b hn _ h; rw [join_q hn]; simp; omega
  · intro u t a b _ h; rw [join_kk]; simp; omega
  · intro u a b _ h; rw [join_kc]; simp; omega
  · intro x t a b _ h; rw [join_pk]; simp; omega
  · intro x a b _ h; rw [join_pc]; simp; omega
theorem joinP_rows {a b : List Pt} (ha : chkOp a = 0) (hb : chkOp b = 0) (hf : (rowsA [] (acts b)).length = too (acts a)) :
    joinP a b = chk1 (tidyA (joinR (acts a) (rowsA [] (acts b)))) := by
  rw [rowsA_len] at hf
  rw [joinR_eq hf.symm (chkOp_ok ha).fin (chkOp_ok hb).fin]
  unfold joinP chk1
  rw [if_neg (by simpa using ha), if_neg (by simpa using hb), if_neg (by simpa using hf.symm)]
theorem joinP_base {a b : List Pt} (ha : chkOp a = 0) (hb : chkOp b = 0) (hf : ¬ (rowsA [] (acts b)).length = too (acts a)) : joinP a b = ([], 6) := by
  rw [rowsA_len] at hf
  unfold joinP
  rw [if_neg (by simpa using ha), if_neg (by simpa using hb), if_pos (fun e => hf e.symm)]
end Go.Mh
namespace Go.Proofs.Ytgodceplajkcdaa
open Go.RowKit Go.Mh
theorem joinR_len {a b : List Pt} (ha : OpOk a) (hb : OpOk b) (hf : (rowsA [] (acts b)).length = too (acts a)) : (joinR (acts a) (rowsA [] (acts b))).length ≤ 8000 := by
  rw [rowsA_len] at hf
  rw [joinR_eq hf.symm ha.fin hb.fin]
  have h := joinA_len _ _ hf.symm
  have := acts4000 ha
  have := acts4000 hb
  omega
theorem joinR_cut {A : List Ac} {j : Nat} (hx : A[j]? = some .cut) (q : List Row) : joinR (A.drop j) q = .cut :: joinR (A.drop (j + 1)) q ∧ too (A.drop j) = too (A.drop (j + 1)) := by
  obtain ⟨hlt, e⟩ := List.getElem?_eq_some_iff.1 hx
  rw [List.drop_eq_getElem_cons hlt, e]
  exact ⟨by rw [joinR], rfl⟩
theorem joinR_on {A : List Ac} {Q : List Row} {j k : Nat} {x : Ac} {t : Row} (hx : A[j]? = some x) (hc : x ≠ .cut) (ht : Q[k]? = some t) :
    joinR (A.drop j) (Q.drop k) = t.1 ++ joinC x t.2 ++ joinR (A.drop (j + 1)) (Q.drop (k + 1)) := by
  obtain ⟨hlt, rfl⟩ := List.getElem?_eq_some_iff.1 hx
  obtain ⟨hlt2, rfl⟩ := List.getElem?_eq_some_iff.1 ht
  rw [List.drop_eq_getElem_cons hlt, List.drop_eq_getElem_cons hlt2]
  generalize A[j] = x at *
  cases x with
  | cut => exact absurd rfl hc
  | keep u => rw [joinR]; simp
  | put y => rw [joinR]; simp
theorem too_on {A : List Ac} {j : Nat} {x : Ac} (hx : A[j]? = some x) (hc : x ≠ .cut) : too (A.drop j) = too (A.drop (j + 1)) + 1 := by
  obtain ⟨hlt, rfl⟩ := List.getElem?_eq_some_iff.1 hx
  rw [List.drop_eq_getElem_cons hlt]
  generalize A[j] = x at *
  cases x with
  | cut => exact absurd rfl hc
  | keep u => simp [too]
  | put y => simp [too]
/-- Acts appended to the call's own row: it lies where it lay, or in a new block. -/
theorem wpListOwn {w : World} {ops : Array Oper} {rest : List Oper} {o : Oper} {a : Act} {Q : Exit → Act → World → Prop} (hgd : o.guard = none) (s x : Operand)
    (hop : o.op = .call { callee := .builtin .append, args := #[s, x], argTypes := #[123, 123] })
    {B : Nat} {lv : Value} {X : List Ac} (O : OwnA B w lv X) (hB : B ≤ w.heap.size) (hs : a.eval s = lv) {F : Nat → Prop} {M : List Ac} (xv : Value) (hx : a.eval x = xv) (hsrc : RActs F w xv M) (hlen : X.length + M.length ≤ 100000)
    (hK : ∀ v' w', OwnA B w' v' (X ++ M) → Below B w w' → w.grownBy w' lv.ownBlock → (v'.ownBlock = lv.ownBlock ∨ v'.ownBlock = some w.heap.size) → wpList Try.prog ops Q rest (a.put o.dst v') w') : wpList Try.prog ops Q (o :: rest) a w := by
  refine wpList_plain hgd fun K hK' => ?_
  obtain ⟨v', w', hrun, h1, h2, h3, h4⟩ := run_app (P := Try.prog) (w := w) 123 o.type B 126 11 120 _ elActs RAc lv X M O F xv hsrc RAc_one (by unfold maxLen; omega) (by omega) hB (fun _ _ _ _ _ r => r)
  unfold Oper.wp
  simp [execOp, hop, resolve, invoke, builtin, hs, hx, hrun, Result.andThen]
  exact hK' _ _ (hK v' w' h1 h3 h2 h4)
theorem changed_keepJ (x : It) (c : Kd) (sv : Value) (w : World) (hx : x.Mk) (hc : c.Ok) :
    Calls Try.prog 93 #[.agg #[.int .u8 x.c.toNat, .int .i64 x.m, str x.l], .agg #[.int .i64 1, .int .i64 1, sv, .int .i64 c.set, .int .i64 c.clr, .bool c.to, str c.l]] w fun e w' => e = .returned (iv (markI x c)) ∧ Below w.heap.size w w' :=
  changed_any x (keepP c 1) sv w hx hc

set_option maxRecDepth 100000 in
set_option maxHeartbeats 16000000 in
theorem refJoined_any (F G : Nat → Prop) (v u : Value) (a b : List Pt) (w : World) (h : ROp F w v a) (g : ROp G w u b) :
    Calls Try.prog 61 #[v, u] w fun e w' => ∃ r, e = .returned (.tuple #[r, .int .i64 (joinP a b).2]) ∧ ROp (w.heap.size ≤ ·) w' r (joinP a b).1 ∧ Below w.heap.size w w' := by
  obtain ⟨va, vc, rfl, _⟩ := RdS.len h
  obtain ⟨ua, uc, rfl, _⟩ := RdS.len g
  have H := Lib.hid (fun w' (hb : Below w.heap.size w w') => ROp.to h (Kp.below hb))
  have G' := Lib.hid (fun w' (hb : Below w.heap.size w w') => ROp.to g (Kp.below hb))
  clear h g
  go_enter Try.func61, Try.ntmps61
  go_wp2
  go_loopw [23] (fun iv wr => ∃ i : Nat, i ≤ 2 ∧ iv = .int .i64 i ∧ (0 < i → chkOp a = 0) ∧ (1 < i → chkOp b = 0) ∧ wr.heap[w.heap.size]? = some (.cells #[.slice va a.length vc, .slice ua b.length uc] 53 (0, 0)) ∧ Below w.heap.size w wr) (fun iv _ => 2 - (intOf iv).toNat)
  case atStart => exact ⟨0, by omega, rfl, by omega, by omega, heap_new _ _, bal (brf w) _⟩
  case round =>
    obtain ⟨i, hi, rfl, ca, cb, hbx, hb⟩ := hrel
    have ca' := Lib.hid ca
    have cb' := Lib.hid cb
    clear ca cb
    have k0 : wr.cell? ⟨w.heap.size, 0, none⟩ = some (.slice va a.length vc) := by unfold World.cell?; rw [hbx]; rfl
    have k1 : wr.cell? ⟨w.heap.size, 1, none⟩ = some (.slice ua b.length uc) := by unfold World.cell?; rw [hbx]; rfl
    have hbl : w.heap.size < wr.heap.size := lt_of_heap hbx
    have hbx' := Lib.hid hbx
    clear hbx
    rcases (by omega : i = 0 ∨ i = 1 ∨ i = 2) with rfl | rfl | rfl
    · go_wp2_with fail
      refine (checkOp_any _ _ a wr (H.out wr hb)).mono ?_
      rintro e w1 ⟨rfl, hb1⟩
      by_cases hz : chkOp a = 0
      · have hz' := Lib.hid hz
        rw [hz]
        clear hz
        have hbx1 := (hb1.block _ hbl).trans hbx'.out
        go_wp2
        go_roundw
        case rel => exact ⟨1, by omega, rfl, fun _ => hz'.out, by omega, hbx1, btr hb hb1⟩
        case measure => simp [intOf]
      · have hne : (chkOp a != 0) = true := by simpa using hz
        have hres : Hid (joinP a b = ([], chkOp a)) := Lib.hid (by unfold joinP; rw [if_pos hz])
        clear hz
        go_wp2
        go_ret2
        exact ⟨.slice none 0 0, by rw [hres.out]; rfl, by rw [hres.out]; exact RdS.nil, btr hb hb1⟩
    · go_wp2_with fail
      refine (checkOp_any _ _ b wr (G'.out wr hb)).mono ?_
      rintro e w1 ⟨rfl, hb1⟩
      by_cases hz : chkOp b = 0
      · have hz' := Lib.hid hz
        rw [hz]
        clear hz
        have hbx1 := (hb1.block _ hbl).trans hbx'.out
        go_wp2
        go_roundw
        case rel => exact ⟨2, by omega, rfl, fun _ => ca'.out (by omega), fun _ => hz'.out, hbx1, btr hb hb1⟩
        case measure => simp [intOf]
      · have hne : (chkOp b != 0) = true := by simpa using hz
        have hres : Hid (joinP a b = ([], chkOp b)) := Lib.hid (by unfold joinP; rw [if_neg (by simpa using ca'.out (by omega)), if_pos hz])
        clear hz
        go_wp2
        go_ret2
        exact ⟨.slice none 0 0, by rw [hres.out]; rfl, by rw [hres.out]; exact RdS.nil, btr hb hb1⟩
    · have hza := Lib.hid (ca'.out (by omega))
      have hzb := Lib.hid (cb'.out (by omega))
      have C0 := Lib.hid (refLong_any _ _ a wr (H.out wr hb))
      clear k0 k1 hbx' ca' cb'
      go_wp2_with fail
      refine C0.out.mono ?_
      rintro e w1 ⟨rfl, hb1⟩
      rw [(chkOp_ok hza.out).longs]
      have hB1 := btr hb hb1
      have C2 := Lib.hid (refRows_any _ _ b w1 (G'.out w1 hB1) (chkOp_ok hzb.out))
      clear C0
      generalize hfr : frm (acts a) = fr
      clear hfr
      obtain ⟨tt, htt⟩ : ∃ n, too (acts a) = n := ⟨_, rfl⟩
      rw [htt]
      go_wp2_with fail
      refine C2.out.mono ?_
      rintro e w2 ⟨r2, rfl, hr2, hb2⟩
      have hB2 := btr hB1 hb2
      obtain ⟨qa, qc, rfl, _⟩ := RdS.len hr2
      have R2 := Lib.hid (RdS.to (F' := fun _ => True) hr2 (by decide) (fun _ _ _ => ⟨trivial, rfl⟩) (fun cs x _ r => (RRow.to r (Kp.weak w2 fun _ _ => trivial) : RRow (fun _ => True) w2 cs x)))
      clear C2 hr2
      by_cases hln : (rowsA [] (acts b)).length = tt
      · have hres := Lib.hid (joinP_rows hza.out hzb.out (hln.trans htt.symm))
        have HT := Lib.hid (joinR_len (chkOp_ok hza.out) (chkOp_ok hzb.out) (hln.trans htt.symm))
        have hQo := Lib.hid (fun r (h : r ∈ rowsA [] (acts b)) => rows_ok (chkOp_ok hzb.out) h)
        have hAo := Lib.hid (fun x (h : x ∈ acts a) => (chkOp_ok hza.out).ok x h)
        have hA4 : (acts a).length ≤ 4000 := acts4000 (chkOp_ok hza.out)
        have hne : (((rowsA [] (acts b)).length : Int) != (tt : Int)) = false := by simp; omega
        have hp : 0 < tt := by rw [← htt]; exact (chkOp_ok hza.out).fin.too
        have C3 := Lib.hid (refActs_any _ _ a w2 (H.out w2 hB2) (chkOp_ok hza.out))
        have htt' := Lib.hid htt
        have hln' := Lib.hid hln
        clear hza hzb H G' htt hln
        generalize acts a = A at *
        generalize rowsA [] (acts b) = Q at *
        obtain ⟨q0, hq0⟩ : ∃ q0, Q[0]? = some q0 := ⟨_, List.getElem?_eq_getElem (by rw [hln'.out]; exact hp)⟩
        obtain ⟨qb, qo, _, rfl, _⟩ := RdS.el R2.out 0 q0 hq0
        clear hq0
        have hqc : Hid (Q.length ≤ qc) := Lib.hid (by obtain ⟨_, _, e, h1, _⟩ := R2.out; cases e; exact h1)
        go_wp2_with fail
        refine C3.out.mono ?_
        rintro e w4 ⟨r4, rfl, hr4, hb4⟩
        obtain ⟨ra, rc, rfl⟩ := len_nil hr4
        have hB4 := Lib.hid (btr hB2 hb4)
        have HB2 := Lib.hid hb4
        have HA := Lib.hid hr4.rd
        clear hr4 C3 hb1 hb2 hB1 hB2
        go_wp2
        go_loopw [11, 12, 47] (fun qv ov jv ws => ∃ (j n k cap : Nat) (ad : Option Addr) (out : List Ac), j ≤ A.length ∧ jv = .int .i64 j ∧ qv = .slice ad n cap ∧ OwnA w4.heap.size ws ov out ∧ Hid (n + k = Q.length) ∧ Hid (n = too (A.drop j)) ∧ Hid (0 < n → ad = some ⟨qb, qo + k * 12, none⟩) ∧ Hid (n ≤ cap) ∧ Hid (joinR A Q = out ++ joinR (A.drop j) (Q.drop k)) ∧ Below w4.heap.size w4 ws) (fun _ _ jv _ => A.length - (intOf jv).toNat)
        case atStart => exact ⟨0, Q.length, 0, qc, _, [], Nat.zero_le _, rfl, rfl, OwnS.nil, Lib.hid rfl, Lib.hid (by rw [hln'.out, ← htt'.out, List.drop_zero]), Lib.hid (fun _ => by simp), Lib.hid hqc.out, Lib.hid (by simp), brf _⟩
        case round =>
          obtain ⟨j, n, k, cap, ad, out, hj, rfl, rfl, hown, hnk, hnt, had, hnc, hst, hb⟩ := hrel
          obtain ⟨oa, oc, rfl⟩ := len_nil hown
          have O1 := Lib.hid hown
          clear hown
          by_cases hlt : j < A.length
          · obtain ⟨x, hx⟩ : ∃ x, A[j]? = some x := ⟨_, List.getElem?_eq_getElem hlt⟩
            obtain ⟨b0, o0, sv, rfl, hE, hb0, hcell⟩ := RActs.at HA.out hb hx
            obtain ⟨ea, ec, rfl, hme⟩ := hE
            have hxo := Lib.hid (hAo.out x (List.mem_of_getElem? hx))
            have hol : out.length ≤ 8000 := by have := HT.out; rw [hst.out] at this; simp only [List.length_append] at this; omega
            cases x with
            | cut =>
              have hJ := joinR_cut hx (Q.drop k)
              obtain ⟨Z, qZ⟩ : ∃ M, out ++ [Ac.cut] = M := ⟨_, rfl⟩
              have hst2 : Hid (joinR A Q = Z ++ joinR (A.drop (j + 1)) (Q.drop k)) := Lib.hid (by rw [hst.out, hJ.1, ← qZ]; simp)
              have hnt2 : Hid (n = too (A.drop (j + 1))) := Lib.hid (hnt.out.trans hJ.2)
              have EZ := Lib.hid qZ
              clear qZ hJ hst hnt hx
              have c0 : wr.cell? ⟨b0, o0 + j * 11, none⟩ = some (.int .i64 3) := hcell 0 _ rfl
              have c1 : wr.cell? ⟨b0, o0 + j * 11 + 1, none⟩ = some (.int .u8 0) := hcell 1 _ rfl
              have c2 : wr.cell? ⟨b0, o0 + j * 11 + 2, none⟩ = some (.int .i64 0) := hcell 2 _ rfl
              have c3 : wr.cell? ⟨b0, o0 + j * 11 + 3, none⟩ = some (.string ⟨#[]⟩) := hcell 3 _ rfl
              have c4 : wr.cell? ⟨b0, o0 + j * 11 + 4, none⟩ = some (.int .i64 3) := hcell 4 _ rfl
              have c5 : wr.cell? ⟨b0, o0 + j * 11 + 5, none⟩ = some (.int .i64 1) := hcell 5 _ rfl
              have c6 : wr.cell? ⟨b0, o0 + j * 11 + 6, none⟩ = some (.slice ea 0 ec) := hcell 6 _ rfl
              have c7 : wr.cell? ⟨b0, o0 + j * 11 + 7, none⟩ = some (.int .i64 0) := hcell 7 _ rfl
              have c8 : wr.cell? ⟨b0, o0 + j * 11 + 8, none⟩ = some (.int .i64 0) := hcell 8 _ rfl
              have c9 : wr.cell? ⟨b0, o0 + j * 11 + 9, none⟩ = some (.bool false) := hcell 9 _ rfl
              have c10 : wr.cell? ⟨b0, o0 + j * 11 + 10, none⟩ = some (str []) := hcell 10 _ rfl
              clear hcell
              have hb2 := bal (brf wr) (.cells #[.int .i64 3, .int .u8 0, .int .i64 0, .string ⟨#[]⟩, .int .i64 3, .int .i64 1, .slice ea 0 ec, .int .i64 0, .int .i64 0, .bool false, str []] 126)
              have O2 := Lib.hid (O1.out.to hb2)
              have B2 := Lib.hid (hb.trans (hb2.mono hb.size))
              clear hb2
              go_wp2_with (at_builtin; refine wpList_app1 rfl (.tmp 54) (.tmp 56) 123 rfl w4.heap.size 126 11 120 _ elActs RAc _ out rfl O2.out Ac.cut [.int .i64 3, .int .u8 0, .int .i64 0, .string ⟨#[]⟩, .int .i64 3, .int .i64 1, .slice ea 0 ec, .int .i64 0, .int .i64 0, .bool false, str []] 126 _ rfl (by first | rfl | simp) rfl (fun _ _ => ⟨.slice ea 0 ec, ⟨ea, ec, rfl, hme⟩, rfl⟩) RAc_one (by unfold maxLen; omega) (by omega) B2.out.size (fun _ _ _ _ _ r => r) ?_; intro v9 w9 ho9 hb9 hz9 hk9; rw [EZ.out] at ho9; obtain ⟨pa9, pc9, rfl⟩ := len_nil ho9)
              go_wp2
              go_roundw
              case rel => exact ⟨j + 1, n, k, cap, ad, Z, by omega, by go_num, rfl, ho9, hnk, hnt2, had, hnc, hst2, B2.out.trans hb9⟩
              case measure => simp [intOf]; omega
            | keep u =>
              obtain ⟨us, uz, ut, ul⟩ := u
              have hcn : (Ac.keep ⟨us, uz, ut, ul⟩) ≠ Ac.cut := by simp
              have htn := too_on hx hcn
              have hkQ : k < Q.length := by have := hnk.out; have := hnt.out; omega
              obtain ⟨t, ht⟩ : ∃ t, Q[k]? = some t := ⟨_, List.getElem?_eq_getElem hkQ⟩
              have hJ := joinR_on hx hcn ht
              have hto := Lib.hid (hQo.out t (List.mem_of_getElem? ht))
              obtain ⟨qb', qo', pv2, sv2, e2, hA2, hE2, hl2, hC2⟩ := RRows.at R2.out (btr HB2.out hb) ht
              cases e2
              obtain ⟨ta, tac, rfl, _⟩ := RdS.len hA2
              obtain ⟨fa, fc, rfl, hmf⟩ := hE2
              obtain ⟨tp, to⟩ := t
              dsimp only at hJ hA2 hC2 hto
              obtain ⟨X1, qX1⟩ : ∃ M, out ++ tp = M := ⟨_, rfl⟩
              have hst1 : joinR A Q = X1 ++ (joinC (Ac.keep ⟨us, uz, ut, ul⟩) to ++ joinR (A.drop (j + 1)) (Q.drop (k + 1))) := by rw [hst.out, hJ, ← qX1]; simp only [List.append_assoc]
              have hlx : X1.length ≤ 8000 := by have := HT.out; rw [hst1] at this; simp only [List.length_append] at this; omega
              have hlp : out.length + tp.length ≤ 8000 := by rw [← qX1, List.length_append] at hlx; exact hlx
              have hst2 := Lib.hid hst1
              have E1 := Lib.hid qX1
              have hn1 : 0 < n := by have := hnt.out; omega
              have hn2 : (1 : Int) ≤ (n : Int) := by omega
              have hn3 : 1 ≤ n := by omega
              have hn4 : (0 : Int) < (n : Int) := by omega
              have hnk2 : Hid ((n - 1) + (k + 1) = Q.length) := Lib.hid (by have := hnk.out; omega)
              have hnt2 : Hid (n - 1 = too (A.drop (j + 1))) := Lib.hid (by have := hnt.out; omega)
              have hadr : Hid (qo + (k + 1) * 12 = qo + k * 12 + 12) := Lib.hid (by omega)
              have D2 := Lib.hid hA2
              have e3 := had.out hn1
              subst e3
              have hnc2 : Hid (n - 1 ≤ cap - 1) := Lib.hid (by have := hnc.out; omega)
              obtain ⟨ad2, hqq⟩ : ∃ ad2 : Option Addr, (if cap = 1 then (some ⟨qb, qo + k * 12, none⟩ : Option Addr) else some ⟨qb, qo + k * 12 + 12, none⟩) = ad2 := ⟨_, rfl⟩
              have had2 : Hid (0 < n - 1 → ad2 = some ⟨qb, qo + (k + 1) * 12, none⟩) := Lib.hid (fun h => by
                have := hnc.out
                rw [← hqq, if_neg (by omega), hadr.out])
              have hqq' := Lib.hid hqq
              clear hqq had hnc
              clear qX1 hst1 hJ htn hcn hst hnk hnt hx ht hkQ hA2
              have c0 : wr.cell? ⟨b0, o0 + j * 11, none⟩ = some (.int .i64 1) := hcell 0 _ rfl
              have c1 : wr.cell? ⟨b0, o0 + j * 11 + 1, none⟩ = some (.int .u8 0) := hcell 1 _ rfl
              have c2 : wr.cell? ⟨b0, o0 + j * 11 + 2, none⟩ = some (.int .i64 0) := hcell 2 _ rfl
              have c3 : wr.cell? ⟨b0, o0 + j * 11 + 3, none⟩ = some (.string ⟨#[]⟩) := hcell 3 _ rfl
              have c4 : wr.cell? ⟨b0, o0 + j * 11 + 4, none⟩ = some (.int .i64 1) := hcell 4 _ rfl
              have c5 : wr.cell? ⟨b0, o0 + j * 11 + 5, none⟩ = some (.int .i64 1) := hcell 5 _ rfl
              have c6 : wr.cell? ⟨b0, o0 + j * 11 + 6, none⟩ = some (.slice ea 0 ec) := hcell 6 _ rfl
              have c7 : wr.cell? ⟨b0, o0 + j * 11 + 7, none⟩ = some (.int .i64 us) := hcell 7 _ rfl
              have c8 : wr.cell? ⟨b0, o0 + j * 11 + 8, none⟩ = some (.int .i64 uz) := hcell 8 _ rfl
              have c9 : wr.cell? ⟨b0, o0 + j * 11 + 9, none⟩ = some (.bool ut) := hcell 9 _ rfl
              have c10 : wr.cell? ⟨b0, o0 + j * 11 + 10, none⟩ = some (str ul) := hcell 10 _ rfl
              clear hcell
              cases to with
              | put x => exact hto.out.elim
              | cut =>
                have f0 : wr.cell? ⟨qb, qo + k * 12, none⟩ = some (.slice ta tp.length tac) := hC2 0 _ rfl
                have f1 : wr.cell? ⟨qb, qo + k * 12 + 1, none⟩ = some (.int .i64 3) := hC2 1 _ rfl
                have f2 : wr.cell? ⟨qb, qo + k * 12 + 2, none⟩ = some (.int .u8 0) := hC2 2 _ rfl
                have f3 : wr.cell? ⟨qb, qo + k * 12 + 3, none⟩ = some (.int .i64 0) := hC2 3 _ rfl
                have f4 : wr.cell? ⟨qb, qo + k * 12 + 4, none⟩ = some (.string ⟨#[]⟩) := hC2 4 _ rfl
                have f5 : wr.cell? ⟨qb, qo + k * 12 + 5, none⟩ = some (.int .i64 3) := hC2 5 _ rfl
                have f6 : wr.cell? ⟨qb, qo + k * 12 + 6, none⟩ = some (.int .i64 1) := hC2 6 _ rfl
                have f7 : wr.cell? ⟨qb, qo + k * 12 + 7, none⟩ = some (.slice fa 0 fc) := hC2 7 _ rfl
                have f8 : wr.cell? ⟨qb, qo + k * 12 + 8, none⟩ = some (.int .i64 0) := hC2 8 _ rfl
                have f9 : wr.cell? ⟨qb, qo + k * 12 + 9, none⟩ = some (.int .i64 0) := hC2 9 _ rfl
                have f10 : wr.cell? ⟨qb, qo + k * 12 + 10, none⟩ = some (.bool false) := hC2 10 _ rfl
                have f11 : wr.cell? ⟨qb, qo + k * 12 + 11, none⟩ = some (str []) := hC2 11 _ rfl
                go_upto_region 20 with fail
                rw [hqq'.out]
                have hs := ((bal (brf (wr.alloc (.cells #[.int .i64 1, .int .u8 0, .int .i64 0, .string ⟨#[]⟩, .int .i64 1, .int .i64 1, .slice ea 0 ec, .int .i64 us, .int .i64 uz, .bool ut, str ul] 126))) (.cells #[.slice ta tp.length tac, .int .i64 3, .int .u8 0, .int .i64 0, .string ⟨#[]⟩, .int .i64 3, .int .i64 1, .slice fa 0 fc, .int .i64 0, .int .i64 0, .bool false, str []] 147)).block wr.heap.size (by simp)).trans (heap_new wr (.cells #[.int .i64 1, .int .u8 0, .int .i64 0, .string ⟨#[]⟩, .int .i64 1, .int .i64 1, .slice ea 0 ec, .int .i64 us, .int .i64 uz, .bool ut, str ul] 126))
                have ht := heap_new (wr.alloc (.cells #[.int .i64 1, .int .u8 0, .int .i64 0, .string ⟨#[]⟩, .int .i64 1, .int .i64 1, .slice ea 0 ec, .int .i64 us, .int .i64 uz, .bool ut, str ul] 126)) (.cells #[.slice ta tp.length tac, .int .i64 3, .int .u8 0, .int .i64 0, .string ⟨#[]⟩, .int .i64 3, .int .i64 1, .slice fa 0 fc, .int .i64 0, .int .i64 0, .bool false, str []] 147)
                have hB := bal (bal (brf wr) (.cells #[.int .i64 1, .int .u8 0, .int .i64 0, .string ⟨#[]⟩, .int .i64 1, .int .i64 1, .slice ea 0 ec, .int .i64 us, .int .i64 uz, .bool ut, str ul] 126)) (.cells #[.slice ta tp.length tac, .int .i64 3, .int .u8 0, .int .i64 0, .string ⟨#[]⟩, .int .i64 3, .int .i64 1, .slice fa 0 fc, .int .i64 0, .int .i64 0, .bool false, str []] 147)
                generalize hw2 : (wr.alloc (.cells #[.int .i64 1, .int .u8 0, .int .i64 0, .string ⟨#[]⟩, .int .i64 1, .int .i64 1, .slice ea 0 ec, .int .i64 us, .int .i64 uz, .bool ut, str ul] 126)).alloc (.cells #[.slice ta tp.length tac, .int .i64 3, .int .u8 0, .int .i64 0, .string ⟨#[]⟩, .int .i64 3, .int .i64 1, .slice fa 0 fc, .int .i64 0, .int .i64 0, .bool false, str []] 147) = w2' at *
                obtain ⟨gt, hgt⟩ : ∃ g, g = (wr.alloc (.cells #[.int .i64 1, .int .u8 0, .int .i64 0, .string ⟨#[]⟩, .int .i64 1, .int .i64 1, .slice ea 0 ec, .int .i64 us, .int .i64 uz, .bool ut, str ul] 126)).heap.size := ⟨_, rfl⟩
                obtain ⟨gs, hgs⟩ : ∃ g, g = wr.heap.size := ⟨_, rfl⟩
                have hgg : gs ≤ gt := by rw [hgs, hgt]; simp
                rw [← hgt] at ht
                rw [← hgs] at hs
                clear hC2 c0 c1 c2 c3 c4 c5 c6 c7 c8 c9 c10 f0 f1 f2 f3 f4 f5 f6 f7 f8 f9 f10 f11
                first
                  | rw [← hgt, ← hgs]
                  | (simp only [World.size_alloc, ← hgs] at hgt ⊢; rw [← hgt])
                have hgs' : wr.heap.size ≤ gs := by omega
                have O2 := Lib.hid (O1.out.to hB)
                have D3 := Lib.hid (RActs.to D2.out (Kp.below (btr (btr HB2.out hb) hB)))
                have B2 := Lib.hid (hb.trans (hB.mono hb.size))
                have k0 := cell_of ht 0 (.slice ta tp.length tac) rfl
                have hs' := Lib.hid hs
                have ht' := Lib.hid ht
                have hown := Lib.hid (fun k hk => (own_ge O1.out (k := k) hk).2.1)
                clear hs ht hB hgt hgs hw2 D2 O1
                go_upto_region 21 with (at_builtin; refine wpListOwn rfl (.tmp 63) (.tmp 65) rfl O2.out B2.out.size rfl _ rfl D3.out (by omega) ?_; intro v3 w3 ho3 hb3 hg3 h43; rw [E1.out] at ho3; obtain ⟨oa3, oc3, rfl⟩ := len_nil ho3)
                have hs3 := Lib.hid ((hg3.block gs (lt_of_heap hs'.out) (fun e => by have := hown.out gs e.symm; omega)).trans hs'.out)
                have ht3 := Lib.hid ((hg3.block gt (lt_of_heap ht'.out) (fun e => by have := hown.out gt e.symm; omega)).trans ht'.out)
                have N3 : Hid ((Value.slice oa3 X1.length oc3).ownBlock ≠ some gs) := Lib.hid (by
                  rcases h43 with e | e
                  · rw [e]; intro e2; have := hown.out gs e2; omega
                  · rw [e]; intro e2; have := Option.some.inj e2; have := lt_of_heap hs'.out; omega)
                have O3 := Lib.hid ho3
                have B3 := Lib.hid (B2.out.trans hb3)
                clear ho3 hg3 hb3 h43 hown hs' ht' O2 D3 B2 k0
                have s0 := cell_of hs3.out 0 (.int .i64 1) rfl
                have s1 := cell_of hs3.out 1 (.int .u8 0) rfl
                have s2 := cell_of hs3.out 2 (.int .i64 0) rfl
                have s3 := cell_of hs3.out 3 (.string ⟨#[]⟩) rfl
                have s4 := cell_of hs3.out 4 (.int .i64 1) rfl
                have s5 := cell_of hs3.out 5 (.int .i64 1) rfl
                have s6 := cell_of hs3.out 6 (.slice ea 0 ec) rfl
                have s7 := cell_of hs3.out 7 (.int .i64 us) rfl
                have s8 := cell_of hs3.out 8 (.int .i64 uz) rfl
                have s9 := cell_of hs3.out 9 (.bool ut) rfl
                have s10 := cell_of hs3.out 10 (str ul) rfl
                have t1 := cell_of ht3.out 1 (.int .i64 3) rfl
                have t2 := cell_of ht3.out 2 (.int .u8 0) rfl
                have t3 := cell_of ht3.out 3 (.int .i64 0) rfl
                have t4 := cell_of ht3.out 4 (.string ⟨#[]⟩) rfl
                have t5 := cell_of ht3.out 5 (.int .i64 3) rfl
                have t6 := cell_of ht3.out 6 (.int .i64 1) rfl
                have t7 := cell_of ht3.out 7 (.slice fa 0 fc) rfl
                have t8 := cell_of ht3.out 8 (.int .i64 0) rfl
                have t9 := cell_of ht3.out 9 (.int .i64 0) rfl
                have t10 := cell_of ht3.out 10 (.bool false) rfl
                have t11 := cell_of ht3.out 11 (str []) rfl
                obtain ⟨Z, qZ⟩ : ∃ M, X1 ++ [Ac.cut] = M := ⟨_, rfl⟩
                have hst4 : Hid (joinR A Q = Z ++ joinR (A.drop (j + 1)) (Q.drop (k + 1))) := Lib.hid (by rw [hst2.out, ← qZ]; simp [joinC])
                have EZ := Lib.hid qZ
                clear qZ hst2
                go_wp2_with (at_builtin; refine wpList_app1 rfl (.tmp 77) (.tmp 80) 123 rfl w4.heap.size 126 11 120 _ elActs RAc _ X1 rfl O3.out (Ac.cut) [.int .i64 3, .int .u8 0, .int .i64 0, .string ⟨#[]⟩, .int .i64 3, .int .i64 1, .slice fa 0 fc, .int .i64 0, .int .i64 0, .bool false, str []] 126 _ rfl (by first | rfl | simp) rfl (fun _ _ => ⟨.slice fa 0 fc, ⟨fa, fc, rfl, hmf⟩, rfl⟩) RAc_one (by unfold maxLen; omega) (by omega) B3.out.size (fun _ _ _ _ _ r => r) ?_; intro v9 w9 ho9 hb9 hz9 hk9; rw [EZ.out] at ho9; obtain ⟨pa9, pc9, rfl⟩ := len_nil ho9)
                go_wp2
                go_roundw
                case rel => exact ⟨j + 1, n - 1, k + 1, _, _, Z, by omega, by go_num, rfl, ho9, hnk2, hnt2, had2, hnc2, hst4, B3.out.trans hb9⟩
                case measure => simp [intOf]; omega
              | keep v =>
                obtain ⟨vs, vz, vt, vl⟩ := v
                have huo : Kd.Ok ⟨us, uz, ut, ul⟩ := hxo.out
                have hw1 := sub_wrap1 huo.s0 huo.s3 hto.out.c0 hto.out.c3
                have hw2 := sub_wrap1 huo.c0 huo.c3 hto.out.s0 hto.out.s3
                dsimp only at hw1 hw2
                clear huo hxo hto
                cases vt with
                | true =>
                    have f0 : wr.cell? ⟨qb, qo + k * 12, none⟩ = some (.slice ta tp.length tac) := hC2 0 _ rfl
                    have f1 : wr.cell? ⟨qb, qo + k * 12 + 1, none⟩ = some (.int .i64 1) := hC2 1 _ rfl
                    have f2 : wr.cell? ⟨qb, qo + k * 12 + 2, none⟩ = some (.int .u8 0) := hC2 2 _ rfl
                    have f3 : wr.cell? ⟨qb, qo + k * 12 + 3, none⟩ = some (.int .i64 0) := hC2 3 _ rfl
                    have f4 : wr.cell? ⟨qb, qo + k * 12 + 4, none⟩ = some (.string ⟨#[]⟩) := hC2 4 _ rfl
                    have f5 : wr.cell? ⟨qb, qo + k * 12 + 5, none⟩ = some (.int .i64 1) := hC2 5 _ rfl
                    have f6 : wr.cell? ⟨qb, qo + k * 12 + 6, none⟩ = some (.int .i64 1) := hC2 6 _ rfl
                    have f7 : wr.cell? ⟨qb, qo + k * 12 + 7, none⟩ = some (.slice fa 0 fc) := hC2 7 _ rfl
                    have f8 : wr.cell? ⟨qb, qo + k * 12 + 8, none⟩ = some (.int .i64 vs) := hC2 8 _ rfl
                    have f9 : wr.cell? ⟨qb, qo + k * 12 + 9, none⟩ = some (.int .i64 vz) := hC2 9 _ rfl
                    have f10 : wr.cell? ⟨qb, qo + k * 12 + 10, none⟩ = some (.bool true) := hC2 10 _ rfl
                    have f11 : wr.cell? ⟨qb, qo + k * 12 + 11, none⟩ = some (str vl) := hC2 11 _ rfl
                    go_upto_region 20 with fail
                    rw [hqq'.out]
                    have hs := ((bal (brf (wr.alloc (.cells #[.int .i64 1, .int .u8 0, .int .i64 0, .string ⟨#[]⟩, .int .i64 1, .int .i64 1, .slice ea 0 ec, .int .i64 us, .int .i64 uz, .bool ut, str ul] 126))) (.cells #[.slice ta tp.length tac, .int .i64 1, .int .u8 0, .int .i64 0, .string ⟨#[]⟩, .int .i64 1, .int .i64 1, .slice fa 0 fc, .int .i64 vs, .int .i64 vz, .bool true, str vl] 147)).block wr.heap.size (by simp)).trans (heap_new wr (.cells #[.int .i64 1, .int .u8 0, .int .i64 0, .string ⟨#[]⟩, .int .i64 1, .int .i64 1, .slice ea 0 ec, .int .i64 us, .int .i64 uz, .bool ut, str ul] 126))
                    have ht := heap_new (wr.alloc (.cells #[.int .i64 1, .int .u8 0, .int .i64 0, .string ⟨#[]⟩, .int .i64 1, .int .i64 1, .slice ea 0 ec, .int .i64 us, .int .i64 uz, .bool ut, str ul] 126)) (.cells #[.slice ta tp.length tac, .int .i64 1, .int .u8 0, .int .i64 0, .string ⟨#[]⟩, .int .i64 1, .int .i64 1, .slice fa 0 fc, .int .i64 vs, .int .i64 vz, .bool true, str vl] 147)
                    have hB := bal (bal (brf wr) (.cells #[.int .i64 1, .int .u8 0, .int .i64 0, .string ⟨#[]⟩, .int .i64 1, .int .i64 1, .slice ea 0 ec, .int .i64 us, .int .i64 uz, .bool ut, str ul] 126)) (.cells #[.slice ta tp.length tac, .int .i64 1, .int .u8 0, .int .i64 0, .string ⟨#[]⟩, .int .i64 1, .int .i64 1, .slice fa 0 fc, .int .i64 vs, .int .i64 vz, .bool true, str vl] 147)
                    generalize hw2 : (wr.alloc (.cells #[.int .i64 1, .int .u8 0, .int .i64 0, .string ⟨#[]⟩, .int .i64 1, .int .i64 1, .slice ea 0 ec, .int .i64 us, .int .i64 uz, .bool ut, str ul] 126)).alloc (.cells #[.slice ta tp.length tac, .int .i64 1, .int .u8 0, .int .i64 0, .string ⟨#[]⟩, .int .i64 1, .int .i64 1, .slice fa 0 fc, .int .i64 vs, .int .i64 vz, .bool true, str vl] 147) = w2' at *
                    obtain ⟨gt, hgt⟩ : ∃ g, g = (wr.alloc (.cells #[.int .i64 1, .int .u8 0, .int .i64 0, .string ⟨#[]⟩, .int .i64 1, .int .i64 1, .slice ea 0 ec, .int .i64 us, .int .i64 uz, .bool ut, str ul] 126)).heap.size := ⟨_, rfl⟩
                    obtain ⟨gs, hgs⟩ : ∃ g, g = wr.heap.size := ⟨_, rfl⟩
                    have hgg : gs ≤ gt := by rw [hgs, hgt]; simp
                    rw [← hgt] at ht
                    rw [← hgs] at hs
                    clear hC2 c0 c1 c2 c3 c4 c5 c6 c7 c8 c9 c10 f0 f1 f2 f3 f4 f5 f6 f7 f8 f9 f10 f11
                    first
                      | rw [← hgt, ← hgs]
                      | (simp only [World.size_alloc, ← hgs] at hgt ⊢; rw [← hgt])
                    have hgs' : wr.heap.size ≤ gs := by omega
                    have O2 := Lib.hid (O1.out.to hB)
                    have D3 := Lib.hid (RActs.to D2.out (Kp.below (btr (btr HB2.out hb) hB)))
                    have B2 := Lib.hid (hb.trans (hB.mono hb.size))
                    have k0 := cell_of ht 0 (.slice ta tp.length tac) rfl
                    have hs' := Lib.hid hs
                    have ht' := Lib.hid ht
                    have hown := Lib.hid (fun k hk => (own_ge O1.out (k := k) hk).2.1)
                    clear hs ht hB hgt hgs hw2 D2 O1
                    go_upto_region 21 with (at_builtin; refine wpListOwn rfl (.tmp 63) (.tmp 65) rfl O2.out B2.out.size rfl _ rfl D3.out (by omega) ?_; intro v3 w3 ho3 hb3 hg3 h43; rw [E1.out] at ho3; obtain ⟨oa3, oc3, rfl⟩ := len_nil ho3)
                    have hs3 := Lib.hid ((hg3.block gs (lt_of_heap hs'.out) (fun e => by have := hown.out gs e.symm; omega)).trans hs'.out)
                    have ht3 := Lib.hid ((hg3.block gt (lt_of_heap ht'.out) (fun e => by have := hown.out gt e.symm; omega)).trans ht'.out)
                    have N3 : Hid ((Value.slice oa3 X1.length oc3).ownBlock ≠ some gs) := Lib.hid (by
                      rcases h43 with e | e
                      · rw [e]; intro e2; have := hown.out gs e2; omega
                      · rw [e]; intro e2; have := Option.some.inj e2; have := lt_of_heap hs'.out; omega)
                    have O3 := Lib.hid ho3
                    have B3 := Lib.hid (B2.out.trans hb3)
                    clear ho3 hg3 hb3 h43 hown hs' ht' O2 D3 B2 k0
                    have s0 := cell_of hs3.out 0 (.int .i64 1) rfl
                    have s1 := cell_of hs3.out 1 (.int .u8 0) rfl
                    have s2 := cell_of hs3.out 2 (.int .i64 0) rfl
                    have s3 := cell_of hs3.out 3 (.string ⟨#[]⟩) rfl
                    have s4 := cell_of hs3.out 4 (.int .i64 1) rfl
                    have s5 := cell_of hs3.out 5 (.int .i64 1) rfl
                    have s6 := cell_of hs3.out 6 (.slice ea 0 ec) rfl
                    have s7 := cell_of hs3.out 7 (.int .i64 us) rfl
                    have s8 := cell_of hs3.out 8 (.int .i64 uz) rfl
                    have s9 := cell_of hs3.out 9 (.bool ut) rfl
                    have s10 := cell_of hs3.out 10 (str ul) rfl
                    have t1 := cell_of ht3.out 1 (.int .i64 1) rfl
                    have t2 := cell_of ht3.out 2 (.int .u8 0) rfl
                    have t3 := cell_of ht3.out 3 (.int .i64 0) rfl
                    have t4 := cell_of ht3.out 4 (.string ⟨#[]⟩) rfl
                    have t5 := cell_of ht3.out 5 (.int .i64 1) rfl
                    have t6 := cell_of ht3.out 6 (.int .i64 1) rfl
                    have t7 := cell_of ht3.out 7 (.slice fa 0 fc) rfl
                    have t8 := cell_of ht3.out 8 (.int .i64 vs) rfl
                    have t9 := cell_of ht3.out 9 (.int .i64 vz) rfl
                    have t10 := cell_of ht3.out 10 (.bool true) rfl
                    have t11 := cell_of ht3.out 11 (str vl) rfl
                    obtain ⟨Z, qZ⟩ : ∃ M, X1 ++ [Ac.keep (bothK ⟨us, uz, ut, ul⟩ ⟨vs, vz, true, vl⟩)] = M := ⟨_, rfl⟩
                    have hst4 : Hid (joinR A Q = Z ++ joinR (A.drop (j + 1)) (Q.drop (k + 1))) := Lib.hid (by rw [hst2.out, ← qZ]; simp [joinC])
                    have EZ := Lib.hid qZ
                    clear qZ hst2
                    go_upto_region 25 with fail
                    have hz := heap_new w3 (.cells #[.int .i64 1, .int .u8 0, .int .i64 0, .string ⟨#[]⟩, .int .i64 1, .int .i64 1, .slice ea 0 ec, .int .i64 us, .int .i64 uz, .bool ut, str ul] 126)
                    have Bz := bal (brf w3) (.cells #[.int .i64 1, .int .u8 0, .int .i64 0, .string ⟨#[]⟩, .int .i64 1, .int .i64 1, .slice ea 0 ec, .int .i64 us, .int .i64 uz, .bool ut, str ul] 126)
                    generalize hw15 : w3.alloc (.cells #[.int .i64 1, .int .u8 0, .int .i64 0, .string ⟨#[]⟩, .int .i64 1, .int .i64 1, .slice ea 0 ec, .int .i64 us, .int .i64 uz, .bool ut, str ul] 126) = w15 at *
                    obtain ⟨gz, hgz⟩ : ∃ g, g = w3.heap.size := ⟨_, rfl⟩
                    have hgz' : w3.heap.size ≤ gz := by omega
                    rw [← hgz] at hz ⊢
                    have hz15 := Lib.hid hz
                    have Bz15 := Lib.hid Bz
                    clear s0 s1 s2 s3 s4 s5 s6 s7 s8 s9 s10 t1 t2 t3 t4 t5 t6 t7 t8 t9 t10 t11 hw15 hgz hz Bz
                    have x7 := cell_of hz15.out 7 (.int .i64 us) rfl
                    have y7 := fz_of hz15.out 7
                    have hG := (Bz15.out.block gs (lt_of_heap hs3.out)).trans hs3.out
                    have hI := (Bz15.out.block gt (lt_of_heap ht3.out)).trans ht3.out
                    have s7 := cell_of hG 7 (.int .i64 us) rfl
                    have s8 := cell_of hG 8 (.int .i64 uz) rfl
                    have t8 := cell_of hI 8 (.int .i64 vs) rfl
                    have t9 := cell_of hI 9 (.int .i64 vz) rfl
                    have t10 := cell_of hI 10 (.bool true) rfl
                    have t11 := cell_of hI 11 (str vl) rfl
                    clear hG hI
                    go_upto_region 26 with fail
                    have hz := heap_setCell_same w15 gz 7 _ _ (.int .i64 (bor (bnot us vz) vs)) hz15.out
                    have Bz := Bz15.out.setCell (p := ⟨gz, 7, none⟩) hgz' (.int .i64 (bor (bnot us vz) vs))
                    generalize w15.setCell ⟨gz, 7, none⟩ (.int .i64 (bor (bnot us vz) vs)) = w16 at *
                    have hz16 : Hid (w16.heap[gz]? = some (.cells #[.int .i64 1, .int .u8 0, .int .i64 0, .string ⟨#[]⟩, .int .i64 1, .int .i64 1, .slice ea 0 ec, .int .i64 (bor (bnot us vz) vs), .int .i64 uz, .bool ut, str ul] 126 (0, 0))) := Lib.hid (by simpa using hz)
                    have Bz16 := Lib.hid Bz
                    clear x7 y7 s7 s8 t8 t9 t10 t11 hz Bz hz15 Bz15
                    have x8 := cell_of hz16.out 8 (.int .i64 uz) rfl
                    have y8 := fz_of hz16.out 8
                    have hG := (Bz16.out.block gs (lt_of_heap hs3.out)).trans hs3.out
                    have hI := (Bz16.out.block gt (lt_of_heap ht3.out)).trans ht3.out
                    have s7 := cell_of hG 7 (.int .i64 us) rfl
                    have s8 := cell_of hG 8 (.int .i64 uz) rfl
                    have t8 := cell_of hI 8 (.int .i64 vs) rfl
                    have t9 := cell_of hI 9 (.int .i64 vz) rfl
                    have t10 := cell_of hI 10 (.bool true) rfl
                    have t11 := cell_of hI 11 (str vl) rfl
                    clear hG hI
                    go_upto_region 27 with fail
                    have hz := heap_setCell_same w16 gz 8 _ _ (.int .i64 (bor (bnot uz vs) vz)) hz16.out
                    have Bz := Bz16.out.setCell (p := ⟨gz, 8, none⟩) hgz' (.int .i64 (bor (bnot uz vs) vz))
                    generalize w16.setCell ⟨gz, 8, none⟩ (.int .i64 (bor (bnot uz vs) vz)) = w17 at *
                    have hz17 : Hid (w17.heap[gz]? = some (.cells #[.int .i64 1, .int .u8 0, .int .i64 0, .string ⟨#[]⟩, .int .i64 1, .int .i64 1, .slice ea 0 ec, .int .i64 (bor (bnot us vz) vs), .int .i64 (bor (bnot uz vs) vz), .bool ut, str ul] 126 (0, 0))) := Lib.hid (by simpa using hz)
                    have Bz17 := Lib.hid Bz
                    clear x8 y8 s7 s8 t8 t9 t10 t11 hz Bz hz16 Bz16
                    have hG := (Bz17.out.block gs (lt_of_heap hs3.out)).trans hs3.out
                    have hI := (Bz17.out.block gt (lt_of_heap ht3.out)).trans ht3.out
                    have s7 := cell_of hG 7 (.int .i64 us) rfl
                    have s8 := cell_of hG 8 (.int .i64 uz) rfl
                    have t8 := cell_of hI 8 (.int .i64 vs) rfl
                    have t9 := cell_of hI 9 (.int .i64 vz) rfl
                    have t10 := cell_of hI 10 (.bool true) rfl
                    have t11 := cell_of hI 11 (str vl) rfl
                    clear hG hI
                    go_upto_region 28 with fail
                    have SS := (Bz17.out.block gt (lt_of_heap ht3.out)).trans ht3.out
                    have SD : w17.drew.heap[gt]? = some (.cells #[.slice ta tp.length tac, .int .i64 1, .int .u8 0, .int .i64 0, .string ⟨#[]⟩, .int .i64 1, .int .i64 1, .slice fa 0 fc, .int .i64 vs, .int .i64 vz, .bool true, str vl] 147 (0, 0)) := SS
                    have zd : w17.drew.heap[gz]? = some (.cells #[.int .i64 1, .int .u8 0, .int .i64 0, .string ⟨#[]⟩, .int .i64 1, .int .i64 1, .slice ea 0 ec, .int .i64 (bor (bnot us vz) vs), .int .i64 (bor (bnot uz vs) vz), .bool ut, str ul] 126 (0, 0)) := hz17.out
                    have Bd : Below w3.heap.size w3 w17.drew := Bz17.out.drew
                    clear s7 s8 t8 t9 t10 t11
                    refine wp_region_held (S := fun w' => w'.heap[gt]? = some (.cells #[.slice ta tp.length tac, .int .i64 1, .int .u8 0, .int .i64 0, .string ⟨#[]⟩, .int .i64 1, .int .i64 1, .slice fa 0 fc, .int .i64 vs, .int .i64 vz, .bool true, str vl] 147 (0, 0))) (by kernel_rfl) ?_
                    show wpAnyH _ _ _ _ _ _ _ _ w17.drew
                    generalize w17.drew = wd at *
                    have hgt : gt ≠ gz := fun e => by have := lt_of_heap ht3.out; omega
                    refine wpAnyH_takeD 0 129 (v := ?_) rfl rfl (by kernel_rfl) (by kernel_rfl) (by kernel_rfl) (fun _ _ _ h => h) (Or.inl ⟨by rfl, ?_⟩) SD ?_
                    rotate_left
                    · (intro w' hw'; (try dsimp only at hw'); go_simp; try with_reducible rfl)
                    simp only [List.set_cons_zero, List.set_cons_succ]
                    refine wpAnyH_takeD 1 130 (v := ?_) rfl rfl (by kernel_rfl) (by kernel_rfl) (by kernel_rfl) (fun _ _ _ h => h) (Or.inl ⟨by rfl, ?_⟩) SD ?_
                    rotate_left
                    · (intro w' hw'; (try dsimp only at hw'); go_simp; try with_reducible rfl)
                    simp only [List.set_cons_zero, List.set_cons_succ]
                    refine wpAnyH_takeD 2 131 (v := ?_) rfl rfl (by kernel_rfl) (by kernel_rfl) (by kernel_rfl) (fun _ _ _ h => h) (Or.inl ⟨by rfl, ?_⟩) SD ?_
                    rotate_left
                    · (intro w' hw'; (try dsimp only at hw'); go_simp; try with_reducible rfl)
                    simp only [List.set_cons_zero, List.set_cons_succ]
                    refine wpAnyH_takeD 3 132 (v := ?_) rfl rfl (by kernel_rfl) (by kernel_rfl) (by kernel_rfl) (fun _ _ _ h => h) (Or.inl ⟨by rfl, ?_⟩) SD ?_
                    rotate_left
                    · (intro w' hw'; have k0 := cell_of hw' 11 (str vl) rfl; (try dsimp only at hw'); go_simp; try with_reducible rfl)
                    simp only [List.set_cons_zero, List.set_cons_succ]
                    refine wpAnyH_takeD 4 133 (v := ?_) rfl rfl (by kernel_rfl) (by kernel_rfl) (by kernel_rfl) (fun _ _ _ h => h) (Or.inl ⟨by rfl, ?_⟩) SD ?_
                    rotate_left
                    · (intro w' hw'; (try dsimp only at hw'); go_simp; try with_reducible rfl)
                    simp only [List.set_cons_zero, List.set_cons_succ]
                    refine wpAnyH_takeD 5 134 (v := ?_) rfl rfl (by kernel_rfl) (by kernel_rfl) (by kernel_rfl) (fun _ _ _ h => h) (Or.inl ⟨by rfl, ?_⟩) SD ?_
                    rotate_left
                    · (intro w' hw'; (try dsimp only at hw'); go_simp; try with_reducible rfl)
                    simp only [List.set_cons_zero, List.set_cons_succ]
                    have x9 := cell_of zd 9 (.bool ut) rfl
                    have y9 := fz_of zd 9
                    have zd2 := heap_setCell_same wd gz 9 _ _ (.bool true) zd
                    have S2 := (heap_setCell_other wd ⟨gz, 9, none⟩ gt (.bool true) hgt).trans SD
                    have Bd2 := Bd.setCell (p := ⟨gz, 9, none⟩) hgz' (.bool true)
                    refine wpAnyH_step 6 rfl (by kernel_rfl) (fun K' hK' => ?_)
                    refine Eq.mpr (if_pos rfl) ?_
                    go_simp
                    refine hK'.out _ _ S2 ?_
                    clear hK' K' x9 y9
                    generalize wd.setCell ⟨gz, 9, none⟩ (.bool true) = w18 at *
                    have zd3 : w18.heap[gz]? = some (.cells #[.int .i64 1, .int .u8 0, .int .i64 0, .string ⟨#[]⟩, .int .i64 1, .int .i64 1, .slice ea 0 ec, .int .i64 (bor (bnot us vz) vs), .int .i64 (bor (bnot uz vs) vz), .bool true, str ul] 126 (0, 0)) := by simpa using zd2
                    refine wpAnyH_takeD 7 135 (v := ?_) rfl rfl (by kernel_rfl) (by kernel_rfl) (by kernel_rfl) (fun _ _ _ h => h) (Or.inl ⟨by rfl, ?_⟩) S2 ?_
                    rotate_left
                    · (intro w' hw'; (try dsimp only at hw'); go_simp; try with_reducible rfl)
                    simp only [List.set_cons_zero, List.set_cons_succ]
                    refine wpAnyH_takeD 8 136 (v := ?_) rfl rfl (by kernel_rfl) (by kernel_rfl) (by kernel_rfl) (fun _ _ _ h => h) (Or.inl ⟨by rfl, ?_⟩) S2 ?_
                    rotate_left
                    · (intro w' hw'; (try dsimp only at hw'); go_simp; try with_reducible rfl)
                    simp only [List.set_cons_zero, List.set_cons_succ]
                    have x10 := cell_of zd3 10 (str ul) rfl
                    have y10 := fz_of zd3 10
                    have zd4 := heap_setCell_same w18 gz 10 _ _ (str vl) zd3
                    have S3 := (heap_setCell_other w18 ⟨gz, 10, none⟩ gt (str vl) hgt).trans S2
                    have Bz19 := Lib.hid (Bd2.setCell (p := ⟨gz, 10, none⟩) hgz' (str vl))
                    refine wpAnyH_step 9 rfl (by kernel_rfl) (fun K' hK' => ?_)
                    refine Eq.mpr (if_pos rfl) ?_
                    go_simp
                    refine hK'.out _ _ S3 ?_
                    clear hK' K' x10 y10
                    generalize w18.setCell ⟨gz, 10, none⟩ (str vl) = w19 at *
                    have hz19 : Hid (w19.heap[gz]? = some (.cells #[.int .i64 1, .int .u8 0, .int .i64 0, .string ⟨#[]⟩, .int .i64 1, .int .i64 1, .slice ea 0 ec, .int .i64 (bor (bnot us vz) vs), .int .i64 (bor (bnot uz vs) vz), .bool true, str vl] 126 (0, 0))) := Lib.hid (by simpa using zd4)
                    refine wpAnyH_done (by kernel_rfl) ?_ _
                    clear zd zd2 zd3 zd4 SD S2 S3 SS Bd Bd2 hz17
                    have x0 := cell_of hz19.out 0 (.int .i64 1) rfl
                    have x1 := cell_of hz19.out 1 (.int .u8 0) rfl
                    have x2 := cell_of hz19.out 2 (.int .i64 0) rfl
                    have x3 := cell_of hz19.out 3 (.string ⟨#[]⟩) rfl
                    have x4 := cell_of hz19.out 4 (.int .i64 1) rfl
                    have x5 := cell_of hz19.out 5 (.int .i64 1) rfl
                    have x6 := cell_of hz19.out 6 (.slice ea 0 ec) rfl
                    have x7 := cell_of hz19.out 7 (.int .i64 (bor (bnot us vz) vs)) rfl
                    have x8 := cell_of hz19.out 8 (.int .i64 (bor (bnot uz vs) vz)) rfl
                    have x9 := cell_of hz19.out 9 (.bool true) rfl
                    have x10 := cell_of hz19.out 10 (str vl) rfl
                    have O4 := Lib.hid (O3.out.to Bz19.out)
                    have B4 := Lib.hid (B3.out.trans (Bz19.out.mono B3.out.size))
                    go_wp2_with (at_builtin; refine wpList_app1 rfl (.tmp 137) (.tmp 139) 123 rfl w4.heap.size 126 11 120 _ elActs RAc _ X1 rfl O4.out (Ac.keep (bothK ⟨us, uz, ut, ul⟩ ⟨vs, vz, true, vl⟩)) [.int .i64 1, .int .u8 0, .int .i64 0, .string ⟨#[]⟩, .int .i64 1, .int .i64 1, .slice ea 0 ec, .int .i64 (bor (bnot us vz) vs), .int .i64 (bor (bnot uz vs) vz), .bool true, str vl] 126 _ rfl (by first | rfl | simp) rfl (fun _ _ => ⟨.slice ea 0 ec, ⟨ea, ec, rfl, hme⟩, rfl⟩) RAc_one (by unfold maxLen; omega) (by omega) B4.out.size (fun _ _ _ _ _ r => r) ?_; intro v9 w9 ho9 hb9 hz9 hk9; rw [EZ.out] at ho9; obtain ⟨pa9, pc9, rfl⟩ := len_nil ho9)
                    go_wp2
                    go_roundw
                    case rel => exact ⟨j + 1, n - 1, k + 1, _, _, Z, by omega, by go_num, rfl, ho9, hnk2, hnt2, had2, hnc2, hst4, B4.out.trans hb9⟩
                    case measure => simp [intOf]; omega
                | false =>
                    have f0 : wr.cell? ⟨qb, qo + k * 12, none⟩ = some (.slice ta tp.length tac) := hC2 0 _ rfl
                    have f1 : wr.cell? ⟨qb, qo + k * 12 + 1, none⟩ = some (.int .i64 1) := hC2 1 _ rfl
                    have f2 : wr.cell? ⟨qb, qo + k * 12 + 2, none⟩ = some (.int .u8 0) := hC2 2 _ rfl
                    have f3 : wr.cell? ⟨qb, qo + k * 12 + 3, none⟩ = some (.int .i64 0) := hC2 3 _ rfl
                    have f4 : wr.cell? ⟨qb, qo + k * 12 + 4, none⟩ = some (.string ⟨#[]⟩) := hC2 4 _ rfl
                    have f5 : wr.cell? ⟨qb, qo + k * 12 + 5, none⟩ = some (.int .i64 1) := hC2 5 _ rfl
                    have f6 : wr.cell? ⟨qb, qo + k * 12 + 6, none⟩ = some (.int .i64 1) := hC2 6 _ rfl
                    have f7 : wr.cell? ⟨qb, qo + k * 12 + 7, none⟩ = some (.slice fa 0 fc) := hC2 7 _ rfl
                    have f8 : wr.cell? ⟨qb, qo + k * 12 + 8, none⟩ = some (.int .i64 vs) := hC2 8 _ rfl
                    have f9 : wr.cell? ⟨qb, qo + k * 12 + 9, none⟩ = some (.int .i64 vz) := hC2 9 _ rfl
                    have f10 : wr.cell? ⟨qb, qo + k * 12 + 10, none⟩ = some (.bool false) := hC2 10 _ rfl
                    have f11 : wr.cell? ⟨qb, qo + k * 12 + 11, none⟩ = some (str vl) := hC2 11 _ rfl
                    go_upto_region 20 with fail
                    rw [hqq'.out]
                    have hs := ((bal (brf (wr.alloc (.cells #[.int .i64 1, .int .u8 0, .int .i64 0, .string ⟨#[]⟩, .int .i64 1, .int .i64 1, .slice ea 0 ec, .int .i64 us, .int .i64 uz, .bool ut, str ul] 126))) (.cells #[.slice ta tp.length tac, .int .i64 1, .int .u8 0, .int .i64 0, .string ⟨#[]⟩, .int .i64 1, .int .i64 1, .slice fa 0 fc, .int .i64 vs, .int .i64 vz, .bool false, str vl] 147)).block wr.heap.size (by simp)).trans (heap_new wr (.cells #[.int .i64 1, .int .u8 0, .int .i64 0, .string ⟨#[]⟩, .int .i64 1, .int .i64 1, .slice ea 0 ec, .int .i64 us, .int .i64 uz, .bool ut, str ul] 126))
                    have ht := heap_new (wr.alloc (.cells #[.int .i64 1, .int .u8 0, .int .i64 0, .string ⟨#[]⟩, .int .i64 1, .int .i64 1, .slice ea 0 ec, .int .i64 us, .int .i64 uz, .bool ut, str ul] 126)) (.cells #[.slice ta tp.length tac, .int .i64 1, .int .u8 0, .int .i64 0, .string ⟨#[]⟩, .int .i64 1, .int .i64 1, .slice fa 0 fc, .int .i64 vs, .int .i64 vz, .bool false, str vl] 147)
                    have hB := bal (bal (brf wr) (.cells #[.int .i64 1, .int .u8 0, .int .i64 0, .string ⟨#[]⟩, .int .i64 1, .int .i64 1, .slice ea 0 ec, .int .i64 us, .int .i64 uz, .bool ut, str ul] 126)) (.cells #[.slice ta tp.length tac, .int .i64 1, .int .u8 0, .int .i64 0, .string ⟨#[]⟩, .int .i64 1, .int .i64 1, .slice fa 0 fc, .int .i64 vs, .int .i64 vz, .bool false, str vl] 147)
                    generalize hw2 : (wr.alloc (.cells #[.int .i64 1, .int .u8 0, .int .i64 0, .string ⟨#[]⟩, .int .i64 1, .int .i64 1, .slice ea 0 ec, .int .i64 us, .int .i64 uz, .bool ut, str ul] 126)).alloc (.cells #[.slice ta tp.length tac, .int .i64 1, .int .u8 0, .int .i64 0, .string ⟨#[]⟩, .int .i64 1, .int .i64 1, .slice fa 0 fc, .int .i64 vs, .int .i64 vz, .bool false, str vl] 147) = w2' at *
                    obtain ⟨gt, hgt⟩ : ∃ g, g = (wr.alloc (.cells #[.int .i64 1, .int .u8 0, .int .i64 0, .string ⟨#[]⟩, .int .i64 1, .int .i64 1, .slice ea 0 ec, .int .i64 us, .int .i64 uz, .bool ut, str ul] 126)).heap.size := ⟨_, rfl⟩
                    obtain ⟨gs, hgs⟩ : ∃ g, g = wr.heap.size := ⟨_, rfl⟩
                    have hgg : gs ≤ gt := by rw [hgs, hgt]; simp
                    rw [← hgt] at ht
                    rw [← hgs] at hs
                    clear hC2 c0 c1 c2 c3 c4 c5 c6 c7 c8 c9 c10 f0 f1 f2 f3 f4 f5 f6 f7 f8 f9 f10 f11
                    first
                      | rw [← hgt, ← hgs]
                      | (simp only [World.size_alloc, ← hgs] at hgt ⊢; rw [← hgt])
                    have hgs' : wr.heap.size ≤ gs := by omega
                    have O2 := Lib.hid (O1.out.to hB)
                    have D3 := Lib.hid (RActs.to D2.out (Kp.below (btr (btr HB2.out hb) hB)))
                    have B2 := Lib.hid (hb.trans (hB.mono hb.size))
                    have k0 := cell_of ht 0 (.slice ta tp.length tac) rfl
                    have hs' := Lib.hid hs
                    have ht' := Lib.hid ht
                    have hown := Lib.hid (fun k hk => (own_ge O1.out (k := k) hk).2.1)
                    clear hs ht hB hgt hgs hw2 D2 O1
                    go_upto_region 21 with (at_builtin; refine wpListOwn rfl (.tmp 63) (.tmp 65) rfl O2.out B2.out.size rfl _ rfl D3.out (by omega) ?_; intro v3 w3 ho3 hb3 hg3 h43; rw [E1.out] at ho3; obtain ⟨oa3, oc3, rfl⟩ := len_nil ho3)
                    have hs3 := Lib.hid ((hg3.block gs (lt_of_heap hs'.out) (fun e => by have := hown.out gs e.symm; omega)).trans hs'.out)
                    have ht3 := Lib.hid ((hg3.block gt (lt_of_heap ht'.out) (fun e => by have := hown.out gt e.symm; omega)).trans ht'.out)
                    have N3 : Hid ((Value.slice oa3 X1.length oc3).ownBlock ≠ some gs) := Lib.hid (by
                      rcases h43 with e | e
                      · rw [e]; intro e2; have := hown.out gs e2; omega
                      · rw [e]; intro e2; have := Option.some.inj e2; have := lt_of_heap hs'.out; omega)
                    have O3 := Lib.hid ho3
                    have B3 := Lib.hid (B2.out.trans hb3)
                    clear ho3 hg3 hb3 h43 hown hs' ht' O2 D3 B2 k0
                    have s0 := cell_of hs3.out 0 (.int .i64 1) rfl
                    have s1 := cell_of hs3.out 1 (.int .u8 0) rfl
                    have s2 := cell_of hs3.out 2 (.int .i64 0) rfl
                    have s3 := cell_of hs3.out 3 (.string ⟨#[]⟩) rfl
                    have s4 := cell_of hs3.out 4 (.int .i64 1) rfl
                    have s5 := cell_of hs3.out 5 (.int .i64 1) rfl
                    have s6 := cell_of hs3.out 6 (.slice ea 0 ec) rfl
                    have s7 := cell_of hs3.out 7 (.int .i64 us) rfl
                    have s8 := cell_of hs3.out 8 (.int .i64 uz) rfl
                    have s9 := cell_of hs3.out 9 (.bool ut) rfl
                    have s10 := cell_of hs3.out 10 (str ul) rfl
                    have t1 := cell_of ht3.out 1 (.int .i64 1) rfl
                    have t2 := cell_of ht3.out 2 (.int .u8 0) rfl
                    have t3 := cell_of ht3.out 3 (.int .i64 0) rfl
                    have t4 := cell_of ht3.out 4 (.string ⟨#[]⟩) rfl
                    have t5 := cell_of ht3.out 5 (.int .i64 1) rfl
                    have t6 := cell_of ht3.out 6 (.int .i64 1) rfl
                    have t7 := cell_of ht3.out 7 (.slice fa 0 fc) rfl
                    have t8 := cell_of ht3.out 8 (.int .i64 vs) rfl
                    have t9 := cell_of ht3.out 9 (.int .i64 vz) rfl
                    have t10 := cell_of ht3.out 10 (.bool false) rfl
                    have t11 := cell_of ht3.out 11 (str vl) rfl
                    obtain ⟨Z, qZ⟩ : ∃ M, X1 ++ [Ac.keep (bothK ⟨us, uz, ut, ul⟩ ⟨vs, vz, false, vl⟩)] = M := ⟨_, rfl⟩
                    have hst4 : Hid (joinR A Q = Z ++ joinR (A.drop (j + 1)) (Q.drop (k + 1))) := Lib.hid (by rw [hst2.out, ← qZ]; simp [joinC])
                    have EZ := Lib.hid qZ
                    clear qZ hst2
                    go_upto_region 25 with fail
                    have hz := heap_new w3 (.cells #[.int .i64 1, .int .u8 0, .int .i64 0, .string ⟨#[]⟩, .int .i64 1, .int .i64 1, .slice ea 0 ec, .int .i64 us, .int .i64 uz, .bool ut, str ul] 126)
                    have Bz := bal (brf w3) (.cells #[.int .i64 1, .int .u8 0, .int .i64 0, .string ⟨#[]⟩, .int .i64 1, .int .i64 1, .slice ea 0 ec, .int .i64 us, .int .i64 uz, .bool ut, str ul] 126)
                    generalize hw15 : w3.alloc (.cells #[.int .i64 1, .int .u8 0, .int .i64 0, .string ⟨#[]⟩, .int .i64 1, .int .i64 1, .slice ea 0 ec, .int .i64 us, .int .i64 uz, .bool ut, str ul] 126) = w15 at *
                    obtain ⟨gz, hgz⟩ : ∃ g, g = w3.heap.size := ⟨_, rfl⟩
                    have hgz' : w3.heap.size ≤ gz := by omega
                    rw [← hgz] at hz ⊢
                    have hz15 := Lib.hid hz
                    have Bz15 := Lib.hid Bz
                    clear s0 s1 s2 s3 s4 s5 s6 s7 s8 s9 s10 t1 t2 t3 t4 t5 t6 t7 t8 t9 t10 t11 hw15 hgz hz Bz
                    have x7 := cell_of hz15.out 7 (.int .i64 us) rfl
                    have y7 := fz_of hz15.out 7
                    have hG := (Bz15.out.block gs (lt_of_heap hs3.out)).trans hs3.out
                    have hI := (Bz15.out.block gt (lt_of_heap ht3.out)).trans ht3.out
                    have s7 := cell_of hG 7 (.int .i64 us) rfl
                    have s8 := cell_of hG 8 (.int .i64 uz) rfl
                    have t8 := cell_of hI 8 (.int .i64 vs) rfl
                    have t9 := cell_of hI 9 (.int .i64 vz) rfl
                    have t10 := cell_of hI 10 (.bool false) rfl
                    have t11 := cell_of hI 11 (str vl) rfl
                    clear hG hI
                    go_upto_region 26 with fail
                    have hz := heap_setCell_same w15 gz 7 _ _ (.int .i64 (bor (bnot us vz) vs)) hz15.out
                    have Bz := Bz15.out.setCell (p := ⟨gz, 7, none⟩) hgz' (.int .i64 (bor (bnot us vz) vs))
                    generalize w15.setCell ⟨gz, 7, none⟩ (.int .i64 (bor (bnot us vz) vs)) = w16 at *
                    have hz16 : Hid (w16.heap[gz]? = some (.cells #[.int .i64 1, .int .u8 0, .int .i64 0, .string ⟨#[]⟩, .int .i64 1, .int .i64 1, .slice ea 0 ec, .int .i64 (bor (bnot us vz) vs), .int .i64 uz, .bool ut, str ul] 126 (0, 0))) := Lib.hid (by simpa using hz)
                    have Bz16 := Lib.hid Bz
                    clear x7 y7 s7 s8 t8 t9 t10 t11 hz Bz hz15 Bz15
                    have x8 := cell_of hz16.out 8 (.int .i64 uz) rfl
                    have y8 := fz_of hz16.out 8
                    have hG := (Bz16.out.block gs (lt_of_heap hs3.out)).trans hs3.out
                    have hI := (Bz16.out.block gt (lt_of_heap ht3.out)).trans ht3.out
                    have s7 := cell_of hG 7 (.int .i64 us) rfl
                    have s8 := cell_of hG 8 (.int .i64 uz) rfl
                    have t8 := cell_of hI 8 (.int .i64 vs) rfl
                    have t9 := cell_of hI 9 (.int .i64 vz) rfl
                    have t10 := cell_of hI 10 (.bool false) rfl
                    have t11 := cell_of hI 11 (str vl) rfl
                    clear hG hI
                    go_upto_region 27 with fail
                    have hz := heap_setCell_same w16 gz 8 _ _ (.int .i64 (bor (bnot uz vs) vz)) hz16.out
                    have Bz := Bz16.out.setCell (p := ⟨gz, 8, none⟩) hgz' (.int .i64 (bor (bnot uz vs) vz))
                    generalize w16.setCell ⟨gz, 8, none⟩ (.int .i64 (bor (bnot uz vs) vz)) = w17 at *
                    have hz17 : Hid (w17.heap[gz]? = some (.cells #[.int .i64 1, .int .u8 0, .int .i64 0, .string ⟨#[]⟩, .int .i64 1, .int .i64 1, .slice ea 0 ec, .int .i64 (bor (bnot us vz) vs), .int .i64 (bor (bnot uz vs) vz), .bool ut, str ul] 126 (0, 0))) := Lib.hid (by simpa using hz)
                    have Bz17 := Lib.hid Bz
                    clear x8 y8 s7 s8 t8 t9 t10 t11 hz Bz hz16 Bz16
                    have hG := (Bz17.out.block gs (lt_of_heap hs3.out)).trans hs3.out
                    have hI := (Bz17.out.block gt (lt_of_heap ht3.out)).trans ht3.out
                    have s7 := cell_of hG 7 (.int .i64 us) rfl
                    have s8 := cell_of hG 8 (.int .i64 uz) rfl
                    have t8 := cell_of hI 8 (.int .i64 vs) rfl
                    have t9 := cell_of hI 9 (.int .i64 vz) rfl
                    have t10 := cell_of hI 10 (.bool false) rfl
                    have t11 := cell_of hI 11 (str vl) rfl
                    clear hG hI
                    have x0 := cell_of hz17.out 0 (.int .i64 1) rfl
                    have x1 := cell_of hz17.out 1 (.int .u8 0) rfl
                    have x2 := cell_of hz17.out 2 (.int .i64 0) rfl
                    have x3 := cell_of hz17.out 3 (.string ⟨#[]⟩) rfl
                    have x4 := cell_of hz17.out 4 (.int .i64 1) rfl
                    have x5 := cell_of hz17.out 5 (.int .i64 1) rfl
                    have x6 := cell_of hz17.out 6 (.slice ea 0 ec) rfl
                    have x7 := cell_of hz17.out 7 (.int .i64 (bor (bnot us vz) vs)) rfl
                    have x8 := cell_of hz17.out 8 (.int .i64 (bor (bnot uz vs) vz)) rfl
                    have x9 := cell_of hz17.out 9 (.bool ut) rfl
                    have x10 := cell_of hz17.out 10 (str ul) rfl
                    have O4 := Lib.hid (O3.out.to Bz17.out)
                    have B4 := Lib.hid (B3.out.trans (Bz17.out.mono B3.out.size))
                    go_wp2_with (at_builtin; refine wpList_app1 rfl (.tmp 137) (.tmp 139) 123 rfl w4.heap.size 126 11 120 _ elActs RAc _ X1 rfl O4.out (Ac.keep (bothK ⟨us, uz, ut, ul⟩ ⟨vs, vz, false, vl⟩)) [.int .i64 1, .int .u8 0, .int .i64 0, .string ⟨#[]⟩, .int .i64 1, .int .i64 1, .slice ea 0 ec, .int .i64 (bor (bnot us vz) vs), .int .i64 (bor (bnot uz vs) vz), .bool ut, str ul] 126 _ rfl (by first | rfl | simp) rfl (fun _ _ => ⟨.slice ea 0 ec, ⟨ea, ec, rfl, hme⟩, rfl⟩) RAc_one (by unfold maxLen; omega) (by omega) B4.out.size (fun _ _ _ _ _ r => r) ?_; intro v9 w9 ho9 hb9 hz9 hk9; rw [EZ.out] at ho9; obtain ⟨pa9, pc9, rfl⟩ := len_nil ho9)
                    go_wp2
                    go_roundw
                    case rel => exact ⟨j + 1, n - 1, k + 1, _, _, Z, by omega, by go_num, rfl, ho9, hnk2, hnt2, had2, hnc2, hst4, B4.out.trans hb9⟩
                    case measure => simp [intOf]; omega
            | put y =>
              have hcn : (Ac.put y) ≠ Ac.cut := by simp
              have htn := too_on hx hcn
              have hkQ : k < Q.length := by have := hnk.out; have := hnt.out; omega
              obtain ⟨t, ht⟩ : ∃ t, Q[k]? = some t := ⟨_, List.getElem?_eq_getElem hkQ⟩
              have hJ := joinR_on hx hcn ht
              have hto := Lib.hid (hQo.out t (List.mem_of_getElem? ht))
              obtain ⟨qb', qo', pv2, sv2, e2, hA2, hE2, hl2, hC2⟩ := RRows.at R2.out (btr HB2.out hb) ht
              cases e2
              obtain ⟨ta, tac, rfl, _⟩ := RdS.len hA2
              obtain ⟨fa, fc, rfl, hmf⟩ := hE2
              obtain ⟨tp, to⟩ := t
              dsimp only at hJ hA2 hC2 hto
              obtain ⟨X1, qX1⟩ : ∃ M, out ++ tp = M := ⟨_, rfl⟩
              have hst1 : joinR A Q = X1 ++ (joinC (Ac.put y) to ++ joinR (A.drop (j + 1)) (Q.drop (k + 1))) := by rw [hst.out, hJ, ← qX1]; simp only [List.append_assoc]
              have hlx : X1.length ≤ 8000 := by have := HT.out; rw [hst1] at this; simp only [List.length_append] at this; omega
              have hlp : out.length + tp.length ≤ 8000 := by rw [← qX1, List.length_append] at hlx; exact hlx
              have hst2 := Lib.hid hst1
              have E1 := Lib.hid qX1
              have hn1 : 0 < n := by have := hnt.out; omega
              have hn2 : (1 : Int) ≤ (n : Int) := by omega
              have hn3 : 1 ≤ n := by omega
              have hn4 : (0 : Int) < (n : Int) := by omega
              have hnk2 : Hid ((n - 1) + (k + 1) = Q.length) := Lib.hid (by have := hnk.out; omega)
              have hnt2 : Hid (n - 1 = too (A.drop (j + 1))) := Lib.hid (by have := hnt.out; omega)
              have hadr : Hid (qo + (k + 1) * 12 = qo + k * 12 + 12) := Lib.hid (by omega)
              have D2 := Lib.hid hA2
              have e3 := had.out hn1
              subst e3
              have hnc2 : Hid (n - 1 ≤ cap - 1) := Lib.hid (by have := hnc.out; omega)
              obtain ⟨ad2, hqq⟩ : ∃ ad2 : Option Addr, (if cap = 1 then (some ⟨qb, qo + k * 12, none⟩ : Option Addr) else some ⟨qb, qo + k * 12 + 12, none⟩) = ad2 := ⟨_, rfl⟩
              have had2 : Hid (0 < n - 1 → ad2 = some ⟨qb, qo + (k + 1) * 12, none⟩) := Lib.hid (fun h => by
                have := hnc.out
                rw [← hqq, if_neg (by omega), hadr.out])
              have hqq' := Lib.hid hqq
              clear hqq had hnc
              clear qX1 hst1 hJ htn hcn hst hnk hnt hx ht hkQ hA2
              have c0 : wr.cell? ⟨b0, o0 + j * 11, none⟩ = some (.int .i64 2) := hcell 0 _ rfl
              have c1 : wr.cell? ⟨b0, o0 + j * 11 + 1, none⟩ = some (.int .u8 y.c.toNat) := hcell 1 _ rfl
              have c2 : wr.cell? ⟨b0, o0 + j * 11 + 2, none⟩ = some (.int .i64 y.m) := hcell 2 _ rfl
              have c3 : wr.cell? ⟨b0, o0 + j * 11 + 3, none⟩ = some (str y.l) := hcell 3 _ rfl
              have c4 : wr.cell? ⟨b0, o0 + j * 11 + 4, none⟩ = some (.int .i64 0) := hcell 4 _ rfl
              have c5 : wr.cell? ⟨b0, o0 + j * 11 + 5, none⟩ = some (.int .i64 0) := hcell 5 _ rfl
              have c6 : wr.cell? ⟨b0, o0 + j * 11 + 6, none⟩ = some (.slice none 0 0) := hcell 6 _ rfl
              have c7 : wr.cell? ⟨b0, o0 + j * 11 + 7, none⟩ = some (.int .i64 0) := hcell 7 _ rfl
              have c8 : wr.cell? ⟨b0, o0 + j * 11 + 8, none⟩ = some (.int .i64 0) := hcell 8 _ rfl
              have c9 : wr.cell? ⟨b0, o0 + j * 11 + 9, none⟩ = some (.bool false) := hcell 9 _ rfl
              have c10 : wr.cell? ⟨b0, o0 + j * 11 + 10, none⟩ = some (.string ⟨#[]⟩) := hcell 10 _ rfl
              clear hcell
              cases to with
              | put x => exact hto.out.elim
              | cut =>
                have f0 : wr.cell? ⟨qb, qo + k * 12, none⟩ = some (.slice ta tp.length tac) := hC2 0 _ rfl
                have f1 : wr.cell? ⟨qb, qo + k * 12 + 1, none⟩ = some (.int .i64 3) := hC2 1 _ rfl
                have f2 : wr.cell? ⟨qb, qo + k * 12 + 2, none⟩ = some (.int .u8 0) := hC2 2 _ rfl
                have f3 : wr.cell? ⟨qb, qo + k * 12 + 3, none⟩ = some (.int .i64 0) := hC2 3 _ rfl
                have f4 : wr.cell? ⟨qb, qo + k * 12 + 4, none⟩ = some (.string ⟨#[]⟩) := hC2 4 _ rfl
                have f5 : wr.cell? ⟨qb, qo + k * 12 + 5, none⟩ = some (.int .i64 3) := hC2 5 _ rfl
                have f6 : wr.cell? ⟨qb, qo + k * 12 + 6, none⟩ = some (.int .i64 1) := hC2 6 _ rfl
                have f7 : wr.cell? ⟨qb, qo + k * 12 + 7, none⟩ = some (.slice fa 0 fc) := hC2 7 _ rfl
                have f8 : wr.cell? ⟨qb, qo + k * 12 + 8, none⟩ = some (.int .i64 0) := hC2 8 _ rfl
                have f9 : wr.cell? ⟨qb, qo + k * 12 + 9, none⟩ = some (.int .i64 0) := hC2 9 _ rfl
                have f10 : wr.cell? ⟨qb, qo + k * 12 + 10, none⟩ = some (.bool false) := hC2 10 _ rfl
                have f11 : wr.cell? ⟨qb, qo + k * 12 + 11, none⟩ = some (str []) := hC2 11 _ rfl
                go_upto_region 20 with fail
                rw [hqq'.out]
                have hs := ((bal (brf (wr.alloc (.cells #[.int .i64 2, .int .u8 y.c.toNat, .int .i64 y.m, str y.l, .int .i64 0, .int .i64 0, .slice none 0 0, .int .i64 0, .int .i64 0, .bool false, .string ⟨#[]⟩] 126))) (.cells #[.slice ta tp.length tac, .int .i64 3, .int .u8 0, .int .i64 0, .string ⟨#[]⟩, .int .i64 3, .int .i64 1, .slice fa 0 fc, .int .i64 0, .int .i64 0, .bool false, str []] 147)).block wr.heap.size (by simp)).trans (heap_new wr (.cells #[.int .i64 2, .int .u8 y.c.toNat, .int .i64 y.m, str y.l, .int .i64 0, .int .i64 0, .slice none 0 0, .int .i64 0, .int .i64 0, .bool false, .string ⟨#[]⟩] 126))
                have ht := heap_new (wr.alloc (.cells #[.int .i64 2, .int .u8 y.c.toNat, .int .i64 y.m, str y.l, .int .i64 0, .int .i64 0, .slice none 0 0, .int .i64 0, .int .i64 0, .bool false, .string ⟨#[]⟩] 126)) (.cells #[.slice ta tp.length tac, .int .i64 3, .int .u8 0, .int .i64 0, .string ⟨#[]⟩, .int .i64 3, .int .i64 1, .slice fa 0 fc, .int .i64 0, .int .i64 0, .bool false, str []] 147)
                have hB := bal (bal (brf wr) (.cells #[.int .i64 2, .int .u8 y.c.toNat, .int .i64 y.m, str y.l, .int .i64 0, .int .i64 0, .slice none 0 0, .int .i64 0, .int .i64 0, .bool false, .string ⟨#[]⟩] 126)) (.cells #[.slice ta tp.length tac, .int .i64 3, .int .u8 0, .int .i64 0, .string ⟨#[]⟩, .int .i64 3, .int .i64 1, .slice fa 0 fc, .int .i64 0, .int .i64 0, .bool false, str []] 147)
                generalize hw2 : (wr.alloc (.cells #[.int .i64 2, .int .u8 y.c.toNat, .int .i64 y.m, str y.l, .int .i64 0, .int .i64 0, .slice none 0 0, .int .i64 0, .int .i64 0, .bool false, .string ⟨#[]⟩] 126)).alloc (.cells #[.slice ta tp.length tac, .int .i64 3, .int .u8 0, .int .i64 0, .string ⟨#[]⟩, .int .i64 3, .int .i64 1, .slice fa 0 fc, .int .i64 0, .int .i64 0, .bool false, str []] 147) = w2' at *
                obtain ⟨gt, hgt⟩ : ∃ g, g = (wr.alloc (.cells #[.int .i64 2, .int .u8 y.c.toNat, .int .i64 y.m, str y.l, .int .i64 0, .int .i64 0, .slice none 0 0, .int .i64 0, .int .i64 0, .bool false, .string ⟨#[]⟩] 126)).heap.size := ⟨_, rfl⟩
                obtain ⟨gs, hgs⟩ : ∃ g, g = wr.heap.size := ⟨_, rfl⟩
                have hgg : gs ≤ gt := by rw [hgs, hgt]; simp
                rw [← hgt] at ht
                rw [← hgs] at hs
                clear hC2 c0 c1 c2 c3 c4 c5 c6 c7 c8 c9 c10 f0 f1 f2 f3 f4 f5 f6 f7 f8 f9 f10 f11
                first
                  | rw [← hgt, ← hgs]
                  | (simp only [World.size_alloc, ← hgs] at hgt ⊢; rw [← hgt])
                have hgs' : wr.heap.size ≤ gs := by omega
                have O2 := Lib.hid (O1.out.to hB)
                have D3 := Lib.hid (RActs.to D2.out (Kp.below (btr (btr HB2.out hb) hB)))
                have B2 := Lib.hid (hb.trans (hB.mono hb.size))
                have k0 := cell_of ht 0 (.slice ta tp.length tac) rfl
                have hs' := Lib.hid hs
                have ht' := Lib.hid ht
                have hown := Lib.hid (fun k hk => (own_ge O1.out (k := k) hk).2.1)
                clear hs ht hB hgt hgs hw2 D2 O1
                go_upto_region 21 with (at_builtin; refine wpListOwn rfl (.tmp 63) (.tmp 65) rfl O2.out B2.out.size rfl _ rfl D3.out (by omega) ?_; intro v3 w3 ho3 hb3 hg3 h43; rw [E1.out] at ho3; obtain ⟨oa3, oc3, rfl⟩ := len_nil ho3)
                have hs3 := Lib.hid ((hg3.block gs (lt_of_heap hs'.out) (fun e => by have := hown.out gs e.symm; omega)).trans hs'.out)
                have ht3 := Lib.hid ((hg3.block gt (lt_of_heap ht'.out) (fun e => by have := hown.out gt e.symm; omega)).trans ht'.out)
                have N3 : Hid ((Value.slice oa3 X1.length oc3).ownBlock ≠ some gs) := Lib.hid (by
                  rcases h43 with e | e
                  · rw [e]; intro e2; have := hown.out gs e2; omega
                  · rw [e]; intro e2; have := Option.some.inj e2; have := lt_of_heap hs'.out; omega)
                have O3 := Lib.hid ho3
                have B3 := Lib.hid (B2.out.trans hb3)
                clear ho3 hg3 hb3 h43 hown hs' ht' O2 D3 B2 k0
                have s0 := cell_of hs3.out 0 (.int .i64 2) rfl
                have s1 := cell_of hs3.out 1 (.int .u8 y.c.toNat) rfl
                have s2 := cell_of hs3.out 2 (.int .i64 y.m) rfl
                have s3 := cell_of hs3.out 3 (str y.l) rfl
                have s4 := cell_of hs3.out 4 (.int .i64 0) rfl
                have s5 := cell_of hs3.out 5 (.int .i64 0) rfl
                have s6 := cell_of hs3.out 6 (.slice none 0 0) rfl
                have s7 := cell_of hs3.out 7 (.int .i64 0) rfl
                have s8 := cell_of hs3.out 8 (.int .i64 0) rfl
                have s9 := cell_of hs3.out 9 (.bool false) rfl
                have s10 := cell_of hs3.out 10 (.string ⟨#[]⟩) rfl
                have t1 := cell_of ht3.out 1 (.int .i64 3) rfl
                have t2 := cell_of ht3.out 2 (.int .u8 0) rfl
                have t3 := cell_of ht3.out 3 (.int .i64 0) rfl
                have t4 := cell_of ht3.out 4 (.string ⟨#[]⟩) rfl
                have t5 := cell_of ht3.out 5 (.int .i64 3) rfl
                have t6 := cell_of ht3.out 6 (.int .i64 1) rfl
                have t7 := cell_of ht3.out 7 (.slice fa 0 fc) rfl
                have t8 := cell_of ht3.out 8 (.int .i64 0) rfl
                have t9 := cell_of ht3.out 9 (.int .i64 0) rfl
                have t10 := cell_of ht3.out 10 (.bool false) rfl
                have t11 := cell_of ht3.out 11 (str []) rfl
                have hst4 : Hid (joinR A Q = X1 ++ joinR (A.drop (j + 1)) (Q.drop (k + 1))) := Lib.hid (by rw [hst2.out]; simp [joinC])
                clear hst2
                go_wp2
                go_roundw
                case rel => exact ⟨j + 1, n - 1, k + 1, _, _, X1, by omega, by go_num, rfl, O3.out, hnk2, hnt2, had2, hnc2, hst4, B3.out⟩
                case measure => simp [intOf]; omega
              | keep v =>
                obtain ⟨vs, vz, vt, vl⟩ := v
                have f0 : wr.cell? ⟨qb, qo + k * 12, none⟩ = some (.slice ta tp.length tac) := hC2 0 _ rfl
                have f1 : wr.cell? ⟨qb, qo + k * 12 + 1, none⟩ = some (.int .i64 1) := hC2 1 _ rfl
                have f2 : wr.cell? ⟨qb, qo + k * 12 + 2, none⟩ = some (.int .u8 0) := hC2 2 _ rfl
                have f3 : wr.cell? ⟨qb, qo + k * 12 + 3, none⟩ = some (.int .i64 0) := hC2 3 _ rfl
                have f4 : wr.cell? ⟨qb, qo + k * 12 + 4, none⟩ = some (.string ⟨#[]⟩) := hC2 4 _ rfl
                have f5 : wr.cell? ⟨qb, qo + k * 12 + 5, none⟩ = some (.int .i64 1) := hC2 5 _ rfl
                have f6 : wr.cell? ⟨qb, qo + k * 12 + 6, none⟩ = some (.int .i64 1) := hC2 6 _ rfl
                have f7 : wr.cell? ⟨qb, qo + k * 12 + 7, none⟩ = some (.slice fa 0 fc) := hC2 7 _ rfl
                have f8 : wr.cell? ⟨qb, qo + k * 12 + 8, none⟩ = some (.int .i64 vs) := hC2 8 _ rfl
                have f9 : wr.cell? ⟨qb, qo + k * 12 + 9, none⟩ = some (.int .i64 vz) := hC2 9 _ rfl
                have f10 : wr.cell? ⟨qb, qo + k * 12 + 10, none⟩ = some (.bool vt) := hC2 10 _ rfl
                have f11 : wr.cell? ⟨qb, qo + k * 12 + 11, none⟩ = some (str vl) := hC2 11 _ rfl
                go_upto_region 20 with fail
                rw [hqq'.out]
                have hs := ((bal (brf (wr.alloc (.cells #[.int .i64 2, .int .u8 y.c.toNat, .int .i64 y.m, str y.l, .int .i64 0, .int .i64 0, .slice none 0 0, .int .i64 0, .int .i64 0, .bool false, .string ⟨#[]⟩] 126))) (.cells #[.slice ta tp.length tac, .int .i64 1, .int .u8 0, .int .i64 0, .string ⟨#[]⟩, .int .i64 1, .int .i64 1, .slice fa 0 fc, .int .i64 vs, .int .i64 vz, .bool vt, str vl] 147)).block wr.heap.size (by simp)).trans (heap_new wr (.cells #[.int .i64 2, .int .u8 y.c.toNat, .int .i64 y.m, str y.l, .int .i64 0, .int .i64 0, .slice none 0 0, .int .i64 0, .int .i64 0, .bool false, .string ⟨#[]⟩] 126))
                have ht := heap_new (wr.alloc (.cells #[.int .i64 2, .int .u8 y.c.toNat, .int .i64 y.m, str y.l, .int .i64 0, .int .i64 0, .slice none 0 0, .int .i64 0, .int .i64 0, .bool false, .string ⟨#[]⟩] 126)) (.cells #[.slice ta tp.length tac, .int .i64 1, .int .u8 0, .int .i64 0, .string ⟨#[]⟩, .int .i64 1, .int .i64 1, .slice fa 0 fc, .int .i64 vs, .int .i64 vz, .bool vt, str vl] 147)
                have hB := bal (bal (brf wr) (.cells #[.int .i64 2, .int .u8 y.c.toNat, .int .i64 y.m, str y.l, .int .i64 0, .int .i64 0, .slice none 0 0, .int .i64 0, .int .i64 0, .bool false, .string ⟨#[]⟩] 126)) (.cells #[.slice ta tp.length tac, .int .i64 1, .int .u8 0, .int .i64 0, .string ⟨#[]⟩, .int .i64 1, .int .i64 1, .slice fa 0 fc, .int .i64 vs, .int .i64 vz, .bool vt, str vl] 147)
                generalize hw2 : (wr.alloc (.cells #[.int .i64 2, .int .u8 y.c.toNat, .int .i64 y.m, str y.l, .int .i64 0, .int .i64 0, .slice none 0 0, .int .i64 0, .int .i64 0, .bool false, .string ⟨#[]⟩] 126)).alloc (.cells #[.slice ta tp.length tac, .int .i64 1, .int .u8 0, .int .i64 0, .string ⟨#[]⟩, .int .i64 1, .int .i64 1, .slice fa 0 fc, .int .i64 vs, .int .i64 vz, .bool vt, str vl] 147) = w2' at *
                obtain ⟨gt, hgt⟩ : ∃ g, g = (wr.alloc (.cells #[.int .i64 2, .int .u8 y.c.toNat, .int .i64 y.m, str y.l, .int .i64 0, .int .i64 0, .slice none 0 0, .int .i64 0, .int .i64 0, .bool false, .string ⟨#[]⟩] 126)).heap.size := ⟨_, rfl⟩
                obtain ⟨gs, hgs⟩ : ∃ g, g = wr.heap.size := ⟨_, rfl⟩
                have hgg : gs ≤ gt := by rw [hgs, hgt]; simp
                rw [← hgt] at ht
                rw [← hgs] at hs
                clear hC2 c0 c1 c2 c3 c4 c5 c6 c7 c8 c9 c10 f0 f1 f2 f3 f4 f5 f6 f7 f8 f9 f10 f11
                first
                  | rw [← hgt, ← hgs]
                  | (simp only [World.size_alloc, ← hgs] at hgt ⊢; rw [← hgt])
                have hgs' : wr.heap.size ≤ gs := by omega
                have O2 := Lib.hid (O1.out.to hB)
                have D3 := Lib.hid (RActs.to D2.out (Kp.below (btr (btr HB2.out hb) hB)))
                have B2 := Lib.hid (hb.trans (hB.mono hb.size))
                have k0 := cell_of ht 0 (.slice ta tp.length tac) rfl
                have hs' := Lib.hid hs
                have ht' := Lib.hid ht
                have hown := Lib.hid (fun k hk => (own_ge O1.out (k := k) hk).2.1)
                clear hs ht hB hgt hgs hw2 D2 O1
                go_upto_region 21 with (at_builtin; refine wpListOwn rfl (.tmp 63) (.tmp 65) rfl O2.out B2.out.size rfl _ rfl D3.out (by omega) ?_; intro v3 w3 ho3 hb3 hg3 h43; rw [E1.out] at ho3; obtain ⟨oa3, oc3, rfl⟩ := len_nil ho3)
                have hs3 := Lib.hid ((hg3.block gs (lt_of_heap hs'.out) (fun e => by have := hown.out gs e.symm; omega)).trans hs'.out)
                have ht3 := Lib.hid ((hg3.block gt (lt_of_heap ht'.out) (fun e => by have := hown.out gt e.symm; omega)).trans ht'.out)
                have N3 : Hid ((Value.slice oa3 X1.length oc3).ownBlock ≠ some gs) := Lib.hid (by
                  rcases h43 with e | e
                  · rw [e]; intro e2; have := hown.out gs e2; omega
                  · rw [e]; intro e2; have := Option.some.inj e2; have := lt_of_heap hs'.out; omega)
                have O3 := Lib.hid ho3
                have B3 := Lib.hid (B2.out.trans hb3)
                clear ho3 hg3 hb3 h43 hown hs' ht' O2 D3 B2 k0
                have s0 := cell_of hs3.out 0 (.int .i64 2) rfl
                have s1 := cell_of hs3.out 1 (.int .u8 y.c.toNat) rfl
                have s2 := cell_of hs3.out 2 (.int .i64 y.m) rfl
                have s3 := cell_of hs3.out 3 (str y.l) rfl
                have s4 := cell_of hs3.out 4 (.int .i64 0) rfl
                have s5 := cell_of hs3.out 5 (.int .i64 0) rfl
                have s6 := cell_of hs3.out 6 (.slice none 0 0) rfl
                have s7 := cell_of hs3.out 7 (.int .i64 0) rfl
                have s8 := cell_of hs3.out 8 (.int .i64 0) rfl
                have s9 := cell_of hs3.out 9 (.bool false) rfl
                have s10 := cell_of hs3.out 10 (.string ⟨#[]⟩) rfl
                have t1 := cell_of ht3.out 1 (.int .i64 1) rfl
                have t2 := cell_of ht3.out 2 (.int .u8 0) rfl
                have t3 := cell_of ht3.out 3 (.int .i64 0) rfl
                have t4 := cell_of ht3.out 4 (.string ⟨#[]⟩) rfl
                have t5 := cell_of ht3.out 5 (.int .i64 1) rfl
                have t6 := cell_of ht3.out 6 (.int .i64 1) rfl
                have t7 := cell_of ht3.out 7 (.slice fa 0 fc) rfl
                have t8 := cell_of ht3.out 8 (.int .i64 vs) rfl
                have t9 := cell_of ht3.out 9 (.int .i64 vz) rfl
                have t10 := cell_of ht3.out 10 (.bool vt) rfl
                have t11 := cell_of ht3.out 11 (str vl) rfl
                have hym := Lib.hid (item_mk hxo.out)
                obtain ⟨mm, hmm⟩ : ∃ m, markI y ⟨vs, vz, vt, vl⟩ = m := ⟨_, rfl⟩
                obtain ⟨Z, qZ⟩ : ∃ M, X1 ++ [Ac.put (markI y ⟨vs, vz, vt, vl⟩)] = M := ⟨_, rfl⟩
                have hst4 : Hid (joinR A Q = Z ++ joinR (A.drop (j + 1)) (Q.drop (k + 1))) := Lib.hid (by rw [hst2.out, ← qZ]; simp [joinC])
                have EZ := Lib.hid qZ
                clear qZ hst2
                rw [hmm] at EZ
                have C := Lib.hid (changed_keepJ y ⟨vs, vz, vt, vl⟩ (.slice fa 0 fc) w3 hym.out hto.out)
                rw [hmm] at C
                clear hmm hto hxo
                go_wp2_with fail
                refine C.out.mono ?_
                rintro e w4' ⟨rfl, hb4'⟩
                have hs4 := (hb4'.block gs (lt_of_heap hs3.out)).trans hs3.out
                have hth := there_of (o := 1) (n := 3) hs4 (by simp)
                have B4 := Lib.hid (below_set3 (x := .int .u8 mm.c.toNat) (y := .int .i64 mm.m) (z := str mm.l) (B3.out.trans (hb4'.mono B3.out.size)) (Nat.le_trans hb.size hgs'))
                have hs5 := set3 (x := .int .u8 mm.c.toNat) (y := .int .i64 mm.m) (z := str mm.l) hs4
                have O4 : Hid (OwnA w4.heap.size (w4'.setCells gs 1 [.int .u8 mm.c.toNat, .int .i64 mm.m, str mm.l]) (.slice oa3 X1.length oc3) X1) := Lib.hid (OwnS.to O3.out (fun k hk hl => (other_set3 (fun e => N3.out (by rw [hk, e]))).trans (hb4'.block k hl)) (fun _ _ _ r => r))
                clear C s0 s1 s2 s3 s4 s5 s6 s7 s8 s9 s10 t1 t2 t3 t4 t5 t6 t7 t8 t9 t10 t11
                go_upto_region 32 with (refine wpList_store_mid rfl 42 (.tmp 152) (.tmp 151) rfl gs 1 #[.int .u8 mm.c.toNat, .int .i64 mm.m, str mm.l] rfl rfl hth (by kernel_rfl) (by simp [Value.oneCell']) ?_)
                generalize hw5 : w4'.setCells gs 1 [.int .u8 mm.c.toNat, .int .i64 mm.m, str mm.l] = w5 at *
                clear hw5 hth hs4
                have s0 := cell_of hs5 0 (.int .i64 2) rfl
                have s1 := cell_of hs5 1 (.int .u8 mm.c.toNat) rfl
                have s2 := cell_of hs5 2 (.int .i64 mm.m) rfl
                have s3 := cell_of hs5 3 (str mm.l) rfl
                have s4 := cell_of hs5 4 (.int .i64 0) rfl
                have s5 := cell_of hs5 5 (.int .i64 0) rfl
                have s6 := cell_of hs5 6 (.slice none 0 0) rfl
                have s7 := cell_of hs5 7 (.int .i64 0) rfl
                have s8 := cell_of hs5 8 (.int .i64 0) rfl
                have s9 := cell_of hs5 9 (.bool false) rfl
                have s10 := cell_of hs5 10 (.string ⟨#[]⟩) rfl
                go_wp2_with (at_builtin; refine wpList_app1 rfl (.tmp 153) (.tmp 155) 123 rfl w4.heap.size 126 11 120 _ elActs RAc _ X1 rfl O4.out (Ac.put mm) [.int .i64 2, .int .u8 mm.c.toNat, .int .i64 mm.m, str mm.l, .int .i64 0, .int .i64 0, .slice none 0 0, .int .i64 0, .int .i64 0, .bool false, .string ⟨#[]⟩] 126 _ rfl (by first | rfl | simp) rfl (fun _ _ => ⟨.slice none 0 0, E0.nil, rfl⟩) RAc_one (by unfold maxLen; omega) (by omega) B4.out.size (fun _ _ _ _ _ r => r) ?_; intro v9 w9 ho9 hb9 hz9 hk9; rw [EZ.out] at ho9; obtain ⟨pa9, pc9, rfl⟩ := len_nil ho9)
                go_wp2
                go_roundw
                case rel => exact ⟨j + 1, n - 1, k + 1, _, _, Z, by omega, by go_num, rfl, ho9, hnk2, hnt2, had2, hnc2, hst4, B4.out.trans hb9⟩
                case measure => simp [intOf]; omega
          · obtain rfl : j = A.length := by omega
            have hq0 : Q.drop k = [] := by
              refine List.drop_eq_nil_of_le ?_
              have h1 := hnk.out
              have h2 := hnt.out
              rw [List.drop_length] at h2
              simp [too] at h2
              omega
            have hfin := Lib.hid (show joinR A Q = out by rw [hst.out, List.drop_length, hq0]; simp [joinR])
            have hL8 := HT.out
            rw [hfin.out] at hL8
            rw [hfin.out] at hres
            clear hq0
            have C1 := Lib.hid (refTidied_any _ _ out wr O1.out.rd (by omega))
            have hz0 := Lib.hid (Nat.le_trans hB4.out.size hb.size)
            go_wp2_with fail
            refine C1.out.mono ?_
            rintro e w5 ⟨r5, rfl, hr5, hb5⟩
            obtain ⟨a5, c5, rfl, _⟩ := RdS.len hr5
            have hB5 := Lib.hid (btr (btr hB4.out hb) hb5)
            clear C1 hfin HT
            generalize tidyA out = x at *
            have H5 := Lib.hid hr5
            clear hr5
            have C3 := Lib.hid (checkOp_any _ _ x w5 H5.out)
            go_wp2_with fail
            refine C3.out.mono ?_
            rintro e w6 ⟨rfl, hb6⟩
            clear C3
            have hx6 := Lib.hid (ROp.to (F' := (w.heap.size ≤ ·)) H5.out (fun k hk hl => ⟨Nat.le_trans hz0.out hk, hb6.block k hl⟩))
            by_cases h1 : chkOp x = 0
            · have hres2 : Hid (joinP a b = (x, 0)) := Lib.hid (by rw [hres.out]; unfold chk1; rw [if_neg (by simpa using h1)])
              rw [h1]
              clear h1
              go_wp2
              go_ret2
              exact ⟨_, by rw [hres2.out]; rfl, by rw [hres2.out]; exact hx6.out, btr hB5.out hb6⟩
            · have hres2 : Hid (joinP a b = ([], chkOp x)) := Lib.hid (by rw [hres.out]; unfold chk1; rw [if_pos (by simpa using h1)])
              have hne2 : (chkOp x != 0) = true := by simpa using h1
              clear h1
              go_wp2
              go_ret2
              exact ⟨.slice none 0 0, by rw [hres2.out]; rfl, by rw [hres2.out]; exact RdS.nil, btr hB5.out hb6⟩
      · have hres := Lib.hid (joinP_base hza.out hzb.out (fun e => hln (e.trans htt)))
        have hne : (((rowsA [] (acts b)).length : Int) != (tt : Int)) = true := by simp; omega
        clear hln htt
        generalize rowsA [] (acts b) = Q at *
        go_wp2
        go_ret2
        exact ⟨.slice none 0 0, by rw [hres.out]; rfl, by rw [hres.out]; exact RdS.nil, hB2⟩
end Go.Proofs.Ytgodceplajkcdaa
