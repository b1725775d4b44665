/- The references on operations: rows: of each item what is put ahead of it, and what is done to it. -/
import Derived.Test.YtgodceplajkcdaaAppK
import Derived.Test.YtgodceplajkcdaaRefU
namespace Go.Mh
open Go.RowKit
/-- A row: what is put ahead, and what is done. -/
def RRow (F : Nat → Prop) (w : World) (cs : List Value) (r : Row) : Prop := ∃ pv cs2, cs = pv :: cs2 ∧ RActs F w pv r.1 ∧ RAc w cs2 r.2
theorem RRow.to {F F' : Nat → Prop} {w w' : World} {cs : List Value} {r : Row} (h : RRow F w cs r) (hk : Kp F F' w w') : RRow F' w' cs r := by
  obtain ⟨pv, cs2, e, h1, h2⟩ := h
  exact ⟨pv, cs2, e, RActs.to h1 hk, h2⟩
theorem RRow_one (F : Nat → Prop) : ∀ (w : World) (cs : List Value) (r : Row), RRow F w cs r → ∀ u ∈ cs, u.oneCell' = true := by
  rintro w _ r ⟨pv, cs2, rfl, h1, h2⟩ u hu
  rcases List.mem_cons.1 hu with rfl | hu
  · obtain ⟨a, c, rfl, _⟩ := h1; rfl
  · exact RAc_one w cs2 r.2 h2 u hu
abbrev RRows (F : Nat → Prop) := RdS 12 (RRow F) F
theorem rowsA_step {A : List Ac} {j : Nat} {x : Ac} (hx : A[j]? = some x) (ps : List Ac) : rowsA ps (A.drop j) = rowsA ps (x :: A.drop (j + 1)) := by
  obtain ⟨hlt, rfl⟩ := List.getElem?_eq_some_iff.1 hx
  rw [List.drop_eq_getElem_cons hlt]
end Go.Mh
namespace Go.Proofs.Ytgodceplajkcdaa
open Go.RowKit Go.Mh

theorem elRows : El Try.prog 144 147 12 144 (.agg #[.slice none 0 0, .int .i64 0, .int .u8 0, .int .i64 0, .string ⟨#[]⟩, .int .i64 0, .int .i64 0, .slice none 0 0, .int .i64 0, .int .i64 0, .bool false, .string ⟨#[]⟩]) := ⟨Try.underlying144, by kernel_rfl, rfl, by decide⟩
/-- A row whose acts lie in rows of acts, made since B and ahead of b. -/
def RRb (B b : Nat) (w : World) (cs : List Value) (r : Row) : Prop := RRow (fun k => B ≤ k ∧ k < b ∧ Ty 126 w k) w cs r
theorem RRb.keep {B b b' : Nat} {w w' : World} {cs : List Value} {r : Row} (h : RRb B b w cs r) (hbb : b ≤ b') (hk : ∀ k, k < b → Ty 126 w k → w'.heap[k]? = w.heap[k]?) : RRb B b' w' cs r :=
  RRow.to h fun k ⟨h1, h2, hT⟩ _ => ⟨⟨h1, by omega, tyto hT (hk k h2 hT)⟩, hk k h2 hT⟩
theorem RRb_one (B b : Nat) : ∀ (w : World) (cs : List Value) (r : Row), RRb B b w cs r → ∀ u ∈ cs, u.oneCell' = true := fun w cs r h => RRow_one _ w cs r h
abbrev OwnRw (B b : Nat) (w : World) (v : Value) (L : List Row) : Prop := OwnS B 147 12 (RRb B b) w v L

set_option maxRecDepth 100000 in
set_option maxHeartbeats 8000000 in
theorem refRows_any (G : Nat → Prop) (u : Value) (L : List Pt) (w : World) (g : ROp G w u L) (hok : OpOk L) :
    Calls Try.prog 114 #[u] w fun e w' => ∃ r, e = .returned r ∧ RRows (w.heap.size ≤ ·) w' r (rowsA [] (acts L)) ∧ Below w.heap.size w w' := by
  obtain ⟨a', cap', rfl, hn'⟩ := RdS.len g
  have C := Lib.hid (refActs_any G _ L w g hok)
  have hlen : (acts L).length ≤ 4000 := by have h := acts_len hok L.length (Nat.le_refl _); have := hok.len; rw [List.take_length] at h; omega
  clear g
  generalize hAq : acts L = A at *
  have hAe := Lib.hid hAq
  clear hAq
  go_enter Try.func114, Try.ntmps114
  go_wp2_with fail
  refine C.out.mono ?_
  rintro e w1 ⟨r1, rfl, hr1, hb1⟩
  obtain ⟨ra, rc, rfl⟩ := len_nil hr1
  have HA := Lib.hid hr1.rd
  clear hr1 C
  go_wp2
  go_loopw [3, 4, 10] (fun ov pv jv ws => ∃ (j : Nat) (out : List Row) (ps : List Ac) (b : Nat), j ≤ A.length ∧ jv = .int .i64 j ∧ OwnRw w1.heap.size b ws ov out ∧ OwnS b 126 11 RAc ws pv ps ∧ Hid (rowsA [] A = out ++ rowsA ps (A.drop j)) ∧ out.length ≤ j ∧ ps.length ≤ j ∧ w1.heap.size ≤ b ∧ b ≤ ws.heap.size ∧ Below w1.heap.size w1 ws) (fun _ _ jv _ => A.length - (intOf jv).toNat)
  case atStart => exact ⟨0, [], [], w1.heap.size, Nat.zero_le _, rfl, OwnS.nil, OwnS.nil, Lib.hid (by simp), by simp, by simp, Nat.le_refl _, Nat.le_refl _, brf _⟩
  case round =>
    obtain ⟨j, out, ps, b, hj, rfl, hown, hP, hst, hol, hpl, hBb, hbs, hb⟩ := hrel
    obtain ⟨oa, oc, rfl⟩ := len_nil hown
    obtain ⟨pa, pc, rfl⟩ := len_nil hP
    have O1 := Lib.hid hown
    have P1 := Lib.hid hP
    clear hown hP
    by_cases hlt : j < A.length
    · obtain ⟨x, hx⟩ : ∃ x, A[j]? = some x := ⟨_, List.getElem?_eq_getElem hlt⟩
      obtain ⟨b0, o0, sv, rfl, hE, hb0, hcell⟩ := RActs.at HA.out hb hx
      have hs := Lib.hid (hst.out.trans (congrArg (out ++ ·) (rowsA_step hx ps)))
      obtain ⟨sa, sc, rfl, hsm⟩ := hE
      clear hst hx
      cases x with
      | put x =>
        have c0 : wr.cell? ⟨b0, o0 + j * 11, none⟩ = some _ := hcell 0 _ rfl
        have c1 := hcell 1 _ rfl
        have c2 := hcell 2 _ rfl
        have c3 := hcell 3 _ rfl
        have c4 := hcell 4 _ rfl
        have c5 := hcell 5 _ rfl
        have c6 := hcell 6 _ rfl
        have c7 := hcell 7 _ rfl
        have c8 := hcell 8 _ rfl
        have c9 := hcell 9 _ rfl
        have c10 := hcell 10 _ rfl
        clear hcell
        have hs1 := hs.out.trans (rfl : _ = out ++ rowsA (ps ++ [.put x]) (A.drop (j + 1)))
        obtain ⟨p9, q9⟩ : ∃ o, ps ++ [Ac.put x] = o := ⟨_, rfl⟩
        have hl9 : p9.length ≤ j + 1 := by rw [← q9]; simp; omega
        rw [q9] at hs1
        have hs2 := Lib.hid hs1
        have E9 := Lib.hid q9
        have hbw := bal (brf wr) (.cells #[.int .i64 2, .int .u8 x.c.toNat, .int .i64 x.m, str x.l, .int .i64 0, .int .i64 0, .slice none 0 0, .int .i64 0, .int .i64 0, .bool false, .string ⟨#[]⟩] 126)
        have P2 := Lib.hid (P1.out.below hbw fun _ _ _ r => r)
        have O2 := Lib.hid (O1.out.to (R' := RRb w1.heap.size b) (fun k _ hl => hbw.block k hl) fun _ _ _ r => r.keep (Nat.le_refl _) fun k hk _ => hbw.block k (by omega))
        have hB2 : Below w1.heap.size w1 (wr.alloc (.cells #[.int .i64 2, .int .u8 x.c.toNat, .int .i64 x.m, str x.l, .int .i64 0, .int .i64 0, .slice none 0 0, .int .i64 0, .int .i64 0, .bool false, .string ⟨#[]⟩] 126)) := bal hb _
        have hbs2 := Nat.le_trans hbs hbw.size
        clear hs1 q9 hs O1 P1 hbw
        go_wp2_with (at_builtin; refine wpList_app1 rfl (.tmp 17) (.tmp 19) 123 rfl b 126 11 120 _ elActs RAc _ ps rfl P2.out (.put x) [.int .i64 2, .int .u8 x.c.toNat, .int .i64 x.m, str x.l, .int .i64 0, .int .i64 0, .slice none 0 0, .int .i64 0, .int .i64 0, .bool false, .string ⟨#[]⟩] 126 _ rfl (by first | rfl | simp) rfl (fun _ _ => ⟨.slice none 0 0, E0.nil, rfl⟩) RAc_one (by unfold maxLen; omega) (by omega) hbs2 (fun _ _ _ _ _ r => r) ?_; intro v9 w9 ho9 hb9 hz9 hk9; rw [E9.out] at ho9; obtain ⟨pa9, pc9, rfl⟩ := len_nil ho9)
        have O3 : OwnRw w1.heap.size b w9 (.slice oa out.length oc) out := O2.out.to (fun k hke hkl => hk9 k hkl (by
          obtain ⟨_, _, xs, fr, e⟩ := own_ge O2.out hke
          exact P2.out.ne e (by decide))) fun _ _ _ r => r.keep (Nat.le_refl _) fun k hk _ => hb9.block k hk
        go_wp2
        go_roundw
        case rel => exact ⟨j + 1, out, p9, b, by omega, by go_num, O3, ho9, hs2, by omega, hl9, hBb, Nat.le_trans hbs2 (Nat.le_of_lt hz9), hB2.trans (hb9.mono hBb)⟩
        case measure => simp [intOf]; omega
      | cut =>
        have c0 : wr.cell? ⟨b0, o0 + j * 11, none⟩ = some _ := hcell 0 _ rfl
        have c1 := hcell 1 _ rfl
        have c2 := hcell 2 _ rfl
        have c3 := hcell 3 _ rfl
        have c4 := hcell 4 _ rfl
        have c5 := hcell 5 _ rfl
        have c6 := hcell 6 _ rfl
        have c7 := hcell 7 _ rfl
        have c8 := hcell 8 _ rfl
        have c9 := hcell 9 _ rfl
        have c10 := hcell 10 _ rfl
        clear hcell
        have hs1 := hs.out.trans (by simp [rowsA] : _ = (out ++ [(ps, Ac.cut)]) ++ rowsA [] (A.drop (j + 1)))
        obtain ⟨o9, q9⟩ : ∃ o, out ++ [(ps, Ac.cut)] = o := ⟨_, rfl⟩
        have hl9 : o9.length ≤ j + 1 := by rw [← q9]; simp; omega
        rw [q9] at hs1
        have hs2 := Lib.hid hs1
        have E9 := Lib.hid q9
        have hbw := bal (brf wr) (.cells #[.int .i64 3, .int .u8 0, .int .i64 0, .string ⟨#[]⟩, .int .i64 3, .int .i64 1, .slice sa 0 sc, .int .i64 0, .int .i64 0, .bool false, str []] 126)
        have P2 := P1.out.below hbw fun _ _ _ r => r
        have O2 : OwnRw w1.heap.size (wr.alloc (.cells #[.int .i64 3, .int .u8 0, .int .i64 0, .string ⟨#[]⟩, .int .i64 3, .int .i64 1, .slice sa 0 sc, .int .i64 0, .int .i64 0, .bool false, str []] 126)).heap.size (wr.alloc (.cells #[.int .i64 3, .int .u8 0, .int .i64 0, .string ⟨#[]⟩, .int .i64 3, .int .i64 1, .slice sa 0 sc, .int .i64 0, .int .i64 0, .bool false, str []] 126)) (.slice oa out.length oc) out := O1.out.to (fun k _ hl => hbw.block k hl) fun _ _ _ r => r.keep (Nat.le_trans hbs hbw.size) fun k hk _ => hbw.block k (by omega)
        have R2 : RRb w1.heap.size (wr.alloc (.cells #[.int .i64 3, .int .u8 0, .int .i64 0, .string ⟨#[]⟩, .int .i64 3, .int .i64 1, .slice sa 0 sc, .int .i64 0, .int .i64 0, .bool false, str []] 126)).heap.size (wr.alloc (.cells #[.int .i64 3, .int .u8 0, .int .i64 0, .string ⟨#[]⟩, .int .i64 3, .int .i64 1, .slice sa 0 sc, .int .i64 0, .int .i64 0, .bool false, str []] 126)) [.slice pa ps.length pc, .int .i64 3, .int .u8 0, .int .i64 0, .string ⟨#[]⟩, .int .i64 3, .int .i64 1, .slice sa 0 sc, .int .i64 0, .int .i64 0, .bool false, str []] (ps, Ac.cut) :=
          ⟨_, _, rfl, RActs.to P2.rdN (fun k hke hkl => ⟨⟨by have := (own_ge P2 hke).1; omega, hkl, (own_ge P2 hke).2.2⟩, rfl⟩), ⟨.slice sa 0 sc, ⟨_, _, rfl, hsm⟩, rfl⟩⟩
        have hB2 : Below w1.heap.size w1 (wr.alloc (.cells #[.int .i64 3, .int .u8 0, .int .i64 0, .string ⟨#[]⟩, .int .i64 3, .int .i64 1, .slice sa 0 sc, .int .i64 0, .int .i64 0, .bool false, str []] 126)) := bal hb _
        have O2' := Lib.hid O2
        have R2' := Lib.hid R2
        clear hs1 q9 hs O1 P1 P2 O2 R2 hbw
        go_wp2_with (at_builtin; refine wpList_appK rfl (.tmp 21) (.tmp 25) 144 rfl w1.heap.size 147 12 144 _ elRows (RRb w1.heap.size (wr.alloc (.cells #[.int .i64 3, .int .u8 0, .int .i64 0, .string ⟨#[]⟩, .int .i64 3, .int .i64 1, .slice sa 0 sc, .int .i64 0, .int .i64 0, .bool false, str []] 126)).heap.size) _ out rfl O2'.out (ps, Ac.cut) [.slice pa ps.length pc, .int .i64 3, .int .u8 0, .int .i64 0, .string ⟨#[]⟩, .int .i64 3, .int .i64 1, .slice sa 0 sc, .int .i64 0, .int .i64 0, .bool false, str []] 147 _ rfl (by first | rfl | simp) rfl R2'.out (RRb_one _ _) (by unfold maxLen; omega) (by omega) hB2.size (fun w' _ hk cs x r => r.keep (Nat.le_refl _) fun k hkb hT => hk k hkb (by obtain ⟨xs, fr, e⟩ := hT; exact O2'.out.ne e (by decide))) ?_; intro v9 w9 ho9 hb9 hz9 hk9; rw [E9.out] at ho9; obtain ⟨oa9, oc9, rfl⟩ := len_nil ho9)
        go_wp2
        go_roundw
        case rel => exact ⟨j + 1, o9, [], _, by omega, by go_num, ho9, OwnS.nil, hs2, hl9, by simp, hB2.size, Nat.le_of_lt hz9, hB2.trans hb9⟩
        case measure => simp [intOf]; omega
      | keep d =>
        obtain ⟨s, z, t, lk⟩ := d
        have c0 : wr.cell? ⟨b0, o0 + j * 11, none⟩ = some _ := hcell 0 _ rfl
        have c1 := hcell 1 _ rfl
        have c2 := hcell 2 _ rfl
        have c3 := hcell 3 _ rfl
        have c4 := hcell 4 _ rfl
        have c5 := hcell 5 _ rfl
        have c6 := hcell 6 _ rfl
        have c7 := hcell 7 _ rfl
        have c8 := hcell 8 _ rfl
        have c9 := hcell 9 _ rfl
        have c10 := hcell 10 _ rfl
        clear hcell
        have hs1 := hs.out.trans (by simp [rowsA] : _ = (out ++ [(ps, Ac.keep ⟨s, z, t, lk⟩)]) ++ rowsA [] (A.drop (j + 1)))
        obtain ⟨o9, q9⟩ : ∃ o, out ++ [(ps, Ac.keep ⟨s, z, t, lk⟩)] = o := ⟨_, rfl⟩
        have hl9 : o9.length ≤ j + 1 := by rw [← q9]; simp; omega
        rw [q9] at hs1
        have hs2 := Lib.hid hs1
        have E9 := Lib.hid q9
        have hbw := bal (brf wr) (.cells #[.int .i64 1, .int .u8 0, .int .i64 0, .string ⟨#[]⟩, .int .i64 1, .int .i64 1, .slice sa 0 sc, .int .i64 s, .int .i64 z, .bool t, str lk] 126)
        have P2 := P1.out.below hbw fun _ _ _ r => r
        have O2 : OwnRw w1.heap.size (wr.alloc (.cells #[.int .i64 1, .int .u8 0, .int .i64 0, .string ⟨#[]⟩, .int .i64 1, .int .i64 1, .slice sa 0 sc, .int .i64 s, .int .i64 z, .bool t, str lk] 126)).heap.size (wr.alloc (.cells #[.int .i64 1, .int .u8 0, .int .i64 0, .string ⟨#[]⟩, .int .i64 1, .int .i64 1, .slice sa 0 sc, .int .i64 s, .int .i64 z, .bool t, str lk] 126)) (.slice oa out.length oc) out := O1.out.to (fun k _ hl => hbw.block k hl) fun _ _ _ r => r.keep (Nat.le_trans hbs hbw.size) fun k hk _ => hbw.block k (by omega)
        have R2 : RRb w1.heap.size (wr.alloc (.cells #[.int .i64 1, .int .u8 0, .int .i64 0, .string ⟨#[]⟩, .int .i64 1, .int .i64 1, .slice sa 0 sc, .int .i64 s, .int .i64 z, .bool t, str lk] 126)).heap.size (wr.alloc (.cells #[.int .i64 1, .int .u8 0, .int .i64 0, .string ⟨#[]⟩, .int .i64 1, .int .i64 1, .slice sa 0 sc, .int .i64 s, .int .i64 z, .bool t, str lk] 126)) [.slice pa ps.length pc, .int .i64 1, .int .u8 0, .int .i64 0, .string ⟨#[]⟩, .int .i64 1, .int .i64 1, .slice sa 0 sc, .int .i64 s, .int .i64 z, .bool t, str lk] (ps, Ac.keep ⟨s, z, t, lk⟩) :=
          ⟨_, _, rfl, RActs.to P2.rdN (fun k hke hkl => ⟨⟨by have := (own_ge P2 hke).1; omega, hkl, (own_ge P2 hke).2.2⟩, rfl⟩), ⟨.slice sa 0 sc, ⟨_, _, rfl, hsm⟩, rfl⟩⟩
        have hB2 : Below w1.heap.size w1 (wr.alloc (.cells #[.int .i64 1, .int .u8 0, .int .i64 0, .string ⟨#[]⟩, .int .i64 1, .int .i64 1, .slice sa 0 sc, .int .i64 s, .int .i64 z, .bool t, str lk] 126)) := bal hb _
        have O2' := Lib.hid O2
        have R2' := Lib.hid R2
        clear hs1 q9 hs O1 P1 P2 O2 R2 hbw
        go_wp2_with (at_builtin; refine wpList_appK rfl (.tmp 21) (.tmp 25) 144 rfl w1.heap.size 147 12 144 _ elRows (RRb w1.heap.size (wr.alloc (.cells #[.int .i64 1, .int .u8 0, .int .i64 0, .string ⟨#[]⟩, .int .i64 1, .int .i64 1, .slice sa 0 sc, .int .i64 s, .int .i64 z, .bool t, str lk] 126)).heap.size) _ out rfl O2'.out (ps, Ac.keep ⟨s, z, t, lk⟩) [.slice pa ps.length pc, .int .i64 1, .int .u8 0, .int .i64 0, .string ⟨#[]⟩, .int .i64 1, .int .i64 1, .slice sa 0 sc, .int .i64 s, .int .i64 z, .bool t, str lk] 147 _ rfl (by first | rfl | simp) rfl R2'.out (RRb_one _ _) (by unfold maxLen; omega) (by omega) hB2.size (fun w' _ hk cs x r => r.keep (Nat.le_refl _) fun k hkb hT => hk k hkb (by obtain ⟨xs, fr, e⟩ := hT; exact O2'.out.ne e (by decide))) ?_; intro v9 w9 ho9 hb9 hz9 hk9; rw [E9.out] at ho9; obtain ⟨oa9, oc9, rfl⟩ := len_nil ho9)
        go_wp2
        go_roundw
        case rel => exact ⟨j + 1, o9, [], _, by omega, by go_num, ho9, OwnS.nil, hs2, hl9, by simp, hB2.size, Nat.le_of_lt hz9, hB2.trans hb9⟩
        case measure => simp [intOf]; omega
    · obtain rfl : j = A.length := by omega
      have hfin := Lib.hid (show rowsA [] A = out by rw [hst.out, List.drop_length]; simp [rowsA])
      have hzz := hb1.size
      have hR := Lib.hid (RdS.to (F' := (w.heap.size ≤ ·)) O1.out.rd (by decide) (fun k hk _ => ⟨Nat.le_trans hzz hk, rfl⟩) (fun cs x _ r => (RRow.to r fun k hk _ => ⟨Nat.le_trans hzz hk.1, rfl⟩ : RRow (w.heap.size ≤ ·) wr cs x)))
      go_wp2
      go_ret
      exact ⟨_, rfl, by rw [hfin.out]; exact hR.out, btr hb1 hb⟩
end Go.Proofs.Ytgodceplajkcdaa
