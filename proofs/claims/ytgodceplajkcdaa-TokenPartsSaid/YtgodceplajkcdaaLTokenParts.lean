/- The closed fact torn; the law TokenParts, walked. -/
import Derived.Test.YtgodceplajkcdaaConcat
import Derived.Test.YtgodceplajkcdaaPlTP
import Derived.Test.YtgodceplajkcdaaEqToks
import Derived.Lib.SlBytesConst
namespace Go.Mh
open Go.RowKit
theorem RBytes.lit {F : Nat → Prop} {w : World} {g n cap : Nat} {L : Bs} {xs : Array Value} {e : TypeId} {fr : Nat × Nat} (hg : w.heap[g]? = some (.cells xs e fr)) (hn : n = L.length) (hc : n ≤ cap) (hm : cap ≤ maxLen) (hF : F g)
    (hx : xs.toList = L.map (fun c => Value.int .u8 c.toNat)) : RBytes F w (.slice (some ⟨g, 0, none⟩) n cap) L := by
  subst hn
  refine ⟨_, cap, rfl, hc, hm, fun h => by simp at h, fun i x hi => ⟨g, 0, [.int .u8 x.toNat], rfl, hF, rfl, fun j u hj => ?_, rfl⟩⟩
  unfold World.cell?
  rw [hg]
  match j, hj with
  | 0, hj =>
    simp at hj; subst hj
    have : xs.toList[i]? = some (.int .u8 x.toNat) := by rw [hx, List.getElem?_map, hi]; rfl
    simpa using this
theorem RToks.lit {F : Nat → Prop} {w : World} {g n cap : Nat} {L : List Tok} {xs : Array Value} {e : TypeId} {fr : Nat × Nat} (hg : w.heap[g]? = some (.cells xs e fr)) (hn : n = L.length) (hc : n ≤ cap) (hm : cap ≤ maxLen) (hF : F g)
    (hx : ∀ i x, L[i]? = some x → xs[i * 4]? = some (.int .i64 x.k) ∧ xs[i * 4 + 1]? = some (str x.name) ∧ xs[i * 4 + 2]? = some (str x.text) ∧ xs[i * 4 + 3]? = some (str x.href)) : RToks F w (.slice (some ⟨g, 0, none⟩) n cap) L := by
  subst hn
  refine ⟨_, cap, rfl, hc, hm, fun h => by simp at h, fun i x hi => ⟨g, 0, [.int .i64 x.k, str x.name, str x.text, str x.href], rfl, hF, rfl, fun j u hj => ?_, rfl⟩⟩
  obtain ⟨a0, a1, a2, a3⟩ := hx i x hi
  unfold World.cell?
  rw [hg]
  match j, hj with
  | 0, hj => simp at hj; subst hj; simpa using a0
  | 1, hj => simp at hj; subst hj; simpa using a1
  | 2, hj => simp at hj; subst hj; simpa using a2
  | 3, hj => simp at hj; subst hj; simpa using a3
theorem RSl.lit2 {α : Type} {sz : Nat} {R : World → List Value → α → Prop} {F : Nat → Prop} {w : World} {g : Nat} {v0 v1 : Value} {l0 l1 : List α} {e : TypeId} {fr : Nat × Nat} (hg : w.heap[g]? = some (.cells #[v0, v1] e fr)) (hF : F g) (h0 : RdS sz R F w v0 l0) (h1 : RdS sz R F w v1 l1) :
    RdS 1 (RSl sz R F) F w (.slice (some ⟨g, 0, none⟩) 2 2) [l0, l1] := by
  refine ⟨_, 2, rfl, by simp, by simp [maxLen], fun h => by simp at h, fun i x hi => ?_⟩
  match i, hi with
  | 0, hi => simp at hi; subst hi; exact ⟨g, 0, [v0], rfl, hF, rfl, fun j u hj => by match j, hj with | 0, hj => simp at hj; subst hj; unfold World.cell?; rw [hg]; rfl, v0, rfl, h0⟩
  | 1, hi => simp at hi; subst hi; exact ⟨g, 0, [v1], rfl, hF, rfl, fun j u hj => by match j, hj with | 0, hj => simp at hj; subst hj; unfold World.cell?; rw [hg]; rfl, v1, rfl, h1⟩
theorem RSl.lit3 {α : Type} {sz : Nat} {R : World → List Value → α → Prop} {F : Nat → Prop} {w : World} {g : Nat} {v0 v1 v2 : Value} {l0 l1 l2 : List α} {e : TypeId} {fr : Nat × Nat} (hg : w.heap[g]? = some (.cells #[v0, v1, v2] e fr)) (hF : F g) (h0 : RdS sz R F w v0 l0) (h1 : RdS sz R F w v1 l1) (h2 : RdS sz R F w v2 l2) :
    RdS 1 (RSl sz R F) F w (.slice (some ⟨g, 0, none⟩) 3 3) [l0, l1, l2] := by
  refine ⟨_, 3, rfl, by simp, by simp [maxLen], fun h => by simp at h, fun i x hi => ?_⟩
  match i, hi with
  | 0, hi => simp at hi; subst hi; exact ⟨g, 0, [v0], rfl, hF, rfl, fun j u hj => by match j, hj with | 0, hj => simp at hj; subst hj; unfold World.cell?; rw [hg]; rfl, v0, rfl, h0⟩
  | 1, hi => simp at hi; subst hi; exact ⟨g, 0, [v1], rfl, hF, rfl, fun j u hj => by match j, hj with | 0, hj => simp at hj; subst hj; unfold World.cell?; rw [hg]; rfl, v1, rfl, h1⟩
  | 2, hi => simp at hi; subst hi; exact ⟨g, 0, [v2], rfl, hF, rfl, fun j u hj => by match j, hj with | 0, hj => simp at hj; subst hj; unfold World.cell?; rw [hg]; rfl, v2, rfl, h2⟩
def tornL : Bs := [60, 97, 32, 104, 114, 101, 102, 61, 39, 120, 39, 62, 38, 108, 116, 59, 60, 33, 45, 45, 121]
def tornT : List Tok := [⟨2, [97], [], [120]⟩, ⟨1, [], [60], []⟩, ⟨4, [], [], []⟩]
theorem pageF_len (n : Nat) : ∀ s : Bs, (pageF n s).length ≤ 2 * n := by
  induction n with
  | zero => intro s; simp [pageF]
  | succ n ih =>
    intro s
    rw [pageF, List.length_append]
    have h1 : (if s.takeWhile (· != 60) = [] then [] else [tText (readE (s.takeWhile (· != 60)))]).length ≤ 1 := by split <;> simp
    have h2 : ∀ (t : Tok) (r : Bs), (t :: pageF n r).length ≤ 2 * n + 1 := fun t r => by have := ih r; simp; omega
    have h3 : (match s.dropWhile (· != 60) with
      | [] => ([] : List Tok)
      | c :: u =>
        if sCom.isPrefixOf (c :: u) = true then tOther :: pageF n (cutC (u.drop 3))
        else match u with
          | [] => tText [60] :: pageF n []
          | d :: v =>
            if d = 33 ∨ d = 63 then tOther :: pageF n (cut1 62 (c :: d :: v)).2.1
            else if isLt d = true then match tagT (d :: v) with
              | none => []
              | some (name, h, r) => ⟨2, name, [], readE h⟩ :: pageF n r
            else if d = 47 ∧ (v.head?.map isLt) = some true then match tagT v with
              | none => []
              | some (name, _, r) => ⟨3, name, [], []⟩ :: pageF n r
            else tText [60] :: pageF n (d :: v)).length ≤ 2 * n + 1 := by
      repeat' split
      all_goals first | exact h2 _ _ | simp
    exact Nat.le_trans (Nat.add_le_add h1 h3) (by omega)
theorem pageT_len (s : Bs) : (pageT s).length ≤ 2 * (s.length + 1) := pageF_len _ _
theorem torn_page : pageP tornL = (tornT, 0) := by decide +kernel
end Go.Mh
namespace Go.Proofs.Ytgodceplajkcdaa
open Go.RowKit Go.Mh

theorem tokPage_p {F : Nat → Prop} {v : Value} {l : Bs} {w : World} (p : List Tok × Int) (hp : pageP l = p) (h : RBytes F w v l) (hm : ∃ m, w.cell? ⟨0, 0, none⟩ = some (.int .i64 m)) :
    Calls Try.prog 21 #[v] w fun e w' => ∃ r, e = .returned (.tuple #[r, .int .i64 p.2]) ∧ RToks (w.heap.size ≤ ·) w' r p.1 ∧ Below w.heap.size w w' := by
  subst hp
  exact tokPage_any F v l w h hm
theorem somec {w w' : World} (h : ∃ m, w.cell? ⟨0, 0, none⟩ = some (.int .i64 m)) (hb : Below w.heap.size w w') : ∃ m, w'.cell? ⟨0, 0, none⟩ = some (.int .i64 m) := by
  obtain ⟨m, hm⟩ := h
  exact ⟨m, (hb.cell (lt_of_cell hm)).trans hm⟩

set_option maxRecDepth 100000 in
set_option maxHeartbeats 1000000 in
theorem torn_any (w : World) (hm : ∃ m, w.cell? ⟨0, 0, none⟩ = some (.int .i64 m)) :
    Calls Try.prog 23 #[] w fun e w' => e = .returned (.bool true) ∧ Below w.heap.size w w' := by
  go_enter Try.func23, Try.ntmps23
  have hcv := fun (w : World) (C : Array Value) (n c : Nat) => Lib.run_convert_bytes_const (P := Try.prog) w 27 5 C n c Try.underlying27 Try.underlying5
  have hM := Lib.hid hm
  clear hm
  go_wp2_with fail
  refine (tokPage_p (F := fun _ => True) (tornT, 0) torn_page (RBytes.lit (n := 21) (cap := 21) (heap_new w _) rfl (by decide) (by decide) trivial rfl) (somec hM.out (bal (brf _) _))).mono ?_
  rintro e w1 ⟨r, rfl, hr, hb⟩
  obtain ⟨ra, rc, rfl, _⟩ := RdS.len hr
  have hB := btr (bal (brf w) _) hb
  have hr' := Lib.hid hr
  clear hr hb
  go_wp2_with fail
  refine (eqToks_any (fun _ => True) (fun _ => True) _ _ tornT tornT _ (hr'.out.to (fun k _ hk => ⟨trivial, (bal (brf _) _).block k hk⟩)) (RToks.lit (heap_new _ _) rfl (by decide) (by decide) trivial (fun i x hi => ?_))).mono ?_
  · match i, hi with
    | 0, hi => simp [tornT] at hi; subst hi; exact ⟨rfl, rfl, rfl, rfl⟩
    | 1, hi => simp [tornT] at hi; subst hi; exact ⟨rfl, rfl, rfl, rfl⟩
    | 2, hi => simp [tornT] at hi; subst hi; exact ⟨rfl, rfl, rfl, rfl⟩
    | n + 3, hi => simp [tornT] at hi
  rintro e w2 ⟨rfl, hb2⟩
  rw [decide_eq_true rfl]
  go_wp2
  go_ret
  exact ⟨rfl, btr (bal hB _) hb2⟩

theorem heap_old {w : World} {g : Nat} {o : Obj} (h : w.heap[g]? = some o) (o' : Obj) : (w.alloc o').heap[g]? = some o := by
  have hg := lt_of_heap h
  rw [(bal (brf w) o').block g hg]; exact h

theorem heap_old2 (w : World) (o o' : Obj) : ((w.alloc o).alloc o').heap[w.heap.size]? = some o := heap_old (heap_new w o) o'
theorem heap_new2 (w : World) (o o' : Obj) : ((w.alloc o).alloc o').heap[w.heap.size + 1]? = some o' := by
  have h := heap_new (w.alloc o) o'
  rwa [show (w.alloc o).heap.size = w.heap.size + 1 by simp] at h

set_option maxRecDepth 100000 in
set_option maxHeartbeats 8000000 in
theorem tokenParts_walk (F G : Nat → Prop) (v u : Value) (A B : Bs) (w : World) (h : RBytes F w v A) (g : RBytes G w u B) (hm : ∃ m, w.cell? ⟨0, 0, none⟩ = some (.int .i64 m)) (hA : A.length ≤ 140737488351232) (hBl : B.length ≤ 140737488351232) :
    Calls Try.prog 4 #[v, u] w fun e w' => e = .returned (.bool true) ∧ Below w.heap.size w w' := by
  have HA := Lib.hid (fun w' (hb : Below w.heap.size w w') => h.to (F' := fun _ => True) (fun k _ hk => ⟨trivial, hb.block k hk⟩))
  have HB := Lib.hid (fun w' (hb : Below w.heap.size w w') => g.to (F' := fun _ => True) (fun k _ hk => ⟨trivial, hb.block k hk⟩))
  obtain ⟨a, ac, rfl, hla⟩ := RdS.len h
  obtain ⟨b, bc, rfl, hlb⟩ := RdS.len g
  have H := Lib.hid h
  have hM := Lib.hid (fun w' (hb : Below w.heap.size w w') => somec hm hb)
  clear h g hm
  have hcv := fun (w : World) (C : Array Value) (n c : Nat) => Lib.run_convert_bytes_const (P := Try.prog) w 27 5 C n c Try.underlying27 Try.underlying5
  have hw1 : wrap64 ((20000 : Int) - (A.length : Int)) = (20000 : Int) - (A.length : Int) := by unfold wrap64; omega
  have hw2 : wrap64 ((20000 : Int) - (A.length : Int) - 10) = (20000 : Int) - (A.length : Int) - 10 := by unfold wrap64; omega
  have hfl : [A, qTag].flatten = A ++ qTag := by simp
  have htg := heap_old2 w (.cells #[.int .u8 60, .int .u8 113, .int .u8 62] 5 (3, 4)) (.cells #[.slice a A.length ac, .slice (some ⟨w.heap.size, 0, none⟩) 3 3] 27)
  have C := Lib.hid (concatB (fun _ => True) (.slice (some ⟨w.heap.size + 1, 0, none⟩) 2 2) [A, qTag] ((w.alloc (.cells #[.int .u8 60, .int .u8 113, .int .u8 62] 5 (3, 4))).alloc (.cells #[.slice a A.length ac, .slice (some ⟨w.heap.size, 0, none⟩) 3 3] 27)) (RSl.lit2 (heap_new2 w _ _) trivial (HA.out _ (bal (bal (brf w) _) _)) (RBytes.lit (n := 3) (cap := 3) htg rfl (by decide) (by decide) trivial rfl)) (by simp) (by rw [hfl]; simp [qTag]; omega) (by rw [hfl]; simp [qTag]))
  obtain ⟨AQ, hq1⟩ : ∃ c, A ++ qTag = c := ⟨_, rfl⟩
  rw [hfl, hq1] at C
  have hAQl : Hid (AQ.length = A.length + 3) := Lib.hid (by rw [← hq1]; simp [qTag])
  have hAQ := Lib.hid hq1
  clear hq1
  go_enter Try.func4, Try.ntmps4
  go_wp2_with fail
  refine C.out.mono ?_
  rintro e w1 ⟨r1, rfl, hr1, hb1⟩
  obtain ⟨a1, c1, rfl, _⟩ := RdS.len hr1.rd
  have hB1 : Below w.heap.size w w1 := (bal (bal (brf w) _) _).trans (hb1.mono (by simp; omega))
  have hr1' := Lib.hid hr1
  have htag := Lib.hid ((hb1.block w.heap.size (by simp; omega)).trans htg)
  have C2 := Lib.hid (tokPage_p (F := fun _ => True) (v := .slice a1 AQ.length c1) (l := AQ) (w := w1) (pageP AQ) rfl (RdS.to hr1.rd (by decide) (fun _ _ _ => ⟨trivial, rfl⟩) (fun _ _ _ r => r)) (hM.out _ hB1))
  clear hr1 hb1 htg C
  go_wp2_with fail
  refine C2.out.mono ?_
  rintro e w2 ⟨r2, rfl, hr2, hb2⟩
  obtain ⟨a2, c2, rfl, _⟩ := RdS.len hr2
  have hB2 := btr hB1 hb2
  have htag2 := Lib.hid ((hb2.block w.heap.size (lt_of_heap htag.out)).trans htag.out)
  have hr2' := Lib.hid hr2
  have hP := Lib.hid (show pageP AQ = if 20000 < AQ.length then ([], 2) else (pageT AQ, 0) from rfl)
  clear hr1' hr2 hb2 htag hfl hcv
  go_wp2_with fail
  refine (torn_any w2 (hM.out _ hB2)).mono ?_
  rintro e w3 ⟨rfl, hb3⟩
  have hB3 := btr hB2 hb3
  have htag3 := Lib.hid ((hb3.block w.heap.size (lt_of_heap htag2.out)).trans htag2.out)
  have hr3 := Lib.hid (hr2'.out.to (F' := fun _ => True) (fun k _ hk => ⟨trivial, hb3.block k hk⟩))
  clear htag2 hr2' hb3
  by_cases hlong : 20000 < AQ.length
  · have e0 := hP.out
    rw [if_pos hlong] at e0
    rw [e0]
    clear hP e0 hr3
    go_wp2_with fail
    refine (torn_any _ (hM.out _ hB3)).mono ?_
    rintro e w4 ⟨rfl, hb4⟩
    go_wp2
    go_ret
    exact ⟨rfl, btr hB3 hb4⟩
  · have e0 := hP.out
    rw [if_neg hlong] at e0
    rw [e0] at hr3 ⊢
    have hAl : A.length + 3 ≤ 20000 := by have := hAQl.out; omega
    clear hP e0 hlong
    by_cases hb : (20000 : Int) - (A.length : Int) - 10 < (B.length : Int)
    · go_wp2_with fail
      refine (torn_any _ (hM.out _ hB3)).mono ?_
      rintro e w4 ⟨rfl, hb4⟩
      go_wp2
      go_ret
      exact ⟨rfl, btr hB3 hb4⟩
    · rcases List.eq_nil_or_concat (pageT AQ) with hT | ⟨T, x, hT⟩
      · rw [hT] at hr3 ⊢
        clear hT
        go_wp2_with fail
        refine (torn_any _ (hM.out _ hB3)).mono ?_
        rintro e w4 ⟨rfl, hb4⟩
        go_wp2
        go_ret
        exact ⟨rfl, btr hB3 hb4⟩
      · rw [hT, List.concat_eq_append] at hr3
        rw [hT, List.concat_eq_append]
        rw [List.concat_eq_append] at hT
        have hT' := Lib.hid hT
        clear hT
        obtain ⟨b2, o2, e2, d0, d1, d2, d3⟩ := RToks.at hr3.out (brf _) (k := T.length) (x := x) (by simp)
        cases e2
        have hgd := guard_Tok
        have hln : (T ++ [x]).length = T.length + 1 := by simp
        rw [hln] at hr3 ⊢
        have hcmp : ∀ w, (binOp .neq 33 (.agg #[.int .i64 x.k, str x.name, str x.text, str x.href]) (.agg #[.int .i64 2, .string ⟨#[113]⟩, .string ⟨#[]⟩, .string ⟨#[]⟩])).run Try.prog w = .ok (.bool (!decide (x = tokQ))) w := fun w => neqTok x tokQ w
        have hw3 : wrap64 (T.length : Int) = (T.length : Int) := by have := hr3.out; obtain ⟨_, _, _, h⟩ := RdS.len this; simp at h; unfold wrap64; omega
        have hz0 : ((T.length : Int) + 1 == 0) = false := by rw [beq_eq_false_iff_ne]; omega
        have hbb : decide ((20000 : Int) - (A.length : Int) - 10 < (B.length : Int)) = false := by simpa using hb
        have hbl : (B.length : Int) ≤ 20000 := by omega
        have hbl2 : (B.length : Int) + (A.length : Int) + 10 ≤ 20000 := by omega
        clear hb
        by_cases hx : x = tokQ
        · have hd : decide (x = tokQ) = true := by simpa using hx
          simp only [hd, Bool.not_true] at hcmp
          have hx' := Lib.hid hx
          clear hx hd
          rcases List.eq_nil_or_concat A with hA0 | ⟨A0, c, hA0⟩
          · have hgt : Hid (A = [] ∨ ∃ t, A = t ++ [62]) := Lib.hid (Or.inl hA0)
            have hp0 : ¬ 0 < A.length := by rw [hA0]; simp
            clear hA0
            obtain ⟨xk, xn, xt, xh⟩ := x
            have hPA : pageP A = (pageT A, 0) := if_neg (by omega)
            have hPB : pageP B = (pageT B, 0) := if_neg (by omega)
            have hlA := pageT_len A
            have hlB := pageT_len B
            have hlQ := pageT_len AQ
            have hlQ' : T.length + 1 ≤ 2 * (A.length + 4) := by rw [hT'.out] at hlQ; have := hAQl.out; simp at hlQ; omega
            clear hlQ
            have HL := Lib.hid (fun w' (hb : Below w3.heap.size w3 w') => hr3.out.to (F' := fun _ => True) (fun k _ hk => ⟨trivial, hb.block k hk⟩))
            have hct : ¬ c2 = T.length := by have := hr3.out.capLe; omega
            clear hr3
            have C3 := Lib.hid (tokPage_p (F := fun _ => True) (v := .slice a A.length ac) (l := A) (w := w3) (pageT A, 0) hPA (HA.out _ hB3) (hM.out _ hB3))
            clear hPA
            go_wp2_with fail
            refine C3.out.mono ?_
            rintro e w5 ⟨r5, rfl, hr5, hb5⟩
            obtain ⟨a5, c5, rfl, _⟩ := RdS.len hr5
            have hB5 := btr hB3 hb5
            have htail := RdS.dropC (HL.out _ hb5) T.length (by omega)
            rw [List.drop_left, Nat.add_sub_cancel_left] at htail
            have hfl4 : [pageT A, [(⟨xk, xn, xt, xh⟩ : Tok)]].flatten = pageT A ++ [⟨xk, xn, xt, xh⟩] := by simp
            have C4 := Lib.hid (concatT (fun _ => True) (.slice (some ⟨w5.heap.size, 0, none⟩) 2 2) [pageT A, [(⟨xk, xn, xt, xh⟩ : Tok)]] (w5.alloc (.cells #[.slice a5 (pageT A).length c5, .slice (some ⟨b2, o2 + T.length * 4, none⟩) 1 (c2 - T.length)] 28))
              (RSl.lit2 (heap_new w5 _) trivial (RdS.to hr5 (by decide) (fun k _ hk => ⟨trivial, (bal (brf w5) _).block k hk⟩) (fun _ _ _ r => r)) (htail.to (by decide) (fun k _ hk => ⟨trivial, (bal (brf w5) _).block k hk⟩) (fun _ _ _ r => r))) (by simp) (by rw [hfl4]; simp; omega) (by rw [hfl4]; simp))
            rw [hfl4] at C4
            have hB35 := Lib.hid hb5
            have HL5 := Lib.hid (fun w' (hb : Below w5.heap.size w5 w') => HL.out w' (btr hb5 hb))
            clear HL hfl4 htail hr5 hb5 C3
            go_wp2_with fail
            (try simp only [Nat.add_sub_cancel_left])
            refine C4.out.mono ?_
            rintro e w6 ⟨r6, rfl, hr6, hb6⟩
            have hB56 := (bal (brf w5) (.cells #[.slice a5 (pageT A).length c5, .slice (some ⟨b2, o2 + T.length * 4, none⟩) 1 (c2 - T.length)] 28)).trans (hb6.mono (by simp))
            have hB6 := btr hB5 hB56
            obtain ⟨a6, c6, rfl, _⟩ := RdS.len hr6.rd
            have C6 := Lib.hid (eqToks_any (fun _ => True) (fun _ => True) _ _ _ _ w6 (hr6.rd.to (by decide) (fun k _ _ => ⟨trivial, rfl⟩) (fun _ _ _ r => r)) (HL5.out _ hB56))
            have hB36 := Lib.hid (btr hB35.out hB56)
            have HL6 := Lib.hid (fun w' (hb : Below w6.heap.size w6 w') => HL5.out w' (btr hB56 hb))
            clear hr6 hb6 HL5 hB56 C4
            simp only [List.length_append, List.length_singleton] at C6 HL6 ⊢
            go_wp2_with fail
            refine C6.out.mono ?_
            rintro e w7 ⟨rfl, hb7⟩
            clear C6
            have hB7 := btr hB6 hb7
            by_cases heq : pageT A ++ [(⟨xk, xn, xt, xh⟩ : Tok)] = T ++ [⟨xk, xn, xt, xh⟩]
            · rw [decide_eq_true heq]
              have hlaw := Lib.hid (law_parts (b := B) hgt.out (by rw [hAQ.out, hT'.out, ← heq, hx'.out]))
              have hB37 := Lib.hid (btr hB36.out hb7)
              have HL7 := Lib.hid (fun w' (hb : Below w7.heap.size w7 w') => HL6.out w' (btr hb7 hb))
              clear heq HL6
              have C5 := Lib.hid (tokPage_p (F := fun _ => True) (v := .slice b B.length bc) (l := B) (w := w7) (pageT B, 0) hPB (HB.out _ hB7) (hM.out _ hB7))
              clear hPB
              go_wp2_with fail
              refine C5.out.mono ?_
              rintro e w8 ⟨r8, rfl, hr8, hb8⟩
              obtain ⟨a8, c8, rfl, _⟩ := RdS.len hr8
              have hB8 := btr hB7 hb8
              have HL8 := Lib.hid (fun w' (hb : Below w8.heap.size w8 w') => HL7.out w' (btr hb8 hb))
              have HM8 := Lib.hid (fun w' (hb : Below w8.heap.size w8 w') => RdS.to hr8 (F' := fun _ => True) (R' := RTok) (w' := w') (by decide) (fun k _ hk => ⟨trivial, hb.block k hk⟩) (fun _ _ _ r => r))
              have hB38 : Below w3.heap.size w3 w8 := btr hB37.out hb8
              have htg8 := (hB38.block _ (lt_of_heap htag3.out)).trans htag3.out
              have hfl9 : [A, qTag, B].flatten = A ++ qTag ++ B := by simp
              have C9 := Lib.hid (concatB (fun _ => True) (.slice (some ⟨w8.heap.size, 0, none⟩) 3 3) [A, qTag, B] (w8.alloc (.cells #[.slice a A.length ac, .slice (some ⟨w.heap.size, 0, none⟩) 3 3, .slice b B.length bc] 27)) (RSl.lit3 (heap_new w8 _) trivial (HA.out _ (bal hB8 _)) (RBytes.lit (n := 3) (cap := 3) (heap_old htg8 _) rfl (by decide) (by decide) trivial rfl) (HB.out _ (bal hB8 _))) (by simp) (by rw [hfl9]; simp [qTag]; omega) (by rw [hfl9]; simp [qTag]; omega))
              obtain ⟨ABQ, hq2⟩ : ∃ c, A ++ qTag ++ B = c := ⟨_, rfl⟩
              rw [hfl9, hq2] at C9
              have hlC : ABQ.length ≤ 20000 := by rw [← hq2]; simp [qTag]; omega
              have hPC : pageP ABQ = (pageT ABQ, 0) := if_neg (by omega)
              rw [hq2] at hlaw
              clear hfl9 hq2 htg8 hB38 HL7 hr8 hb8 C5
              go_wp2_with fail
              refine C9.out.mono ?_
              rintro e w9 ⟨r9, rfl, hr9, hb9⟩
              obtain ⟨a9, c9, rfl, _⟩ := RdS.len hr9.rd
              have hB89 := (bal (brf w8) (.cells #[.slice a A.length ac, .slice (some ⟨w.heap.size, 0, none⟩) 3 3, .slice b B.length bc] 27)).trans (hb9.mono (by simp))
              have hB9 := btr hB8 hB89
              have C10 := Lib.hid (tokPage_p (F := fun _ => True) (v := .slice a9 ABQ.length c9) (l := ABQ) (w := w9) (pageT ABQ, 0) hPC (RdS.to hr9.rd (by decide) (fun _ _ _ => ⟨trivial, rfl⟩) (fun _ _ _ r => r)) (hM.out _ hB9))
              clear hr9 hb9 hPC C9
              go_wp2_with fail
              refine C10.out.mono ?_
              rintro e w10 ⟨r10, rfl, hr10, hb10⟩
              obtain ⟨a10, c10, rfl, _⟩ := RdS.len hr10
              have hB10 := btr hB9 hb10
              have hB810 := btr hB89 hb10
              have hfl11 : [T ++ [(⟨xk, xn, xt, xh⟩ : Tok)], pageT B].flatten = T ++ [⟨xk, xn, xt, xh⟩] ++ pageT B := by simp
              have C11 := Lib.hid (concatT (fun _ => True) (.slice (some ⟨w10.heap.size, 0, none⟩) 2 2) [T ++ [(⟨xk, xn, xt, xh⟩ : Tok)], pageT B] (w10.alloc (.cells #[.slice (some ⟨b2, o2, none⟩) (T.length + 1) c2, .slice a8 (pageT B).length c8] 28))
                (RSl.lit2 (heap_new w10 _) trivial (HL8.out _ (bal hB810 _)) (HM8.out _ (bal hB810 _))) (by simp) (by rw [hfl11]; simp; omega) (by rw [hfl11]; simp; omega))
              rw [hfl11] at C11
              have HR := Lib.hid (fun w' (hb : Below w10.heap.size w10 w') => RdS.to hr10 (F' := fun _ => True) (R' := RTok) (w' := w') (by decide) (fun k _ hk => ⟨trivial, hb.block k hk⟩) (fun _ _ _ r => r))
              clear hfl11 hr10 hb10 HL8 HM8 C10
              go_wp2_with fail
              refine C11.out.mono ?_
              rintro e w11 ⟨r11, rfl, hr11, hb11⟩
              have hB1011 := (bal (brf w10) (.cells #[.slice (some ⟨b2, o2, none⟩) (T.length + 1) c2, .slice a8 (pageT B).length c8] 28)).trans (hb11.mono (by simp))
              have hB11 := btr hB10 hB1011
              have C12 := Lib.hid (eqToks_any (fun _ => True) (fun _ => True) _ _ _ _ w11 (HR.out _ hB1011) (hr11.rd.to (by decide) (fun k _ _ => ⟨trivial, rfl⟩) (fun _ _ _ r => r)))
              rw [decide_eq_true (by have := hlaw.out; rw [hAQ.out, hT'.out] at this; exact this)] at C12
              clear hr11 hb11 HR C11
              go_wp2_with fail
              refine C12.out.mono ?_
              rintro e w12 ⟨rfl, hb12⟩
              go_wp2
              go_ret
              exact ⟨rfl, btr hB11 hb12⟩
            · rw [decide_eq_false heq]
              clear heq
              go_wp2
              go_ret
              exact ⟨rfl, hB7⟩
          · rw [List.concat_eq_append] at hA0
            have hp0 : 0 < A.length := by rw [hA0]; simp
            have hwA : wrap64 ((A.length : Int) - 1) = (A0.length : Int) := by rw [hA0]; unfold wrap64; simp; rw [hA0] at hAl; simp at hAl; omega
            have hA0l : (A0.length : Int) < (A.length : Int) := by rw [hA0]; simp <;> omega
            obtain ⟨b0, o0, e0, f0⟩ := RBytes.at H.out hB3 (k := A.length - 1) (x := c) (by rw [hA0]; simp)
            cases e0
            obtain ⟨xk, xn, xt, xh⟩ := x
            by_cases hc : c = 62
            · subst hc
              have hgt : Hid (A = [] ∨ ∃ t, A = t ++ [62]) := Lib.hid (Or.inr ⟨_, hA0⟩)
              clear hA0
              have hPA : pageP A = (pageT A, 0) := if_neg (by omega)
              have hPB : pageP B = (pageT B, 0) := if_neg (by omega)
              have hlA := pageT_len A
              have hlB := pageT_len B
              have hlQ := pageT_len AQ
              have hlQ' : T.length + 1 ≤ 2 * (A.length + 4) := by rw [hT'.out] at hlQ; have := hAQl.out; simp at hlQ; omega
              clear hlQ
              have HL := Lib.hid (fun w' (hb : Below w3.heap.size w3 w') => hr3.out.to (F' := fun _ => True) (fun k _ hk => ⟨trivial, hb.block k hk⟩))
              have hct : ¬ c2 = T.length := by have := hr3.out.capLe; omega
              clear hr3
              have C3 := Lib.hid (tokPage_p (F := fun _ => True) (v := .slice (some ⟨b0, o0, none⟩) A.length ac) (l := A) (w := w3) (pageT A, 0) hPA (HA.out _ hB3) (hM.out _ hB3))
              clear hPA
              go_wp2_with fail
              refine C3.out.mono ?_
              rintro e w5 ⟨r5, rfl, hr5, hb5⟩
              obtain ⟨a5, c5, rfl, _⟩ := RdS.len hr5
              have hB5 := btr hB3 hb5
              have htail := RdS.dropC (HL.out _ hb5) T.length (by omega)
              rw [List.drop_left, Nat.add_sub_cancel_left] at htail
              have hfl4 : [pageT A, [(⟨xk, xn, xt, xh⟩ : Tok)]].flatten = pageT A ++ [⟨xk, xn, xt, xh⟩] := by simp
              have C4 := Lib.hid (concatT (fun _ => True) (.slice (some ⟨w5.heap.size, 0, none⟩) 2 2) [pageT A, [(⟨xk, xn, xt, xh⟩ : Tok)]] (w5.alloc (.cells #[.slice a5 (pageT A).length c5, .slice (some ⟨b2, o2 + T.length * 4, none⟩) 1 (c2 - T.length)] 28))
                (RSl.lit2 (heap_new w5 _) trivial (RdS.to hr5 (by decide) (fun k _ hk => ⟨trivial, (bal (brf w5) _).block k hk⟩) (fun _ _ _ r => r)) (htail.to (by decide) (fun k _ hk => ⟨trivial, (bal (brf w5) _).block k hk⟩) (fun _ _ _ r => r))) (by simp) (by rw [hfl4]; simp; omega) (by rw [hfl4]; simp))
              rw [hfl4] at C4
              have hB35 := Lib.hid hb5
              have HL5 := Lib.hid (fun w' (hb : Below w5.heap.size w5 w') => HL.out w' (btr hb5 hb))
              clear HL hfl4 htail hr5 hb5 C3
              go_wp2_with fail
              (try simp only [Nat.add_sub_cancel_left])
              refine C4.out.mono ?_
              rintro e w6 ⟨r6, rfl, hr6, hb6⟩
              have hB56 := (bal (brf w5) (.cells #[.slice a5 (pageT A).length c5, .slice (some ⟨b2, o2 + T.length * 4, none⟩) 1 (c2 - T.length)] 28)).trans (hb6.mono (by simp))
              have hB6 := btr hB5 hB56
              obtain ⟨a6, c6, rfl, _⟩ := RdS.len hr6.rd
              have C6 := Lib.hid (eqToks_any (fun _ => True) (fun _ => True) _ _ _ _ w6 (hr6.rd.to (by decide) (fun k _ _ => ⟨trivial, rfl⟩) (fun _ _ _ r => r)) (HL5.out _ hB56))
              have hB36 := Lib.hid (btr hB35.out hB56)
              have HL6 := Lib.hid (fun w' (hb : Below w6.heap.size w6 w') => HL5.out w' (btr hB56 hb))
              clear hr6 hb6 HL5 hB56 C4
              simp only [List.length_append, List.length_singleton] at C6 HL6 ⊢
              go_wp2_with fail
              refine C6.out.mono ?_
              rintro e w7 ⟨rfl, hb7⟩
              clear C6
              have hB7 := btr hB6 hb7
              by_cases heq : pageT A ++ [(⟨xk, xn, xt, xh⟩ : Tok)] = T ++ [⟨xk, xn, xt, xh⟩]
              · rw [decide_eq_true heq]
                have hlaw := Lib.hid (law_parts (b := B) hgt.out (by rw [hAQ.out, hT'.out, ← heq, hx'.out]))
                have hB37 := Lib.hid (btr hB36.out hb7)
                have HL7 := Lib.hid (fun w' (hb : Below w7.heap.size w7 w') => HL6.out w' (btr hb7 hb))
                clear heq HL6
                have C5 := Lib.hid (tokPage_p (F := fun _ => True) (v := .slice b B.length bc) (l := B) (w := w7) (pageT B, 0) hPB (HB.out _ hB7) (hM.out _ hB7))
                clear hPB
                go_wp2_with fail
                refine C5.out.mono ?_
                rintro e w8 ⟨r8, rfl, hr8, hb8⟩
                obtain ⟨a8, c8, rfl, _⟩ := RdS.len hr8
                have hB8 := btr hB7 hb8
                have HL8 := Lib.hid (fun w' (hb : Below w8.heap.size w8 w') => HL7.out w' (btr hb8 hb))
                have HM8 := Lib.hid (fun w' (hb : Below w8.heap.size w8 w') => RdS.to hr8 (F' := fun _ => True) (R' := RTok) (w' := w') (by decide) (fun k _ hk => ⟨trivial, hb.block k hk⟩) (fun _ _ _ r => r))
                have hB38 : Below w3.heap.size w3 w8 := btr hB37.out hb8
                have htg8 := (hB38.block _ (lt_of_heap htag3.out)).trans htag3.out
                have hfl9 : [A, qTag, B].flatten = A ++ qTag ++ B := by simp
                have C9 := Lib.hid (concatB (fun _ => True) (.slice (some ⟨w8.heap.size, 0, none⟩) 3 3) [A, qTag, B] (w8.alloc (.cells #[.slice (some ⟨b0, o0, none⟩) A.length ac, .slice (some ⟨w.heap.size, 0, none⟩) 3 3, .slice b B.length bc] 27)) (RSl.lit3 (heap_new w8 _) trivial (HA.out _ (bal hB8 _)) (RBytes.lit (n := 3) (cap := 3) (heap_old htg8 _) rfl (by decide) (by decide) trivial rfl) (HB.out _ (bal hB8 _))) (by simp) (by rw [hfl9]; simp [qTag]; omega) (by rw [hfl9]; simp [qTag]; omega))
                obtain ⟨ABQ, hq2⟩ : ∃ c, A ++ qTag ++ B = c := ⟨_, rfl⟩
                rw [hfl9, hq2] at C9
                have hlC : ABQ.length ≤ 20000 := by rw [← hq2]; simp [qTag]; omega
                have hPC : pageP ABQ = (pageT ABQ, 0) := if_neg (by omega)
                rw [hq2] at hlaw
                clear hfl9 hq2 htg8 hB38 HL7 hr8 hb8 C5
                go_wp2_with fail
                refine C9.out.mono ?_
                rintro e w9 ⟨r9, rfl, hr9, hb9⟩
                obtain ⟨a9, c9, rfl, _⟩ := RdS.len hr9.rd
                have hB89 := (bal (brf w8) (.cells #[.slice (some ⟨b0, o0, none⟩) A.length ac, .slice (some ⟨w.heap.size, 0, none⟩) 3 3, .slice b B.length bc] 27)).trans (hb9.mono (by simp))
                have hB9 := btr hB8 hB89
                have C10 := Lib.hid (tokPage_p (F := fun _ => True) (v := .slice a9 ABQ.length c9) (l := ABQ) (w := w9) (pageT ABQ, 0) hPC (RdS.to hr9.rd (by decide) (fun _ _ _ => ⟨trivial, rfl⟩) (fun _ _ _ r => r)) (hM.out _ hB9))
                clear hr9 hb9 hPC C9
                go_wp2_with fail
                refine C10.out.mono ?_
                rintro e w10 ⟨r10, rfl, hr10, hb10⟩
                obtain ⟨a10, c10, rfl, _⟩ := RdS.len hr10
                have hB10 := btr hB9 hb10
                have hB810 := btr hB89 hb10
                have hfl11 : [T ++ [(⟨xk, xn, xt, xh⟩ : Tok)], pageT B].flatten = T ++ [⟨xk, xn, xt, xh⟩] ++ pageT B := by simp
                have C11 := Lib.hid (concatT (fun _ => True) (.slice (some ⟨w10.heap.size, 0, none⟩) 2 2) [T ++ [(⟨xk, xn, xt, xh⟩ : Tok)], pageT B] (w10.alloc (.cells #[.slice (some ⟨b2, o2, none⟩) (T.length + 1) c2, .slice a8 (pageT B).length c8] 28))
                  (RSl.lit2 (heap_new w10 _) trivial (HL8.out _ (bal hB810 _)) (HM8.out _ (bal hB810 _))) (by simp) (by rw [hfl11]; simp; omega) (by rw [hfl11]; simp; omega))
                rw [hfl11] at C11
                have HR := Lib.hid (fun w' (hb : Below w10.heap.size w10 w') => RdS.to hr10 (F' := fun _ => True) (R' := RTok) (w' := w') (by decide) (fun k _ hk => ⟨trivial, hb.block k hk⟩) (fun _ _ _ r => r))
                clear hfl11 hr10 hb10 HL8 HM8 C10
                go_wp2_with fail
                refine C11.out.mono ?_
                rintro e w11 ⟨r11, rfl, hr11, hb11⟩
                have hB1011 := (bal (brf w10) (.cells #[.slice (some ⟨b2, o2, none⟩) (T.length + 1) c2, .slice a8 (pageT B).length c8] 28)).trans (hb11.mono (by simp))
                have hB11 := btr hB10 hB1011
                have C12 := Lib.hid (eqToks_any (fun _ => True) (fun _ => True) _ _ _ _ w11 (HR.out _ hB1011) (hr11.rd.to (by decide) (fun k _ _ => ⟨trivial, rfl⟩) (fun _ _ _ r => r)))
                rw [decide_eq_true (by have := hlaw.out; rw [hAQ.out, hT'.out] at this; exact this)] at C12
                clear hr11 hb11 HR C11
                go_wp2_with fail
                refine C12.out.mono ?_
                rintro e w12 ⟨rfl, hb12⟩
                go_wp2
                go_ret
                exact ⟨rfl, btr hB11 hb12⟩
              · rw [decide_eq_false heq]
                clear heq
                go_wp2
                go_ret
                exact ⟨rfl, hB7⟩
            · have hcb : ((c.toNat : Int) != 62) = true := by
                have : (c == 62) = false := by simpa using hc
                rw [u8eq c 62] at this
                simpa using this
              clear hc hA0
              go_wp2_with fail
              refine (torn_any _ (hM.out _ hB3)).mono ?_
              rintro e w4 ⟨rfl, hb4⟩
              go_wp2
              go_ret
              exact ⟨rfl, btr hB3 hb4⟩
        · have hd : decide (x = tokQ) = false := by simpa using hx
          simp only [hd, Bool.not_false] at hcmp
          clear hx hd
          obtain ⟨xk, xn, xt, xh⟩ := x
          go_wp2_with fail
          refine (torn_any _ (hM.out _ hB3)).mono ?_
          rintro e w4 ⟨rfl, hb4⟩
          go_wp2
          go_ret
          exact ⟨rfl, btr hB3 hb4⟩
end Go.Proofs.Ytgodceplajkcdaa
