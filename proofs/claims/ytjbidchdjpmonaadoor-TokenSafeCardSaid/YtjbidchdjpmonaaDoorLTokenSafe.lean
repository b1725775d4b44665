/- What TokenSafe needs: torn, slices.Contains of names. -/
import Derived.Test.YtjbidchdjpmonaaDoorBy
import Derived.Test.YtjbidchdjpmonaaDoorPlK
namespace Go.Mh
def tornL : Bs := [60, 97, 32, 104, 114, 101, 102, 61, 39, 120, 39, 62, 38, 108, 116, 59, 60, 33, 45, 45, 121]
def tornT : List Tok := [⟨2, [97], [], [120]⟩, ⟨1, [], [60], []⟩, ⟨4, [], [], []⟩]
theorem torn_page : pageP tornL = (tornT, 0) := by decide +kernel
def RStn (_ : World) (cs : List Value) (x : Bs) : Prop := cs = [str x]
def ownZ : List ByteArray := ownNames.map fun l => ⟨l.toArray⟩
theorem contains_iff (L : List Bs) (n : Bs) : Lib.containsS ((L.map fun l => (⟨l.toArray⟩ : ByteArray)).take L.length) ⟨n.toArray⟩ = decide (n ∈ L) := by
  rw [Bool.eq_iff_iff, Lib.containsS_iff, decide_eq_true_eq, show L.length = (L.map fun l => (⟨l.toArray⟩ : ByteArray)).length by simp, List.take_length, List.mem_map]
  exact ⟨fun ⟨a, ha, e⟩ => by rw [(ba_inj a n).1 e] at ha; exact ha, fun h => ⟨n, h, rfl⟩⟩
theorem OwnS.pop {α : Type} {base e sz : Nat} {R : World → List Value → α → Prop} {w : World} {a : Option Addr} {n cap : Nat} {L : List α} {y : α} (h : OwnS base e sz R w (.slice a n cap) (L ++ [y])) : OwnS base e sz R w (.slice a L.length cap) L := by
  obtain ⟨css, ⟨h0, h1⟩, h2, h3⟩ := h
  have hsz : ∀ (i : Nat) (cs : List Value), css[i]? = some cs → cs.length = sz := fun i cs hi => by
    have hl : i < (L ++ [y]).length := by rw [← h2]; exact (List.getElem?_eq_some_iff.1 hi).1
    exact (h3 i cs (L ++ [y])[i] hi (List.getElem?_eq_getElem hl)).1
  have hl2 : css.length = L.length + 1 := by simpa using h2
  have hfl : (css.take L.length).flatten = css.flatten.take (L.length * sz) := by
    have e1 : css.flatten = (css.take L.length).flatten ++ (css.drop L.length).flatten := by rw [← List.flatten_append, List.take_append_drop]
    have e2 : (css.take L.length).flatten.length = L.length * sz := by
      rw [len_flatten (sz := sz) (fun i cs hi => hsz i cs (by rw [List.getElem?_take] at hi; split at hi; exact hi; simp at hi))]
      simp [hl2]
    have e3 := congrArg (List.take (L.length * sz)) e1
    rw [List.take_append_of_le_length (Nat.le_of_eq e2.symm), List.take_of_length_le (Nat.le_of_eq e2)] at e3
    exact e3.symm
  refine ⟨css.take L.length, ⟨?_, ?_⟩, by simp [hl2], fun i cs x hi hx => ?_⟩
  · rw [hfl, List.length_take, h0, Nat.min_eq_left (by simp; exact Nat.mul_le_mul_right _ (Nat.le_succ _))]
  · rcases h1 with ⟨e1, e2⟩ | ⟨g, cap', cur, e1, hb, hh, hn, hm, hs, ht⟩
    · simp at e2
    · injection e1 with e3 e4 e5
      subst e3 e5
      refine Or.inr ⟨g, cap, cur, rfl, hb, hh, by simp at hn; omega, hm, hs, ?_⟩
      rw [hfl, ← ht, List.take_take, Nat.min_eq_left (by simp; exact Nat.mul_le_mul_right _ (Nat.le_succ _))]
  · have hi' : css[i]? = some cs := by rw [List.getElem?_take] at hi; split at hi; exact hi; simp at hi
    have hl : i < L.length := (List.getElem?_eq_some_iff.1 hx).1
    exact h3 i cs x hi' (by rw [List.getElem?_append_left hl]; exact hx)
end Go.Mh
namespace Go.Proofs.YtjbidchdjpmonaaDoor
open Go.RowKit Go.Mh

set_option maxRecDepth 100000 in
set_option maxHeartbeats 1000000 in
theorem torn_any (w : World) (hm : ∃ m, w.cell? ⟨0, 0, none⟩ = some (.int .i64 m)) :
    Calls Tryd.prog 45 #[] w fun e w' => e = .returned (.bool true) ∧ Below w.heap.size w w' := by
  go_enter Tryd.func45, Tryd.ntmps45
  have hcv := fun (w : World) (C : Array Value) (n c : Nat) => Lib.run_convert_bytes_const (P := Tryd.prog) w 47 5 C n c Tryd.underlying47 Tryd.underlying5
  have hM := Lib.hid hm
  clear hm
  go_wp2_with fail
  refine (tokPage_p (F := fun _ => True) (tornT, 0) torn_page (RBytes.lit (n := 21) (cap := 21) (heap_new w _) rfl (by decide) (by decide) trivial rfl) (somec hM.out (bal (brf _) _))).mono ?_
  rintro e w1 ⟨r, rfl, hr, hb⟩
  obtain ⟨ra, rc, rfl, _⟩ := RdS.len hr
  have hB := btr (bal (brf w) _) hb
  have hr' := Lib.hid hr
  clear hr hb
  go_wp2_with fail
  refine (eqToks_any (fun _ => True) (fun _ => True) _ _ tornT tornT _ (hr'.out.to (fun k _ hk => ⟨trivial, (bal (brf _) _).block k hk⟩)) (RToks.lit (heap_new _ _) rfl (by decide) (by decide) trivial (fun i x hi => ?_))).mono ?_
  · match i, hi with
    | 0, hi => simp [tornT] at hi; subst hi; exact ⟨rfl, rfl, rfl, rfl⟩
    | 1, hi => simp [tornT] at hi; subst hi; exact ⟨rfl, rfl, rfl, rfl⟩
    | 2, hi => simp [tornT] at hi; subst hi; exact ⟨rfl, rfl, rfl, rfl⟩
    | n + 3, hi => simp [tornT] at hi
  rintro e w2 ⟨rfl, hb2⟩
  rw [decide_eq_true rfl]
  go_wp2
  go_ret
  exact ⟨rfl, btr (bal hB _) hb2⟩


theorem elStr : El Tryd.prog 42 9 1 16 (.string ⟨#[]⟩) := ⟨Tryd.underlying42, by kernel_rfl, rfl, by decide⟩
theorem contains_names (n : Bs) (w : World) :
    Calls Tryd.prog 41 #[.slice (some ⟨w.heap.size, 0, none⟩) 8 8, str n] (w.alloc (.cells (ownNames.map str).toArray 9)) fun e w' => e = .returned (.bool (decide (n ∈ ownNames))) ∧ w' = w.alloc (.cells (ownNames.map str).toArray 9) := by
  have hcells : ∀ j, j < ownZ.length → (w.alloc (.cells (ownNames.map str).toArray 9)).cell? ⟨w.heap.size, 0 + j, none⟩ = some (.string (ownZ.getD j ByteArray.empty)) := by
    intro j hj
    unfold World.cell?
    rw [heap_new]
    match j, hj with
    | 0, _ => rfl
    | 1, _ => rfl
    | 2, _ => rfl
    | 3, _ => rfl
    | 4, _ => rfl
    | 5, _ => rfl
    | 6, _ => rfl
    | 7, _ => rfl
  have C := Tryd.slices_Contains_string w.heap.size 0 8 8 ownZ ⟨n.toArray⟩ _ (by decide) (by decide) hcells
  rw [show Lib.containsS (ownZ.take 8) ⟨n.toArray⟩ = decide (n ∈ ownNames) from contains_iff ownNames n] at C
  exact C
set_option maxRecDepth 100000 in
theorem contains_own {B e : Nat} {v : Value} {L : List Bs} (n : Bs) (w : World) (h : OwnS B e 1 RStn w v L) :
    Calls Tryd.prog 41 #[v, str n] w fun e w' => e = .returned (.bool (decide (n ∈ L))) ∧ w' = w := by
  obtain ⟨a, c, rfl, hc⟩ := RdS.len h.rd
  cases L with
  | nil => 
    refine (Tryd.slices_Contains_string_empty a c ⟨n.toArray⟩ w).mono fun e w' hh => ?_
    simpa using hh
  | cons x X =>
    obtain ⟨a', c', e', h1, h2, h3, h4⟩ := h.rd
    cases e'
    obtain ⟨b, o, cs, e0, _, _, _, _⟩ := h4 0 x rfl
    cases e0
    have hcells : ∀ j, j < ((x :: X).map fun l => (⟨l.toArray⟩ : ByteArray)).length → w.cell? ⟨b, o + j, none⟩ = some (.string (((x :: X).map fun l => (⟨l.toArray⟩ : ByteArray)).getD j ByteArray.empty)) := by
      intro j hj
      have hj' : j < (x :: X).length := by simpa using hj
      obtain ⟨b', o', cs', e1, _, hcs, hat, hR⟩ := h4 j ((x :: X)[j]) (List.getElem?_eq_getElem hj')
      cases e1
      have := hat 0 (str ((x :: X)[j])) (by rw [hR]; rfl)
      rw [List.getD, List.getElem?_map, List.getElem?_eq_getElem hj']
      simpa using this
    have C := Tryd.slices_Contains_string b o (x :: X).length c _ ⟨n.toArray⟩ w (by simp) (by have : (x :: X).length ≤ maxLen := Nat.le_trans h1 h2; simpa [maxLen] using this) hcells
    rw [contains_iff] at C
    exact C
end Go.Proofs.YtjbidchdjpmonaaDoor
namespace Go.Mh
theorem safe_step {op : List Bs} {tx : Bs} {t : Tok} {l : List Tok} {r : List Bs × Bs} (h : safeT op tx (t :: l) = some r) :
    (t.k = 1 ∧ safeT op (tx ++ t.text) l = some r) ∨ (t.k = 2 ∧ t.name ∈ ownNames ∧ ((t.name = nA) ↔ (t.href ≠ [])) ∧ (t.href = [] ∨ may t.href = true) ∧ t.name ∉ op ∧ safeT (op ++ [t.name]) tx l = some r) ∨ (t.k = 3 ∧ ∃ op', op = op' ++ [t.name] ∧ safeT op' tx l = some r) := by
  rw [safeT] at h
  by_cases h1 : t.k = 1
  · rw [if_pos h1] at h; exact Or.inl ⟨h1, h⟩
  · rw [if_neg h1] at h
    by_cases h2 : t.k = 2
    · rw [if_pos h2] at h
      split at h
      · simp at h
      · rename_i hn
        simp only [not_or, Classical.not_not, not_and] at hn
        obtain ⟨n1, n2, n3, n4⟩ := hn
        refine Or.inr (Or.inl ⟨h2, n1, by simpa using n2, ?_, n4, h⟩)
        by_cases he : t.href = []
        · exact Or.inl he
        · exact Or.inr (by simpa using n3 he)
    · rw [if_neg h2] at h
      by_cases h3 : t.k = 3
      · rw [if_pos h3] at h
        split at h
        · rename_i hg
          refine Or.inr (Or.inr ⟨h3, op.dropLast, ?_, h⟩)
          obtain ⟨ys, e⟩ := List.getLast?_eq_some_iff.1 hg
          rw [e]; simp
        · simp at h
      · rw [if_neg h3] at h; simp at h
theorem last_cell {base e N : Nat} {w : World} {a : Option Addr} {n c : Nat} {L : List Bs} {y : Bs} (h : OwnS base e 1 RStn w (.slice a n c) (L ++ [y])) (hN : L.length = N) : ∃ b o, a = some ⟨b, o, none⟩ ∧ w.cell? ⟨b, o + N, none⟩ = some (str y) := by
  subst hN
  obtain ⟨a', c', e', h1, h2, h3, h4⟩ := h.rd
  cases e'
  obtain ⟨b, o, cs, e0, _, hcs, hat, hR⟩ := h4 L.length y (by simp)
  refine ⟨b, o, e0, ?_⟩
  have := hat 0 (str y) (by rw [hR]; rfl)
  simpa using this
theorem RStn_one (w : World) (cs : List Value) (x : Bs) (h : RStn w cs x) : ∀ u ∈ cs, u.oneCell' = true := by
  intro u hu
  rw [show cs = [str x] from h] at hu
  simp at hu
  subst hu
  rfl
theorem chars_rep (L : List It) : chars L = rep1 10 [] (L.map It.c) := by
  unfold chars rep1
  induction L with
  | nil => rfl
  | cons x l ih =>
    simp only [List.map_cons, List.filter_cons, List.flatMap_cons]
    by_cases h : x.c = 10
    · rw [if_pos h, if_neg (by simp [h]), ih]; rfl
    · rw [if_neg h, if_pos (by simp [h]), ih]; rfl
end Go.Mh
namespace Go.Proofs.YtjbidchdjpmonaaDoor
open Go.RowKit Go.Mh

theorem w_n (N : Nat) (h : N ≤ 100000) : wrap64 ((N : Int) + 1 - 1) = (N : Int) ∧ wrap64 (N : Int) = (N : Int) := by
  constructor <;> (unfold wrap64; omega)
theorem own_str {B : Nat} {e : TypeId} {w w' : World} {v : Value} {L : List Bs} (h : OwnS B e 1 RStn w v L) (hb : Below w.heap.size w w') : OwnS B e 1 RStn w' v L := own_below h (fun _ _ r => r) hb

set_option maxRecDepth 1000000 in
set_option maxHeartbeats 8000000 in
theorem tokenSafe_walk (F : Nat → Prop) (v : Value) (L : List It) (w : World) (hm : ∃ m, w.cell? ⟨0, 0, none⟩ = some (.int .i64 m)) (h : RItems F w v L) :
    Calls Tryd.prog 12 #[v] w fun e w' => e = .returned (.bool true) ∧ Below w.heap.size w w' := by
  have hM := Lib.hid (fun w' (hb : Below w.heap.size w w') => somec hm hb)
  have H := Lib.hid (fun w' (hb : Below w.heap.size w w') => RItems.to (F' := fun _ => True) h (fun k hk hlt => ⟨trivial, hb.block k hlt⟩))
  obtain ⟨a, ac, rfl, _⟩ := RdS.len h
  clear h hm
  by_cases h0 : chkDoc L = 0
  · have e1 : exportP L = (pageX L, 0) := if_pos h0
    have C1 := Lib.hid (fun w' hb => exportPage_p _ e1 (H.out w' hb) (hM.out w' hb))
    have hpl := pageX_len h0
    have hsf := law_safe h0
    have hl80 : L.length ≤ 80 := by obtain ⟨_, q, _⟩ := doc_facts h0; exact q
    have PL := Lib.hid (fun w' hb => plain_ok _ _ L w' (H.out w' hb) h0 hl80)
    have hch := chars_rep L
    have hX1 : (pageX L).length ≤ 20000 := by omega
    have hsm := page_small (pageX L)
    have hTl := page_len (pageX L)
    have hpp : pageP (pageX L) = (pageT (pageX L), 0) := by unfold pageP; rw [if_neg (by omega)]
    have hcl : (L.map It.c).length ≤ 80 := by simpa using hl80
    generalize pageX L = X at C1 hsf hX1 hsm hTl hpp
    generalize pageT X = T at hsf hsm hTl hpp
    rw [hch] at hsf
    generalize L.map It.c = Z at PL hsf hcl
    have hsf' := Lib.hid hsf
    have hsm' := Lib.hid (show ∀ t ∈ T, t.text.length ≤ 20000 from fun t ht => Nat.le_trans (hsm t ht).1 hX1)
    have hpp' := Lib.hid hpp
    have hXm := Lib.hid (show X.length ≤ maxLen by simp [maxLen]; omega)
    have hTl' : T.length ≤ 100000 := by omega
    clear h0 e1 hpl hsf hl80 hch hsm hTl hpp H
    go_enter Tryd.func12, Tryd.ntmps12
    go_wp2_with fail
    refine (C1.out _ (brf _)).mono ?_
    rintro e w1 ⟨rfl, hb1⟩
    go_wp2_with (refine wpList_bytes_rd _ rfl 9 47 _ rfl 5 Tryd.underlying9 Tryd.underlying47 Tryd.underlying5 X hXm.out rfl ?_; intro w2 cap hx2 hb2)
    have hB2 := btr hb1 hb2
    have C2 := Lib.hid (tokPage_p (T, 0) hpp'.out hx2 (hM.out _ hB2))
    clear hx2 hb1 hb2 C1
    go_wp2_with fail
    refine C2.out.mono ?_
    rintro e w3 ⟨r, rfl, hr, hb3⟩
    obtain ⟨ra, rc, rfl, _⟩ := RdS.len hr
    have hB3 := btr hB2 hb3
    have HR := Lib.hid (fun w' (hb : Below w3.heap.size w3 w') => RToks.to (F' := fun _ => True) hr (fun k hk hlt => ⟨trivial, hb.block k hlt⟩))
    clear C2 hr hb3 hB2
    go_wp2_with fail
    refine (torn_any _ (hM.out _ hB3)).mono ?_
    rintro e w5 ⟨rfl, hb5⟩
    have hB5 := Lib.hid (btr hB3 hb5)
    have hr5 := Lib.hid (HR.out _ hb5)
    clear HR hB3 hb5
    go_wp2
    go_loopw [7, 8, 34] (fun ov tv iv wr => ∃ (i : Nat) (op : List Bs) (tx : Bs), i ≤ T.length ∧ iv = .int .i64 i ∧ tv = str tx ∧ OwnS w5.heap.size 9 1 RStn wr ov op ∧ Hid (safeT op tx (T.drop i) = some ([], rep1 10 [] Z)) ∧ op.length ≤ i ∧ tx.length ≤ i * 20000 ∧ Below w5.heap.size w5 wr) (fun _ _ iv _ => T.length - (intOf iv).toNat)
    case atStart => exact ⟨0, [], [], Nat.zero_le _, by go_num, rfl, OwnS.nil, Lib.hid (by simpa using hsf'.out), Nat.le_refl _, Nat.zero_le _, brf w5⟩
    case round =>
      obtain ⟨i, op, tx, hi, rfl, rfl, ho, hf, hol, htl, hb⟩ := hrel
      obtain ⟨oa, oc, rfl, _⟩ := RdS.len ho.rd
      by_cases hlt : i < T.length
      · obtain ⟨t, ht⟩ : ∃ t, T[i]? = some t := ⟨_, List.getElem?_eq_getElem hlt⟩
        obtain ⟨bb, o, rfl, c0, c1, c2, c3⟩ := RToks.at hr5.out hb ht
        have hdrop : T.drop i = t :: T.drop (i + 1) := by rw [List.drop_eq_getElem_cons hlt, (List.getElem?_eq_some_iff.1 ht).2]
        have htt := hsm'.out t (List.mem_of_getElem? ht)
        have hst := safe_step (by rw [← hdrop]; exact hf.out)
        obtain ⟨tk, nm, tt, hr⟩ := t
        simp only at c0 c1 c2 c3 htt hst
        have hst' := Lib.hid hst
        have hbx := Lib.hid (heap_new wr (.cells #[.int .i64 tk, str nm, str tt, str hr] 49))
        have hbA := Lib.hid (bal (brf wr) (.cells #[.int .i64 tk, str nm, str tt, str hr] 49))
        have ho' := Lib.hid ho
        have hb' := Lib.hid hb
        clear hf hdrop ht hst ho hb
        go_upto_block 2 with fail
        refine name_world ?_
        intro wA hwA
        have hwA' : wr.alloc (.cells #[.int .i64 tk, str nm, str tt, str hr] 49) = wA := hwA
        clear hwA c0 c1 c2 c3
        rw [hwA'] at hbA hbx
        clear hwA'
        have hbx2 := hbx.out
        have hgl := lt_of_heap hbx2
        have t0 : wA.cell? ⟨wr.heap.size, 0, none⟩ = some (.int .i64 tk) := by unfold World.cell?; rw [hbx2]; rfl
        have t1 : wA.cell? ⟨wr.heap.size, 1, none⟩ = some (str nm) := by unfold World.cell?; rw [hbx2]; rfl
        have t2 : wA.cell? ⟨wr.heap.size, 2, none⟩ = some (str tt) := by unfold World.cell?; rw [hbx2]; rfl
        have t3 : wA.cell? ⟨wr.heap.size, 3, none⟩ = some (str hr) := by unfold World.cell?; rw [hbx2]; rfl
        have oA := Lib.hid (own_str ho'.out hbA.out)
        have hBA := Lib.hid (btr hb'.out hbA.out)
        clear hbx2
        have hst0 := hst'.out
        clear hst' ho' hb'
        have hst := hst0
        rcases hst with ⟨k1, hs⟩ | ⟨k2, q1, q2, q3, q4, hs⟩ | ⟨k3, op', q1, hs⟩
        · subst k1
          have hs' := Lib.hid hs
          have hap := Lib.hid (show Value.string ((⟨tx.toArray⟩ : ByteArray) ++ (⟨tt.toArray⟩ : ByteArray)) = str (tx ++ tt) from str_eq (by simp [ByteArray.data_append]))
          have htx : (tx ++ tt).length ≤ (i + 1) * 20000 := by simp; omega
          clear hs hst0
          go_wp2
          go_roundw
          case rel => exact ⟨i + 1, op, tx ++ tt, by omega, by go_num, hap.out, oA.out, hs', by omega, htx, hBA.out⟩
          case measure => simp [intOf]; omega
        · subst k2
          have hs' := Lib.hid hs
          have CN := Lib.hid (contains_names nm wA)
          rw [decide_eq_true q1] at CN
          have CO := Lib.hid (fun w' (hb : Below wA.heap.size wA w') => contains_own nm w' (own_str oA.out hb))
          rw [decide_eq_false q4] at CO
          have u1 : ∀ w', Below wA.heap.size wA w' → w'.cell? ⟨wr.heap.size, 1, none⟩ = some (str nm) := fun w' hb => (hb.cell (lt_of_cell t1)).trans t1
          have u3 : ∀ w', Below wA.heap.size wA w' → w'.cell? ⟨wr.heap.size, 3, none⟩ = some (str hr) := fun w' hb => (hb.cell (lt_of_cell t3)).trans t3
          have hbN := Lib.hid (bal (brf wA) (.cells (ownNames.map str).toArray 9))
          have n1 := u1 _ hbN.out
          have n3 := u3 _ hbN.out
          have u1' := Lib.hid u1
          have u3' := Lib.hid u3
          clear hs hst0 q1 q4 u1 u3
          by_cases hh : hr = []
          · subst hh
            have eA : (nm == [97]) = false := by
              cases hq : nm == [97] with
              | false => rfl
              | true => exact absurd rfl (q2.1 (show nm = nA from by simpa [nA] using hq))
            clear q2 q3
            go_wp2_with fail
            refine CN.out.mono ?_
            rintro e w6 ⟨rfl, rfl⟩
            have oM := Lib.hid (own_str oA.out hbN.out)
            have hBM := Lib.hid (btr hBA.out hbN.out)
            have C7 := Lib.hid (CO.out _ hbN.out)
            clear CN CO
            go_wp2_with fail
            refine C7.out.mono ?_
            rintro e w7 ⟨rfl, hw7⟩
            rw [← hw7] at oM hBM n1 n3
            clear hw7 hbN C7
            go_wp2_with (at_builtin; refine wpList_app1 rfl (.tmp 79) (.tmp 82) 42 rfl w5.heap.size 9 1 16 _ elStr RStn _ op rfl oM.out nm [str nm] 9 _ rfl rfl rfl (fun _ _ => rfl) RStn_one (by simp [maxLen]; omega) (by omega) hBM.out.size (fun _ _ _ _ _ r => r) ?_; intro v' w8 ho8 hb8 _ _)
            go_wp2
            go_roundw
            case rel => exact ⟨i + 1, op ++ [nm], tx, by omega, by go_num, rfl, ho8, hs', by simp; omega, by omega, hBM.out.trans hb8⟩
            case measure => simp [intOf]; omega
          · have hnm : nm = nA := q2.2 hh
            have hmay : may hr = true := by rcases q3 with q | q; exact absurd q hh; exact q
            have eH : List.isEmpty hr = false := by cases hr with | nil => exact absurd rfl hh | cons _ _ => rfl
            have eA : (nm == [97]) = true := by rw [hnm]; rfl
            clear q2 q3 hnm hh
            go_wp2_with fail
            refine CN.out.mono ?_
            rintro e w6 ⟨rfl, rfl⟩
            go_wp2_with fail
            refine (may_p hr true hmay _).mono ?_
            rintro e w6 ⟨rfl, hb6⟩
            have hb6' := Lib.hid (btr hbN.out hb6)
            have n1' := u1'.out _ hb6'.out
            have oM := Lib.hid (own_str oA.out hb6'.out)
            have hBM := Lib.hid (btr hBA.out hb6'.out)
            have C7 := Lib.hid (CO.out _ hb6'.out)
            clear CN CO hb6 hmay n1 n3
            go_wp2_with fail
            refine C7.out.mono ?_
            rintro e w7 ⟨rfl, rfl⟩
            go_wp2_with (at_builtin; refine wpList_app1 rfl (.tmp 79) (.tmp 82) 42 rfl w5.heap.size 9 1 16 _ elStr RStn _ op rfl oM.out nm [str nm] 9 _ rfl rfl rfl (fun _ _ => rfl) RStn_one (by simp [maxLen]; omega) (by omega) hBM.out.size (fun _ _ _ _ _ r => r) ?_; intro v' w8 ho8 hb8 _ _)
            go_wp2
            go_roundw
            case rel => exact ⟨i + 1, op ++ [nm], tx, by omega, by go_num, rfl, ho8, hs', by simp; omega, by omega, hBM.out.trans hb8⟩
            case measure => simp [intOf]; omega
        · subst k3
          subst q1
          obtain ⟨N, hN⟩ : ∃ N, op'.length = N := ⟨_, rfl⟩
          obtain ⟨gb, go, rfl, hc⟩ := last_cell oA.out hN
          have hn : (op' ++ [nm]).length = N + 1 := by simp [hN]
          have f7 : N ≤ oc := by
            obtain ⟨a', c', e', g1, _⟩ := oA.out.rd
            cases e'
            rw [hn] at g1
            exact Nat.le_of_succ_le g1
          have f8 : (N : Int) ≤ (oc : Int) := Int.ofNat_le.2 f7
          rw [hn] at hol oA ⊢
          have hs' := Lib.hid hs
          have oP := Lib.hid (OwnS.pop oA.out)
          rw [hN] at oP
          have f1 : ((N : Int) + 1 == 0) = false := by simp; omega
          have f4 : (N : Int) < (N : Int) + 1 := by omega
          have f5 : (0 : Int) ≤ (N : Int) := Int.natCast_nonneg N
          have f6 : N < N + 1 := Nat.lt_succ_self N
          have hol' : op'.length ≤ i + 1 := by rw [hN]; exact Nat.le_trans (Nat.le_of_succ_le hol) (Nat.le_succ _)
          clear hs hst0 hn hN oA
          go_upto_region 21 with fail
          go_quiet (fail)
          go_wp2
          go_roundw
          case rel => exact ⟨i + 1, op', tx, by omega, by go_num, rfl, own_str oP.out (below_drewN (brf wA) _), hs', hol', by omega, below_drewN hBA.out _⟩
          case measure => simp [intOf]; omega
      · obtain rfl : i = T.length := by omega
        have hfin : op = [] ∧ tx = rep1 10 [] Z := by
          have := hf.out
          rw [List.drop_length] at this
          simpa [safeT] using this
        obtain ⟨rfl, rfl⟩ := hfin
        have hb' := Lib.hid hb
        have PL' := Lib.hid (PL.out _ (btr hB5.out hb))
        clear hf ho hb PL hsf' hol htl
        generalize hrz : rep1 10 [] Z = RZ at *
        go_wp2_with fail
        refine PL'.out.mono ?_
        rintro e w6 ⟨rfl, hb6⟩
        have hB6 := Lib.hid (btr hb'.out hb6)
        have RC := Lib.hid (rep_call 10 [] Z w6 (hM.out _ (btr hB5.out hB6.out)) (by decide) (by omega) (by decide))
        rw [hrz] at RC
        clear hb6 hrz PL'
        go_wp2_with fail
        refine RC.out.mono ?_
        rintro e w7 ⟨rfl, hb7⟩
        go_wp2
        go_ret
        exact ⟨by simp, btr hB5.out (btr hB6.out hb7)⟩
  · have e1 : exportP L = ([], chkDoc L) := if_neg h0
    have C1 := Lib.hid (fun w' hb => exportPage_p _ e1 (H.out w' hb) (hM.out w' hb))
    have hne : (chkDoc L != 0) = true := by simpa using h0
    clear h0 e1 H
    go_enter Tryd.func12, Tryd.ntmps12
    go_wp2_with fail
    refine (C1.out _ (brf _)).mono ?_
    rintro e w1 ⟨rfl, hb1⟩
    go_wp2_with (refine wpList_bytes_rd _ rfl 9 47 _ rfl 5 Tryd.underlying9 Tryd.underlying47 Tryd.underlying5 [] (by decide) rfl ?_; intro w2 cap hx2 hb2)
    have hB2 := btr hb1 hb2
    have C2 := Lib.hid (tokPage_p (pageP []) rfl hx2 (hM.out _ hB2))
    clear hx2 hb1 hb2 C1
    generalize pageP [] = P at C2
    go_wp2_with fail
    refine C2.out.mono ?_
    rintro e w3 ⟨r, rfl, hr, hb3⟩
    obtain ⟨ra, rc, rfl, _⟩ := RdS.len hr
    have hB3 := btr hB2 hb3
    clear C2 hr hb3 hB2
    go_wp2_with fail
    refine (torn_any _ (hM.out _ hB3)).mono ?_
    rintro e w5 ⟨rfl, hb5⟩
    have hB5 := btr hB3 hb5
    go_wp2_with fail
    refine (torn_any _ (hM.out _ hB5)).mono ?_
    rintro e w6 ⟨rfl, hb6⟩
    go_wp2
    go_ret
    exact ⟨rfl, btr hB5 hb6⟩
end Go.Proofs.YtjbidchdjpmonaaDoor
