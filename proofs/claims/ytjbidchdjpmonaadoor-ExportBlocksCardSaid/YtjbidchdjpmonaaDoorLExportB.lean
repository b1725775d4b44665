/- The law ExportBlocks, walked. -/
import Derived.Test.YtjbidchdjpmonaaDoorLExport
namespace Go.Mh
theorem chk_app {a b : List It} (ha : chkDoc a = 0) (hb : chkDoc b = 0) : chkDoc (a ++ b) = if 80 < (a ++ b).length then 2 else 0 := by
  obtain ⟨h1, _, _⟩ := doc_facts ha
  obtain ⟨h2, _, d', x, h3, h4⟩ := doc_facts hb
  split
  · rename_i h; unfold chkDoc; rw [if_pos h]
  · rename_i h
    refine doc_mk (fun y hy => ?_) (by omega) ⟨a ++ d', x, by rw [h3]; simp, h4⟩
    rcases List.mem_append.1 hy with e | e
    · exact h1 y e
    · exact h2 y e
theorem trimS_of {s t : Bs} (h : t = s ++ ulS) : Lib.trimSuffix t ulS = s := by
  subst h
  unfold Lib.trimSuffix Lib.hasSuffix
  rw [if_pos (by rw [List.isSuffixOf_iff_suffix]; exact List.suffix_append _ _)]
  simp
theorem trimP_of {s t : Bs} (h : t = ulO ++ s) : Lib.trimPrefix t ulO = s := by
  subst h
  unfold Lib.trimPrefix Lib.hasPrefix
  rw [if_pos (by rw [List.isPrefixOf_iff_prefix]; exact List.prefix_append _ _)]
  simp
theorem RSl.two {α : Type} {sz : Nat} {R : World → List Value → α → Prop} {F : Nat → Prop} {w : World} {g : Nat} {v0 v1 : Value} {l0 l1 : List α} {e : TypeId} {fr : Nat × Nat} (hg : w.heap[g]? = some (.cells #[v0, v1] e fr)) (hF : F g) (h0 : RdS sz R F w v0 l0) (h1 : RdS sz R F w v1 l1) :
    RdS 1 (RSl sz R F) F w (.slice (some ⟨g, 0, none⟩) 2 2) [l0, l1] := by
  refine ⟨_, 2, rfl, by simp, by simp [maxLen], fun h => by simp at h, fun i x hi => ?_⟩
  match i, hi with
  | 0, hi => simp at hi; subst hi; exact ⟨g, 0, [v0], rfl, hF, rfl, fun j u hj => by match j, hj with | 0, hj => simp at hj; subst hj; unfold World.cell?; rw [hg]; rfl, v0, rfl, h0⟩
  | 1, hi => simp at hi; subst hi; exact ⟨g, 0, [v1], rfl, hF, rfl, fun j u hj => by match j, hj with | 0, hj => simp at hj; subst hj; unfold World.cell?; rw [hg]; rfl, v1, rfl, h1⟩
end Go.Mh
namespace Go.Proofs.YtjbidchdjpmonaaDoor
open Go.RowKit Go.Mh

theorem app_tl (a b : Bs) : ((⟨a.toArray⟩ : ByteArray) ++ (⟨b.toArray⟩ : ByteArray)).toList = a ++ b := by
  rw [Lib.toList_data]; simp [ByteArray.data_append]

set_option maxRecDepth 100000 in
set_option maxHeartbeats 8000000 in
theorem exportBlocks_walk (F G : Nat → Prop) (v u : Value) (L M : List It) (w : World) (hm : ∃ m, w.cell? ⟨0, 0, none⟩ = some (.int .i64 m)) (h : RItems F w v L) (g : RItems G w u M) :
    Calls Tryd.prog 10 #[v, u] w fun e w' => e = .returned (.bool true) ∧ Below w.heap.size w w' := by
  have hM := Lib.hid (fun w' (hb : Below w.heap.size w w') => somec hm hb)
  have H1 := Lib.hid (fun w' (hb : Below w.heap.size w w') => RItems.to (F' := fun _ => True) h (fun k hk hlt => ⟨trivial, hb.block k hlt⟩))
  have H2 := Lib.hid (fun w' (hb : Below w.heap.size w w') => RItems.to (F' := fun _ => True) g (fun k hk hlt => ⟨trivial, hb.block k hlt⟩))
  obtain ⟨a, ac, rfl, _⟩ := RdS.len h
  obtain ⟨b, bc, rfl, _⟩ := RdS.len g
  clear h g hm
  by_cases h1 : chkDoc L = 0
  · have e1 : exportP L = (pageX L, 0) := if_pos h1
    have C1 := Lib.hid (fun w' hb => exportPage_p _ e1 (H1.out w' hb) (hM.out w' hb))
    by_cases h2 : chkDoc M = 0
    · have e2 : exportP M = (pageX M, 0) := if_pos h2
      have C2 := Lib.hid (fun w' hb => exportPage_p _ e2 (H2.out w' hb) (hM.out w' hb))
      have hlb := Lib.hid (law_blocks h1 h2)
      have hca := Lib.hid (chk_app h1 h2)
      have hpl1 := pageX_len h1
      have hpl2 := pageX_len h2
      have hl80 : L.length ≤ 80 ∧ L ≠ [] := by obtain ⟨_, q, d', x, q3, _⟩ := doc_facts h1; exact ⟨q, by rw [q3]; simp⟩
      have hm80 : M.length ≤ 80 := by obtain ⟨_, q, _⟩ := doc_facts h2; exact q
      have hfl : [L, M].flatten = L ++ M := by simp
      have hlen0 : 0 < (L ++ M).length := List.length_pos_iff.2 (by simp [hl80.2])
      have hlen1 : (L ++ M).length ≤ 160 := by simp; omega
      have CC := Lib.hid (fun w' hb => concatD (fun _ => True) _ [L, M] (w'.alloc (.cells #[.slice a L.length ac, .slice b M.length bc] 31)) (RSl.two (heap_new w' _) trivial (H1.out _ (bal hb _)) (H2.out _ (bal hb _))) (by simp) (by rw [hfl]; omega) (by rw [hfl]; exact hlen0))
      rw [hfl] at CC
      obtain ⟨LM, hLM⟩ : ∃ c, L ++ M = c := ⟨_, rfl⟩
      rw [hLM] at CC hca hlb hlen0 hlen1
      clear h1 h2 e1 e2 hfl hl80 hm80 hLM hlen0
      go_enter Tryd.func10, Tryd.ntmps10
      go_wp2_with fail
      refine (C1.out _ (brf _)).mono ?_
      rintro e w1 ⟨rfl, hb1⟩
      go_wp2_with fail
      refine (C2.out _ hb1).mono ?_
      rintro e w2 ⟨rfl, hb2⟩
      have hB2 := btr hb1 hb2
      go_wp2_with fail
      refine (exported_any _ (hM.out _ hB2)).mono ?_
      rintro e w3 ⟨rfl, hb3⟩
      have hB3 := btr hB2 hb3
      clear hb1 hb2 hb3 hB2 C1 C2
      go_wp2_with fail
      refine (CC.out _ hB3).mono ?_
      rintro e w4 ⟨rv, rfl, hrv, hb4⟩
      obtain ⟨ra, rc, rfl, _⟩ := RdS.len hrv.rd
      have hB4 := btr (bal hB3 _) hb4
      have C3 := Lib.hid (exportPage_any _ _ LM w4 hrv.rd (hM.out _ hB4))
      clear hrv CC hb4
      by_cases h80 : 80 < LM.length
      · have hc2 := hca.out
        rw [if_pos h80] at hc2
        have e3 : exportP LM = ([], 2) := by unfold exportP; rw [if_neg (by rw [hc2]; decide), hc2]
        rw [e3] at C3
        clear hc2 e3 h80 hlb hca
        go_wp2_with fail
        refine C3.out.mono ?_
        rintro e w5 ⟨rfl, hb5⟩
        go_wp2
        go_ret
        exact ⟨rfl, btr hB4 hb5⟩
      · have hc2 := hca.out
        rw [if_neg h80] at hc2
        have e3 : exportP LM = (pageX LM, 0) := if_pos hc2
        have hpl3 := pageX_len hc2
        rw [e3] at C3
        clear hc2 e3 h80 hca
        generalize pageX LM = Z at C3 hlb hpl3
        generalize pageX L = X at hlb hpl1 ⊢
        generalize pageX M = Y at hlb hpl2 ⊢
        go_wp2_with fail
        refine C3.out.mono ?_
        rintro e w5 ⟨rfl, hb5⟩
        have hB5 := btr hB4 hb5
        have S1 := Lib.hid (fun w' => Tryd.strings_HasSuffix ⟨X.toArray⟩ ⟨ulS.toArray⟩ w' (by show X.length ≤ _; omega))
        have P1 := Lib.hid (fun w' => Tryd.strings_HasPrefix ⟨Y.toArray⟩ ⟨ulO.toArray⟩ w')
        have T1 := Lib.hid (fun w' => Tryd.strings_TrimSuffix ⟨X.toArray⟩ ⟨ulS.toArray⟩ w' (by show X.length ≤ _; omega))
        have T2 := Lib.hid (fun w' => Tryd.strings_TrimPrefix ⟨Y.toArray⟩ ⟨ulO.toArray⟩ w')
        clear hb5 hB4 C3 hB3
        rcases hlb.out with ⟨hs1, hp1, s, t, ex, ey, ez⟩ | ⟨hno, ez⟩
        · have k1 := Lib.hid (show Lib.hasSuffix (⟨X.toArray⟩ : ByteArray).data.toList (⟨ulS.toArray⟩ : ByteArray).data.toList = true from hs1)
          have k2 := Lib.hid (show Lib.hasPrefix (⟨Y.toArray⟩ : ByteArray).data.toList (⟨ulO.toArray⟩ : ByteArray).data.toList = true from hp1)
          have k3 := Lib.hid (show Lib.trimSuffix (⟨X.toArray⟩ : ByteArray).data.toList (⟨ulS.toArray⟩ : ByteArray).data.toList = s from trimS_of ex)
          have k4 := Lib.hid (show Lib.trimPrefix (⟨Y.toArray⟩ : ByteArray).data.toList (⟨ulO.toArray⟩ : ByteArray).data.toList = t from trimP_of ey)
          have hsl : s.length ≤ 20000 := by rw [ex] at hpl1; simp at hpl1; omega
          have htl : t.length ≤ 20000 := by rw [ey] at hpl2; simp at hpl2; omega
          subst ez
          clear hlb hs1 hp1 ex ey
          go_wp2_with fail
          refine (S1.out _).mono ?_
          rintro e w6 ⟨rfl, rfl⟩
          rw [k1.out]
          go_wp2_with fail
          refine (P1.out _).mono ?_
          rintro e w6 ⟨rfl, rfl⟩
          rw [k2.out]
          go_wp2_with fail
          refine (T1.out _).mono ?_
          rintro e w6 ⟨rfl, rfl⟩
          rw [k3.out]
          go_wp2_with fail
          refine (T2.out _).mono ?_
          rintro e w6 ⟨rfl, rfl⟩
          rw [k4.out]
          go_wp2
          go_ret
          exact ⟨by simp [app_tl], hB5⟩
        · subst ez
          clear hlb
          cases hs1 : ulS.isSuffixOf X with
          | false =>
            have k1 := Lib.hid (show Lib.hasSuffix (⟨X.toArray⟩ : ByteArray).data.toList (⟨ulS.toArray⟩ : ByteArray).data.toList = false from hs1)
            clear hs1 hno
            go_wp2_with fail
            refine (S1.out _).mono ?_
            rintro e w6 ⟨rfl, rfl⟩
            rw [k1.out]
            go_wp2
            go_ret
            exact ⟨by simp [app_tl], hB5⟩
          | true =>
            have hp1 : ulO.isPrefixOf Y = false := by
              cases hq : ulO.isPrefixOf Y with
              | false => rfl
              | true => exact absurd ⟨hs1, hq⟩ hno
            have k1 := Lib.hid (show Lib.hasSuffix (⟨X.toArray⟩ : ByteArray).data.toList (⟨ulS.toArray⟩ : ByteArray).data.toList = true from hs1)
            have k2 := Lib.hid (show Lib.hasPrefix (⟨Y.toArray⟩ : ByteArray).data.toList (⟨ulO.toArray⟩ : ByteArray).data.toList = false from hp1)
            clear hs1 hno hp1
            go_wp2_with fail
            refine (S1.out _).mono ?_
            rintro e w6 ⟨rfl, rfl⟩
            rw [k1.out]
            go_wp2_with fail
            refine (P1.out _).mono ?_
            rintro e w6 ⟨rfl, rfl⟩
            rw [k2.out]
            go_wp2
            go_ret
            exact ⟨by simp [app_tl], hB5⟩
    · have e2 : exportP M = ([], chkDoc M) := if_neg h2
      have C2 := Lib.hid (fun w' hb => exportPage_p _ e2 (H2.out w' hb) (hM.out w' hb))
      have h2' : (chkDoc M != 0) = true := by simpa using h2
      generalize pageX L = X at *
      clear h1 h2 e1 e2
      go_enter Tryd.func10, Tryd.ntmps10
      go_wp2_with fail
      refine (C1.out _ (brf _)).mono ?_
      rintro e w1 ⟨rfl, hb1⟩
      go_wp2_with fail
      refine (C2.out _ hb1).mono ?_
      rintro e w2 ⟨rfl, hb2⟩
      have hB2 := btr hb1 hb2
      go_wp2_with fail
      refine (exported_any _ (hM.out _ hB2)).mono ?_
      rintro e w3 ⟨rfl, hb3⟩
      have hB3 := btr hB2 hb3
      go_wp2_with fail
      refine (exported_any _ (hM.out _ hB3)).mono ?_
      rintro e w4 ⟨rfl, hb4⟩
      go_wp2
      go_ret
      exact ⟨rfl, btr hB3 hb4⟩
  · have e1 : exportP L = ([], chkDoc L) := if_neg h1
    have C1 := Lib.hid (fun w' hb => exportPage_p _ e1 (H1.out w' hb) (hM.out w' hb))
    have C2 := Lib.hid (fun w' hb => exportPage_any (fun _ => True) _ M w' (H2.out w' hb) (hM.out w' hb))
    have h1' : (chkDoc L != 0) = true := by simpa using h1
    clear h1 e1
    go_enter Tryd.func10, Tryd.ntmps10
    go_wp2_with fail
    refine (C1.out _ (brf _)).mono ?_
    rintro e w1 ⟨rfl, hb1⟩
    go_wp2_with fail
    refine (C2.out _ hb1).mono ?_
    rintro e w2 ⟨rfl, hb2⟩
    have hB2 := btr hb1 hb2
    go_wp2_with fail
    refine (exported_any _ (hM.out _ hB2)).mono ?_
    rintro e w3 ⟨rfl, hb3⟩
    have hB3 := btr hB2 hb3
    go_wp2_with fail
    refine (exported_any _ (hM.out _ hB3)).mono ?_
    rintro e w4 ⟨rfl, hb4⟩
    go_wp2
    go_ret
    exact ⟨rfl, btr hB3 hb4⟩
end Go.Proofs.YtjbidchdjpmonaaDoor
