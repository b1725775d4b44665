/- Package client: give, New, Same, Copy. -/
import Derived.Test.YtgodceplajkcdaaCl
import Derived.Test.YtgodceplajkcdaaOpSame
import Derived.Deep.RegionHeld3
import Derived.Deep.DeepFit
namespace Go.Mh
open Go.RowKit

theorem set452 {w : World} {g e : Nat} {u0 u1 u2 u3 u4 u5 u6 : Value} (h : w.heap[g]? = some (.cells #[u0, u1, u2, u3, u4, u5, u6] e (0, 0))) (v4 v5 v2 : Value) :
    (((w.setCell ⟨g, 4, none⟩ v4).setCell ⟨g, 5, none⟩ v5).setCell ⟨g, 2, none⟩ v2).heap[g]? = some (.cells #[u0, u1, v2, u3, v4, v5, u6] e (0, 0)) ∧ Stays g w (((w.setCell ⟨g, 4, none⟩ v4).setCell ⟨g, 5, none⟩ v5).setCell ⟨g, 2, none⟩ v2) := by
  constructor
  · have h1 : (w.setCell ⟨g, 4, none⟩ v4).heap[g]? = some (.cells #[u0, u1, u2, u3, v4, u5, u6] e (0, 0)) := by rw [heap_setCell_same _ g 4 _ e v4 h]; rfl
    have h2 : ((w.setCell ⟨g, 4, none⟩ v4).setCell ⟨g, 5, none⟩ v5).heap[g]? = some (.cells #[u0, u1, u2, u3, v4, v5, u6] e (0, 0)) := by rw [heap_setCell_same _ g 5 _ e v5 h1]; rfl
    rw [heap_setCell_same _ g 2 _ e v2 h2]; rfl
  · exact (Stays.set.trans Stays.set).trans Stays.set
/-- A client's seven cells stored one by one. -/
theorem set7z {w : World} {g e : Nat} {u0 u1 u2 u3 u4 u5 u6 : Value} (h : w.heap[g]? = some (.cells #[u0, u1, u2, u3, u4, u5, u6] e (0, 0))) (v0 v1 v2 v3 v4 v5 v6 : Value) :
    (((((((w.setCell ⟨g, 0, none⟩ v0).setCell ⟨g, 1, none⟩ v1).setCell ⟨g, 2, none⟩ v2).setCell ⟨g, 3, none⟩ v3).setCell ⟨g, 4, none⟩ v4).setCell ⟨g, 5, none⟩ v5).setCell ⟨g, 6, none⟩ v6).heap[g]? = some (.cells #[v0, v1, v2, v3, v4, v5, v6] e (0, 0)) ∧
    Stays g w (((((((w.setCell ⟨g, 0, none⟩ v0).setCell ⟨g, 1, none⟩ v1).setCell ⟨g, 2, none⟩ v2).setCell ⟨g, 3, none⟩ v3).setCell ⟨g, 4, none⟩ v4).setCell ⟨g, 5, none⟩ v5).setCell ⟨g, 6, none⟩ v6) := by
  constructor
  · have h1 : (w.setCell ⟨g, 0, none⟩ v0).heap[g]? = some (.cells #[v0, u1, u2, u3, u4, u5, u6] e (0, 0)) := by rw [heap_setCell_same _ g 0 _ e v0 h]; rfl
    have h2 : ((w.setCell ⟨g, 0, none⟩ v0).setCell ⟨g, 1, none⟩ v1).heap[g]? = some (.cells #[v0, v1, u2, u3, u4, u5, u6] e (0, 0)) := by rw [heap_setCell_same _ g 1 _ e v1 h1]; rfl
    have h3 : (((w.setCell ⟨g, 0, none⟩ v0).setCell ⟨g, 1, none⟩ v1).setCell ⟨g, 2, none⟩ v2).heap[g]? = some (.cells #[v0, v1, v2, u3, u4, u5, u6] e (0, 0)) := by rw [heap_setCell_same _ g 2 _ e v2 h2]; rfl
    have h4 : ((((w.setCell ⟨g, 0, none⟩ v0).setCell ⟨g, 1, none⟩ v1).setCell ⟨g, 2, none⟩ v2).setCell ⟨g, 3, none⟩ v3).heap[g]? = some (.cells #[v0, v1, v2, v3, u4, u5, u6] e (0, 0)) := by rw [heap_setCell_same _ g 3 _ e v3 h3]; rfl
    have h5 : (((((w.setCell ⟨g, 0, none⟩ v0).setCell ⟨g, 1, none⟩ v1).setCell ⟨g, 2, none⟩ v2).setCell ⟨g, 3, none⟩ v3).setCell ⟨g, 4, none⟩ v4).heap[g]? = some (.cells #[v0, v1, v2, v3, v4, u5, u6] e (0, 0)) := by rw [heap_setCell_same _ g 4 _ e v4 h4]; rfl
    have h6 : ((((((w.setCell ⟨g, 0, none⟩ v0).setCell ⟨g, 1, none⟩ v1).setCell ⟨g, 2, none⟩ v2).setCell ⟨g, 3, none⟩ v3).setCell ⟨g, 4, none⟩ v4).setCell ⟨g, 5, none⟩ v5).heap[g]? = some (.cells #[v0, v1, v2, v3, v4, v5, u6] e (0, 0)) := by rw [heap_setCell_same _ g 5 _ e v5 h5]; rfl
    rw [heap_setCell_same _ g 6 _ e v6 h6]; rfl
  · exact ((((((Stays.set.trans Stays.set).trans Stays.set).trans Stays.set).trans Stays.set).trans Stays.set).trans Stays.set)
theorem RCl.zero {F : Nat → Prop} {w : World} : RCl F w (.agg #[.int .i64 0, .slice none 0 0, .slice none 0 0, .int .i64 0, .slice none 0 0, .slice none 0 0, .bool false]) cl0 := ⟨_, _, _, _, rfl, RdS.nil, RdS.nil, RdS.nil, RdS.nil⟩
section
variable {e : TypeId} {F : Nat → Prop} {w : World} {g : Nat} {c : Cl}
theorem CAt.set0 (h : CAt e F w g c) (r : Int) : CAt e F (w.setCell ⟨g, 0, none⟩ (.int .i64 r)) g { c with rev := r } := by
  obtain ⟨hF, hN, b, n, s, k, h0, h1, h2, h3, h4⟩ := h
  have st : Stays g w (w.setCell ⟨g, 0, none⟩ (.int .i64 r)) := Stays.set
  exact ⟨hF, fun k hk => hN k (Nat.le_trans st.bel.size hk), b, n, s, k, by rw [heap_setCell_same _ g 0 _ e _ h0]; rfl, RItems.to h1 (kp_stays hF st), RItems.to h2 (kp_stays hF st), ROp.to h3 (kp_stays hF st), ROp.to h4 (kp_stays hF st)⟩
theorem CAt.set1 (h : CAt e F w g c) {v : Value} {D : List It} (hv : RItems F w v D) : CAt e F (w.setCell ⟨g, 1, none⟩ v) g { c with base := D } := by
  obtain ⟨hF, hN, b, n, s, k, h0, h1, h2, h3, h4⟩ := h
  have st : Stays g w (w.setCell ⟨g, 1, none⟩ v) := Stays.set
  exact ⟨hF, fun k hk => hN k (Nat.le_trans st.bel.size hk), v, n, s, k, by rw [heap_setCell_same _ g 1 _ e _ h0]; rfl, RItems.to hv (kp_stays hF st), RItems.to h2 (kp_stays hF st), ROp.to h3 (kp_stays hF st), ROp.to h4 (kp_stays hF st)⟩
theorem CAt.set2 (h : CAt e F w g c) {v : Value} {D : List It} (hv : RItems F w v D) : CAt e F (w.setCell ⟨g, 2, none⟩ v) g { c with now := D } := by
  obtain ⟨hF, hN, b, n, s, k, h0, h1, h2, h3, h4⟩ := h
  have st : Stays g w (w.setCell ⟨g, 2, none⟩ v) := Stays.set
  exact ⟨hF, fun k hk => hN k (Nat.le_trans st.bel.size hk), b, v, s, k, by rw [heap_setCell_same _ g 2 _ e _ h0]; rfl, RItems.to h1 (kp_stays hF st), RItems.to hv (kp_stays hF st), ROp.to h3 (kp_stays hF st), ROp.to h4 (kp_stays hF st)⟩
theorem CAt.set3 (h : CAt e F w g c) (r : Int) : CAt e F (w.setCell ⟨g, 3, none⟩ (.int .i64 r)) g { c with seq := r } := by
  obtain ⟨hF, hN, b, n, s, k, h0, h1, h2, h3, h4⟩ := h
  have st : Stays g w (w.setCell ⟨g, 3, none⟩ (.int .i64 r)) := Stays.set
  exact ⟨hF, fun k hk => hN k (Nat.le_trans st.bel.size hk), b, n, s, k, by rw [heap_setCell_same _ g 3 _ e _ h0]; rfl, RItems.to h1 (kp_stays hF st), RItems.to h2 (kp_stays hF st), ROp.to h3 (kp_stays hF st), ROp.to h4 (kp_stays hF st)⟩
theorem CAt.set4 (h : CAt e F w g c) {v : Value} {D : List Pt} (hv : ROp F w v D) : CAt e F (w.setCell ⟨g, 4, none⟩ v) g { c with sent := D } := by
  obtain ⟨hF, hN, b, n, s, k, h0, h1, h2, h3, h4⟩ := h
  have st : Stays g w (w.setCell ⟨g, 4, none⟩ v) := Stays.set
  exact ⟨hF, fun k hk => hN k (Nat.le_trans st.bel.size hk), b, n, v, k, by rw [heap_setCell_same _ g 4 _ e _ h0]; rfl, RItems.to h1 (kp_stays hF st), RItems.to h2 (kp_stays hF st), ROp.to hv (kp_stays hF st), ROp.to h4 (kp_stays hF st)⟩
theorem CAt.set5 (h : CAt e F w g c) {v : Value} {D : List Pt} (hv : ROp F w v D) : CAt e F (w.setCell ⟨g, 5, none⟩ v) g { c with held := D } := by
  obtain ⟨hF, hN, b, n, s, k, h0, h1, h2, h3, h4⟩ := h
  have st : Stays g w (w.setCell ⟨g, 5, none⟩ v) := Stays.set
  exact ⟨hF, fun k hk => hN k (Nat.le_trans st.bel.size hk), b, n, s, v, by rw [heap_setCell_same _ g 5 _ e _ h0]; rfl, RItems.to h1 (kp_stays hF st), RItems.to h2 (kp_stays hF st), ROp.to h3 (kp_stays hF st), ROp.to hv (kp_stays hF st)⟩
theorem CAt.drew (h : CAt e F w g c) : CAt e F w.drew g c := h
end

end Go.Mh
namespace Go.Proofs.Ytgodceplajkcdaa
open Go.RowKit Go.Mh

set_option maxRecDepth 100000 in
set_option maxHeartbeats 2000000 in
theorem clGive_any (F : Nat → Prop) (g : Nat) (c : Cl) (w : World) (h : CAt 87 F w g c) (hl : c.base.length ≤ 100000) :
    Calls Try.prog 117 #[.pointer (some ⟨g, 0, none⟩)] w fun e w' => e = .returned (.tuple #[]) ∧ CAt 87 F w' g (giveC c) ∧ Stays g w w' := by
  have hg := h.lt
  obtain ⟨hF, hN, b, n, s, k, h0, h1, h2, h3, h4⟩ := h
  obtain ⟨ba, bc, rfl, _⟩ := RdS.len h1
  obtain ⟨na, nc, rfl, _⟩ := RdS.len h2
  obtain ⟨sa, sc, rfl, _⟩ := RdS.len h3
  obtain ⟨ka, kc, rfl, _⟩ := RdS.len h4
  have H1 := Lib.hid h1
  have H0 := Lib.hid h0
  have C := Lib.hid (cloneDoc_any _ _ c.base w h1 hl)
  obtain ⟨x0, x1, x2, x3, x4, x5, x6⟩ := P7.of h0
  clear h0 h1 h2 h3 h4
  go_enter Try.func117, Try.ntmps117
  go_wp2_with fail
  refine C.out.mono ?_
  rintro e w1 ⟨u, rfl, hu, hb1⟩
  obtain ⟨ua, uc, rfl, _⟩ := RdS.len hu.rd
  have hu' := Lib.hid hu.rd
  have hk := Lib.hid ((hb1.block g hg).trans H0.out)
  have hfz : ∀ i, w1.frozen? ⟨g, i, none⟩ = false := fun i => Lib.frozen_of_heap hk.out _
  clear hu x0 x1 x2 x3 x4 x5 x6 C
  obtain ⟨x0, x1, x2, x3, x4, x5, x6⟩ := P7.of hk.out
  have hg1 : g < w1.heap.size := lt_of_heap hk.out
  go_wp2
  go_end0
  obtain ⟨s1, s2⟩ := set452 hk.out (.slice none 0 0) (.slice none 0 0) (.slice ua c.base.length uc)
  have s3 : Stays g w (((w1.setCell ⟨g, 4, none⟩ (.slice none 0 0)).setCell ⟨g, 5, none⟩ (.slice none 0 0)).setCell ⟨g, 2, none⟩ (.slice ua c.base.length uc)) := (Stays.of hb1 (Nat.le_of_lt hg)).trans s2
  exact ⟨rfl, ⟨hF, fun k hk => hN k (Nat.le_trans s3.bel.size hk), _, _, _, _, s1, RItems.to H1.out (kp_stays hF s3), RItems.to hu'.out (fun i hi hl' => ⟨hN i hi, s2.same i hl' (by omega)⟩), RdS.nil, RdS.nil⟩, s3⟩
end Go.Proofs.Ytgodceplajkcdaa
