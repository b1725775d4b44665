/- Package op: Copy: an operation in memory of its own. -/
import Derived.Test.YtckdlhgeelhnmaaGreatClone
import Derived.Test.YtckdlhgeelhnmaaGreatMemA
namespace Go.Proofs.YtckdlhgeelhnmaaGreat
open Go.RowKit Go.Mh

set_option maxRecDepth 100000 in
set_option maxHeartbeats 2000000 in
theorem opCopy_any (G : Nat → Prop) (u : Value) (L : List Pt) (w : World) (g : ROp G w u L) (hl : L.length ≤ 100000) (hits : ∀ p ∈ L, p.its.length ≤ 100000) :
    Calls Tryz.prog 81 #[u] w fun e w' => ∃ v, e = .returned v ∧ ROp (fun k => w.heap.size ≤ k ∨ G k) w' v L ∧ Below w.heap.size w w' := by
  have G' := Lib.hid g
  have hI0 := Lib.hid hits; clear hits
  go_enter Tryz.func81, Tryz.ntmps81
  go_wp2_with fail
  refine (cloneOp_any G _ L _ G'.out hl).mono ?_
  rintro e w1 ⟨v1, rfl, ho, hb1⟩
  by_cases hne : L = []
  · subst hne
    obtain ⟨a1, c1, rfl, _⟩ := RdS.len ho.rd
    have ho' : Hid (ROp (fun k => w.heap.size ≤ k ∨ G k) w1 (.slice a1 ([] : List Pt).length c1) []) := Lib.hid (RdS.to ho.rd (by decide) (fun k hk _ => ⟨Or.inl hk, rfl⟩) fun cs x hx => by simp at hx)
    clear ho g
    go_wp2
    refine wp_loop_rounds 1 ?_
    rw [rounds_succ]
    go_wp2
    go_ret
    exact ⟨_, rfl, ho'.out, hb1⟩
  · obtain ⟨gb, cap, cur, rfl, hgb, hh⟩ := ho.shape hne
    have hoF : Hid (OwnS w.heap.size 112 7 (RPt fun k => k ≠ gb ∧ (w.heap.size ≤ k ∨ G k)) w1 (.slice (some ⟨gb, 0, none⟩) L.length cap) L) := Lib.hid (ho.to (fun _ _ _ => rfl) fun cs x _ r => RPt.to r (Kp.weak w1 fun k hk => ⟨by omega, Or.inr hk.1⟩))
    clear ho hh hne g
    go_wp2
    go_loopw [9] (fun i wr => ∃ k : Nat, k ≤ L.length ∧ i = .int .i64 k ∧ OwnS w.heap.size 112 7 (RPt fun k => k ≠ gb ∧ (w.heap.size ≤ k ∨ G k)) wr (.slice (some ⟨gb, 0, none⟩) L.length cap) L ∧ Below w.heap.size w wr) (fun i _ => L.length - (intOf i).toNat)
    case atStart => exact ⟨0, Nat.zero_le _, rfl, hoF.out, hb1⟩
    case round =>
      obtain ⟨k, hk, rfl, ho, hb⟩ := hrel
      have ho' := Lib.hid ho; clear ho
      by_cases hlt : k < L.length
      · obtain ⟨p, hp⟩ : ∃ x, L[k]? = some x := ⟨_, List.getElem?_eq_getElem hlt⟩
        obtain ⟨b, o, sv, e1, hits, c0, c1, c2, c3, c4, c5, c6⟩ := ROp.at ho'.out.read (Below.refl _ _) hp
        cases e1
        obtain ⟨_, _, cur2, e2, _, hh⟩ := ho'.out.shape (by intro e; rw [e] at hlt; simp at hlt)
        cases e2
        simp only [Nat.zero_add] at c0 c1 c2 c3 c4 c5 c6
        obtain ⟨sa, sc, rfl, hsn⟩ := RdS.len hits
        have hI := Lib.hid hits; clear hits
        have hbs : gb < wr.heap.size := lt_of_cell c0
        have hpl := hI0.out p (List.mem_of_getElem? hp)
        have hself := Lib.hid (set_self hp)
        have hp' := Lib.hid hp; clear hp
        have hh' := Lib.hid hh; clear hh
        obtain ⟨xk, xn, xits, xset, xclr, xto, xl⟩ := p
        go_wp2_with fail
        refine (cloneItems_any (fun _ => True) _ xits _ (hI.out.to (Kp.below (bal (brf _) _))) hpl).mono ?_
        rintro e w2 ⟨v2, rfl, ho2, hb2⟩
        have HB : Below wr.heap.size wr w2 := (bal (brf wr) _).trans (hb2.mono (by simp))
        have hoW := Lib.hid (ho'.out.below HB fun cs x _ r => RPt.to r (Kp.below HB))
        have hh2 := (HB.block _ hbs).trans hh'.out
        have d2 : ∃ z, w2.cell? ⟨gb, k * 7 + 2, none⟩ = some z := ⟨_, (HB.cell (p := ⟨gb, k * 7 + 2, none⟩) hbs).trans c2⟩
        obtain ⟨z, d2⟩ := d2
        have f2 : w2.frozen? ⟨gb, k * 7 + 2, none⟩ = false := Lib.frozen_of_heap hh2 _
        obtain ⟨a2, cc2, rfl, _⟩ := RdS.len ho2.rd
        have hr2 : Hid (RItems (fun k => k ≠ gb ∧ (w.heap.size ≤ k ∨ G k)) (w2.setCell ⟨gb, k * 7 + 2, none⟩ (.slice a2 xits.length cc2)) (.slice a2 xits.length cc2) xits) := Lib.hid (RItems.to ho2.rd fun k' h1 _ => ⟨by simp at h1; have := hb.size; exact ⟨by omega, Or.inl (by omega)⟩, heap_setCell_other w2 _ k' _ (by simp at h1 ⊢; omega)⟩)
        have hset := Lib.hid (hoW.out.set hp'.out (j := 2) (x' := ⟨xk, xn, xits, xset, xclr, xto, xl⟩) (R' := RPt fun k => k ≠ gb ∧ (w.heap.size ≤ k ∨ G k)) (by decide) (.slice a2 xits.length cc2) rfl (fun cs y _ r => RPt.to r fun k hk _ => ⟨hk, heap_setCell_other _ _ k _ hk.1⟩) (fun cs hcs r => by
          obtain ⟨sv, rfl, _⟩ := r
          exact ⟨_, rfl, hr2.out⟩))
        clear ho2 hh2
        go_wp2
        go_roundw
        case rel => exact ⟨k + 1, by omega, by go_num, by have := hset.out; rw [hself.out] at this; exact this, (hb.trans (HB.mono hb.size)).setCell hgb _⟩
        case measure => simp [intOf]; omega
      · obtain rfl : k = L.length := by omega
        go_wp2
        go_ret
        exact ⟨_, rfl, RdS.to ho'.out.rd (by decide) (fun k hk _ => ⟨Or.inl hk, rfl⟩) (fun cs x _ r => RPt.to r (Kp.weak wr fun k hk => hk.2)), hb⟩
end Go.Proofs.YtckdlhgeelhnmaaGreat
