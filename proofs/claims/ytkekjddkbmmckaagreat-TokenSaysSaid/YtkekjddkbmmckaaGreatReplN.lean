/- strings.NewReplacer: what it is told is copied. -/
import Derived.Test.YtkekjddkbmmckaaGreatRepl
import Derived.Test.YtkekjddkbmmckaaGreatDoc
namespace Go.Mh
open Go.RowKit
def RS (_ : World) (cs : List Value) (x : Bs) : Prop := cs = [str x]
def strs8 : List Bs := [eAmp, [38], eLt, [60], eGt, [62], eQuot, [34]]
theorem RS_one : ∀ (w : World) (cs : List Value) (x : Bs), RS w cs x → ∀ u ∈ cs, u.oneCell' = true := by
  rintro w _ x rfl u hu
  simp at hu
  subst hu
  rfl
theorem rs_lit {w : World} {g T : Nat} (h : w.heap[g]? = some (.cells (strs8.map str).toArray T (0, 0))) : RdS 1 RS (· = g) w (.slice (some ⟨g, 0, none⟩) 8 8) strs8 := by
  refine ⟨_, _, rfl, by decide, by decide, fun h => by simp at h, fun i x hx => ⟨g, 0, [str x], rfl, rfl, rfl, fun j u hj => ?_, rfl⟩⟩
  match j, hj with
  | 0, hj =>
    simp at hj
    subst hj
    refine cellAt' h ?_
    rw [show 0 + i * 1 + 0 = i by omega]
    simp [hx]
end Go.Mh
namespace Go.Proofs.YtkekjddkbmmckaaGreat
open Go.RowKit Go.Mh

theorem elStrs : El Tryz.prog 68 9 1 16 (.string ⟨#[]⟩) := ⟨Tryz.underlying68, by kernel_rfl, rfl, by decide⟩
theorem pairs_of {F : Nat → Prop} {w : World} {g cap : Nat} (h : RdS 1 RS F w (.slice (some ⟨g, 0, none⟩) 8 cap) strs8) : Pairs w g := by
  obtain ⟨a, c, e, _, _, _, hel⟩ := h
  cases e
  have key : ∀ (i : Nat) (x : Bs), strs8[i]? = some x → w.cell? ⟨g, i, none⟩ = some (str x) := fun i x hx => by
    obtain ⟨b, o, cs, e1, _, _, hat, hr⟩ := hel i x hx
    cases e1
    have hr' : cs = [str x] := hr
    subst hr'
    have := hat 0 (str x) rfl
    rw [show 0 + i * 1 + 0 = i by omega] at this
    exact this
  intro q K V hK hV
  match q, hK, hV with
  | 0, hK, hV => cases hK; cases hV; exact ⟨key 0 _ rfl, key 1 _ rfl⟩
  | 1, hK, hV => cases hK; cases hV; exact ⟨key 2 _ rfl, key 3 _ rfl⟩
  | 2, hK, hV => cases hK; cases hV; exact ⟨key 4 _ rfl, key 5 _ rfl⟩
  | 3, hK, hV => cases hK; cases hV; exact ⟨key 6 _ rfl, key 7 _ rfl⟩
  | n + 4, hK, hV => simp [keysR] at hK

set_option maxRecDepth 1000000 in
set_option maxHeartbeats 4000000 in
theorem newRepl_any (F : Nat → Prop) (v : Value) (w : World) (h : RdS 1 RS F w v strs8) :
    Calls Tryz.prog 37 #[v] w fun e w' => ∃ rb b cap, e = .returned (ptr rb) ∧ ReplAt w' rb 0 0 .nilIface (.slice (some ⟨b, 0, none⟩) 8 cap) ∧ Pairs w' b ∧ b ≠ rb ∧ w.heap.size ≤ rb ∧ Below w.heap.size w w' := by
  obtain ⟨a, cap, rfl, hn⟩ := RdS.len h
  have H := Lib.hid h
  clear h
  have hl8 : strs8.length = 8 := rfl
  rw [hl8] at H ⊢
  go_enter Tryz.func37, Tryz.ntmps37
  go_wp2_with (at_builtin; refine wpList_app rfl (.const (.slice none 0 0)) (.tmp 8) 68 rfl w.heap.size 9 1 16 _ elStrs RS (.slice none 0 0) [] strs8 rfl OwnS.nil F (.slice a 8 cap) rfl H.out RS_one (by decide) (by decide) (Nat.le_refl _) (fun _ _ _ _ _ r => r) ?_; intro v2 w2 ho2 hb2 hB2; rw [List.nil_append] at ho2; obtain ⟨g, cp, cur, rfl, hg, hh⟩ := ho2.shape (by decide); rw [hl8] at ho2; have hO := Lib.hid ho2; clear ho2 hl8)
  go_ret
  have hgl := lt_of_heap hh
  refine ⟨w2.heap.size, g, cp, rfl, heap_new _ _, (pairs_of hO.out.rd).of ((bal (brf w2) _).block g hgl), by omega, hB2.size, bal hB2 _⟩
end Go.Proofs.YtkekjddkbmmckaaGreat
