/- Two operations of a drawn region that may come up in either order. -/
import Derived.Test.YtkekjddkbmmckaaGreatRegT
namespace Go.Mh
open Go
section
variable {P : Program} {ops : Array Oper} {Q : Exit → Act → World → Prop} {md : Region.Mode} {S : World → Prop}
/-- Two operations may come up, in either order: what they leave behind is said once. -/
theorem wpAnyH_pair (i j di dj : Nat) {oi oj : Oper} {fuel : Nat} {listed : Array Bool} {l : List Value} {df : List _} {w : World} (hi : ops[i]? = some oi) (hj : ops[j]? = some oj) (hne : di ≠ dj)
    (hr : Region.ready md ops listed = [i, j]) (hri : Region.ready md ops (listed.setIfInBounds i true) = [j]) (hrj : Region.ready md ops (listed.setIfInBounds j true) = [i]) (hij : i ≠ j)
    (A B : Value → World → Prop) (I : Value → Value → World → Prop)
    (h1 : ∀ K' : Act → World → Prop, Shut (∀ v w', S w' → A v w' → K' ⟨(l.set di v).toArray, df⟩ w') → if Region.wanted oi (yielded ops l.toArray) = true then Oper.wp P oi ⟨l.toArray, df⟩ w K' Q else K' ((⟨l.toArray, df⟩ : Act).put oi.dst undef) w)
    (h2 : ∀ v w', A v w' → ∀ K' : Act → World → Prop, Shut (∀ u w'', S w'' → I v u w'' → K' ⟨((l.set di v).set dj u).toArray, df⟩ w'') → if Region.wanted oj (yielded ops (l.set di v).toArray) = true then Oper.wp P oj ⟨(l.set di v).toArray, df⟩ w' K' Q else K' ((⟨(l.set di v).toArray, df⟩ : Act).put oj.dst undef) w')
    (h3 : ∀ K' : Act → World → Prop, Shut (∀ u w', S w' → B u w' → K' ⟨(l.set dj u).toArray, df⟩ w') → if Region.wanted oj (yielded ops l.toArray) = true then Oper.wp P oj ⟨l.toArray, df⟩ w K' Q else K' ((⟨l.toArray, df⟩ : Act).put oj.dst undef) w)
    (h4 : ∀ u w', B u w' → ∀ K' : Act → World → Prop, Shut (∀ v w'', S w'' → I v u w'' → K' ⟨((l.set dj u).set di v).toArray, df⟩ w'') → if Region.wanted oi (yielded ops (l.set dj u).toArray) = true then Oper.wp P oi ⟨(l.set dj u).toArray, df⟩ w' K' Q else K' ((⟨(l.set dj u).toArray, df⟩ : Act).put oi.dst undef) w')
    (h : ∀ v u w', I v u w' → S w' → wpAnyH P md ops Q S fuel ((listed.setIfInBounds i true).setIfInBounds j true) ⟨((l.set di v).set dj u).toArray, df⟩ w') :
    wpAnyH P md ops Q S (fuel + 2) listed ⟨l.toArray, df⟩ w := by
  refine ⟨fun h0 => by (rw [hr] at h0; cases h0), fun k hk => ?_⟩
  rw [hr] at hk
  rcases (by simpa using hk : k = i ∨ k = j) with rfl | rfl
  · refine wpOp_step hi fun K' hK => h1 K' fun v w' hS hA => hK _ w' ⟨hS, ?_⟩
    refine wpAnyH_step j hj hri fun K'' hK2 => h2 v w' hA K'' fun u w'' hS' hI => hK2.out _ _ hS' (h v u w'' hI hS')
  · refine wpOp_step hj fun K' hK => h3 K' fun u w' hS hB => hK _ w' ⟨hS, ?_⟩
    refine wpAnyH_step i hi hrj fun K'' hK2 => h4 u w' hB K'' fun v w'' hS' hI => hK2.out _ _ hS' ?_
    have := h v u w'' hI hS'
    rwa [Array.setIfInBounds_comm _ _ hij, List.set_comm _ _ hne] at this
end
end Go.Mh
/- As both walks of drawn regions: S holds behind every operation; C holds as long as b has not come up. -/
namespace Go.Mh
open Go
section
variable {P : Program} {ops : Array Oper} {Q : Exit → Act → World → Prop} {md : Region.Mode} {b : Nat} {C S : World → Prop}
def wpAnyG (P : Program) (md : Region.Mode) (ops : Array Oper) (Q : Exit → Act → World → Prop) (b : Nat) (C S : World → Prop) : Nat → Array Bool → Act → World → Prop
  | 0, listed, a, w => Region.ready md ops listed = [] ∧ Q .normal a w
  | fuel + 1, listed, a, w =>
    (Region.ready md ops listed = [] → Q .normal a w) ∧
    ∀ i ∈ Region.ready md ops listed, wpOp P ops Q i (fun a' w' => S w' ∧ ((listed.setIfInBounds i true).getD b true = false → C w') ∧ wpAnyG P md ops Q b C S fuel (listed.setIfInBounds i true) a' w') a w
theorem wpAny_of_G : ∀ (fuel : Nat) (listed : Array Bool) (a : Act) (w : World), wpAnyG P md ops Q b C S fuel listed a w → wpAny P md ops Q fuel listed a w
  | 0, _, _, _, h => h
  | fuel + 1, _, _, _, h => ⟨h.1, fun i hi => wpOp_mono (fun a' w' h' => wpAny_of_G fuel _ a' w' h'.2.2) (h.2 i hi)⟩
theorem wpAnyG_firstC {n i : Nat} {oi : Oper} {v : Value} (hi : ops[i]? = some oi) (hsel : ∀ (j : Nat) (o : Oper) cs b, ops[j]? = some o → o.op ≠ .select cs b)
    (hQ : ∀ c a w, Q (.panic c) (a.put oi.dst v) w → Q (.panic c) a w) (hib : i ≠ b) (hwt : waitsT md ops i n b = true) :
    ∀ (fuel : Nat) (listed : Array Bool) (a : Act) (w : World),
      (∀ j oj, ops[j]? = some oj → j ≠ i → listed.getD j true = false → (∀ e ∈ oj.after, Region.binds md e = true → e.on ≠ i) → oi.apart ops oj = true) →
      ClosedT md ops listed → i ∈ Region.ready md ops listed → YieldsIf P ops (fun w => S w ∧ C w) oi v a → S w → C w → listed.getD b true = false →
      wpAnyG P md ops Q b C S fuel (listed.setIfInBounds i true) (a.put oi.dst v) w → wpAnyG P md ops Q b C S (fuel + 1) listed a w := by
  intro fuel
  induction fuel with
  | zero =>
    intro listed a w _ _ hr hy hS hC hlb H
    refine ⟨fun h => (by rw [h] at hr; cases hr), fun j hj => ?_⟩
    by_cases hji : j = i
    · subst hji; exact hy.wpOp hi ⟨hS, hC⟩ ⟨hS, fun _ => hC, H⟩
    · have := ready_mono hj hji
      rw [H.1] at this
      cases this
  | succ fuel ih =>
    intro listed a w hfree hcl hr hy hS hC hlb H
    refine ⟨fun h => (by rw [h] at hr; cases hr), fun j hj => ?_⟩
    by_cases hji : j = i
    · subst hji; exact hy.wpOp hi ⟨hS, hC⟩ ⟨hS, fun _ => hC, H⟩
    · have hjb : j ≠ b := fun h => not_ready_of_waitsT hcl hwt (mem_ready.1 hr).1 (h ▸ hj)
      have h1 := H.2 j (ready_mono hj hji)
      obtain ⟨hjun, oj, hoj, hall⟩ := mem_ready.1 hj
      have hnot : ∀ e ∈ oj.after, Region.binds md e = true → e.on ≠ i := fun e he hb heq => by
        have h1 := hall e he hb
        have h0 := (mem_ready.1 hr).1
        rw [heq] at h1
        rcases Nat.lt_or_ge i listed.size with h' | h'
        · simp [h'] at h0 h1; rw [h0] at h1; cases h1
        · simp [Array.getElem?_eq_none h'] at h1
      have h2 := wpOp_putIf hoj (hfree j oj hoj hji hjun hnot) (fun cs b => hsel i oi cs b hi) (fun cs b => hsel j oj cs b hoj) hQ hy h1
      have hfree' : ∀ k ok, ops[k]? = some ok → k ≠ i → (listed.setIfInBounds j true).getD k true = false →
          (∀ e ∈ ok.after, Region.binds md e = true → e.on ≠ i) → oi.apart ops ok = true := fun k ok hk hki hun hno => by
        refine hfree k ok hk hki ?_ hno
        by_cases hjk : j = k
        · subst hjk; exact hjun
        · rw [getD_set_ne true hjk] at hun; exact hun
      have hb1 : (listed.setIfInBounds j true).getD b true = false := by rw [getD_set_ne true hjb]; exact hlb
      refine wpOp_mono (fun a' w' h3 => ?_) h2
      have hC : C w' := h3.2.2.1 (by rw [getD_set_ne true hjb, getD_set_ne true hib]; exact hlb)
      refine ⟨h3.2.1, fun _ => hC, ih (listed.setIfInBounds j true) a' w' hfree' (hcl.step hj) (ready_mono hr (Ne.symm hji)) h3.1 h3.2.1 hC hb1 ?_⟩
      rw [Array.setIfInBounds_comm _ _ hji]
      exact h3.2.2.2
theorem wpAnyG_firstS {i : Nat} {oi : Oper} {v : Value} (hi : ops[i]? = some oi) (hsel : ∀ (j : Nat) (o : Oper) cs b, ops[j]? = some o → o.op ≠ .select cs b)
    (hQ : ∀ c a w, Q (.panic c) (a.put oi.dst v) w → Q (.panic c) a w) (hib : i ≠ b) :
    ∀ (fuel : Nat) (listed : Array Bool) (a : Act) (w : World),
      (∀ j oj, ops[j]? = some oj → j ≠ i → listed.getD j true = false → (∀ e ∈ oj.after, Region.binds md e = true → e.on ≠ i) → oi.apart ops oj = true) →
      i ∈ Region.ready md ops listed → YieldsIf P ops S oi v a → S w → (listed.getD b true = false → C w) →
      wpAnyG P md ops Q b C S fuel (listed.setIfInBounds i true) (a.put oi.dst v) w → wpAnyG P md ops Q b C S (fuel + 1) listed a w := by
  intro fuel
  induction fuel with
  | zero =>
    intro listed a w _ hr hy hS hC H
    refine ⟨fun h => (by rw [h] at hr; cases hr), fun j hj => ?_⟩
    by_cases hji : j = i
    · subst hji; exact hy.wpOp hi hS ⟨hS, fun h => hC (by rw [getD_set_ne true hib] at h; exact h), H⟩
    · have := ready_mono hj hji
      rw [H.1] at this
      cases this
  | succ fuel ih =>
    intro listed a w hfree hr hy hS hC H
    refine ⟨fun h => (by rw [h] at hr; cases hr), fun j hj => ?_⟩
    by_cases hji : j = i
    · subst hji; exact hy.wpOp hi hS ⟨hS, fun h => hC (by rw [getD_set_ne true hib] at h; exact h), H⟩
    · have h1 := H.2 j (ready_mono hj hji)
      obtain ⟨hjun, oj, hoj, hall⟩ := mem_ready.1 hj
      have hnot : ∀ e ∈ oj.after, Region.binds md e = true → e.on ≠ i := fun e he hb heq => by
        have h1 := hall e he hb
        have h0 := (mem_ready.1 hr).1
        rw [heq] at h1
        rcases Nat.lt_or_ge i listed.size with h' | h'
        · simp [h'] at h0 h1; rw [h0] at h1; cases h1
        · simp [Array.getElem?_eq_none h'] at h1
      have h2 := wpOp_putIf hoj (hfree j oj hoj hji hjun hnot) (fun cs b => hsel i oi cs b hi) (fun cs b => hsel j oj cs b hoj) hQ hy h1
      have hfree' : ∀ k ok, ops[k]? = some ok → k ≠ i → (listed.setIfInBounds j true).getD k true = false →
          (∀ e ∈ ok.after, Region.binds md e = true → e.on ≠ i) → oi.apart ops ok = true := fun k ok hk hki hun hno => by
        refine hfree k ok hk hki ?_ hno
        by_cases hjk : j = k
        · subst hjk; exact hjun
        · rw [getD_set_ne true hjk] at hun; exact hun
      refine wpOp_mono (fun a' w' h3 => ?_) h2
      have hC' : (listed.setIfInBounds j true).getD b true = false → C w' := fun h => h3.2.2.1 (by rw [Array.setIfInBounds_comm _ _ (Ne.symm hji), getD_set_ne true hib]; exact h)
      refine ⟨h3.2.1, hC', ih (listed.setIfInBounds j true) a' w' hfree' (ready_mono hr (Ne.symm hji)) h3.1 h3.2.1 hC' ?_⟩
      rw [Array.setIfInBounds_comm _ _ hji]
      exact h3.2.2.2
/-- A read that C and S decide: b waits for it. -/
theorem wpAnyG_takeC (n i d : Nat) {oi : Oper} {v : Value} {fuel : Nat} {listed : Array Bool} {l : List Value} {df : List _} {w : World} (hi : ops[i]? = some oi) (hd : oi.dst = some d)
    (hs : Region.noSelect ops = true) (hf : Region.free md ops listed i = true) (hr : (Region.ready md ops listed).contains i = true) (hwt : waitsT md ops i n b = true) (hcl : closedB md ops listed = true) (hlb : listed.getD b true = false) (hib : i ≠ b)
    (hQ : ∀ c a w, Q (.panic c) (a.put oi.dst v) w → Q (.panic c) a w) (hy : YieldsIf P ops (fun w => S w ∧ C w) oi v ⟨l.toArray, df⟩) (hS : S w) (hC : C w)
    (h : wpAnyG P md ops Q b C S fuel (listed.setIfInBounds i true) ⟨(l.set d v).toArray, df⟩ w) : wpAnyG P md ops Q b C S (fuel + 1) listed ⟨l.toArray, df⟩ w := by
  refine wpAnyG_firstC hi (Region.noSelect_spec hs) hQ hib hwt fuel listed _ w (Region.free_spec hi hf) (closedB_spec hcl) (by simpa using hr) hy hS hC hlb ?_
  rw [hd]
  simpa [Act.put] using h
/-- A read that S alone decides. -/
theorem wpAnyG_takeS (i d : Nat) {oi : Oper} {v : Value} {fuel : Nat} {listed : Array Bool} {l : List Value} {df : List _} {w : World} (hi : ops[i]? = some oi) (hd : oi.dst = some d)
    (hs : Region.noSelect ops = true) (hf : Region.free md ops listed i = true) (hr : (Region.ready md ops listed).contains i = true) (hib : i ≠ b)
    (hQ : ∀ c a w, Q (.panic c) (a.put oi.dst v) w → Q (.panic c) a w) (hy : YieldsIf P ops S oi v ⟨l.toArray, df⟩) (hS : S w) (hC : listed.getD b true = false → C w)
    (h : wpAnyG P md ops Q b C S fuel (listed.setIfInBounds i true) ⟨(l.set d v).toArray, df⟩ w) : wpAnyG P md ops Q b C S (fuel + 1) listed ⟨l.toArray, df⟩ w := by
  refine wpAnyG_firstS hi (Region.noSelect_spec hs) hQ hib fuel listed _ w (Region.free_spec hi hf) (by simpa using hr) hy hS hC ?_
  rw [hd]
  simpa [Act.put] using h
theorem wpAnyG_step (i : Nat) {oi : Oper} {fuel : Nat} {listed : Array Bool} {a : Act} {w : World} (hi : ops[i]? = some oi) (hr : Region.ready md ops listed = [i])
    (h : ∀ K' : Act → World → Prop, Shut (∀ a w, S w → ((listed.setIfInBounds i true).getD b true = false → C w) → wpAnyG P md ops Q b C S fuel (listed.setIfInBounds i true) a w → K' a w) → if Region.wanted oi (yielded ops a.tmps) = true then Oper.wp P oi a w K' Q else K' (a.put oi.dst undef) w) :
    wpAnyG P md ops Q b C S (fuel + 1) listed a w :=
  ⟨fun h0 => by (rw [hr] at h0; cases h0), fun j hj => by
    rw [hr] at hj
    obtain rfl : j = i := by simpa using hj
    exact wpOp_step hi fun K' hK => h K' fun a w hS hC hW => hK a w ⟨hS, hC, hW⟩⟩
theorem wpAnyG_done {listed : Array Bool} {a : Act} {w : World} (hr : Region.ready md ops listed = []) (h : Q .normal a w) : ∀ fuel, wpAnyG P md ops Q b C S fuel listed a w
  | 0 => ⟨hr, h⟩
  | _ + 1 => ⟨fun _ => h, by rw [hr]; simp⟩
theorem wp_region_G (b : Nat) (C S : World → Prop) {id : Nat} {a : Act} {w : World} (hm : P.follows .mixedOrders = true)
    (h : wpAnyG P .any ops Q b C S ops.size (Array.replicate ops.size false) a w.drew) : (Code.region id ops true).wp P Q a w :=
  wp_region_any hm (wpAny_of_G _ _ _ _ h)
end
end Go.Mh
