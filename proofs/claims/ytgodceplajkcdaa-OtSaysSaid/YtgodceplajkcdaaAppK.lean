/- One element appended to the call's own row, whatever its elements read: what is kept is said by one hypothesis. Of whatever program. -/
import Derived.Test.YtgodceplajkcdaaMemA
namespace Go.Mh
open Go.RowKit
theorem wpList_appK {P : Program} {w : World} {ops : Array Oper} {rest : List Oper} {o : Oper} {a : Act} {Q : Exit → Act → World → Prop} (hgd : o.guard = none) (s x : Operand) (t : TypeId)
    (ho : o.op = .call { callee := .builtin .append, args := #[s, x], argTypes := #[t, t] })
    {α : Type} (base e sz bytes : Nat) (z : Value) (hel : El P t e sz bytes z) (R : World → List Value → α → Prop) (v : Value) (L : List α) (hs : a.eval s = v) (hown : OwnS base e sz R w v L)
    (y : α) (cs : List Value) (e' : TypeId) (g : Nat) (hx : a.eval x = .slice (some ⟨g, 0, none⟩) 1 1) (hg : g = w.heap.size) (hcs : cs.length = sz) (hR1 : R w cs y) (h1c : ∀ w cs x, R w cs x → ∀ u ∈ cs, u.oneCell' = true)
    (h63 : L.length + 1 ≤ maxLen) (hbytes : (L.length + 1) * bytes ≤ 140737488355328) (hbase : base ≤ w.heap.size)
    (hkeep : ∀ w', w.heap.size ≤ w'.heap.size → (∀ k, k < w.heap.size → some k ≠ v.ownBlock → w'.heap[k]? = w.heap[k]?) → ∀ cs x, R w cs x → R w' cs x)
    (h : ∀ v' w', OwnS base e sz R w' v' (L ++ [y]) → Below base w w' → w.heap.size < w'.heap.size → (∀ k, k < w.heap.size → some k ≠ v.ownBlock → w'.heap[k]? = w.heap[k]?) → wpList P ops Q rest (a.put o.dst v') w') :
    wpList P ops Q (o :: rest) a (w.alloc (.cells cs.toArray e')) := by
  subst hg
  have hb0 : Below w.heap.size w (w.alloc (.cells cs.toArray e')) := (Below.refl _ _).alloc (Nat.le_refl _) _
  have hcomb : ∀ w', (w.alloc (.cells cs.toArray e')).grownBy w' v.ownBlock → ∀ k, k < w.heap.size → some k ≠ v.ownBlock → w'.heap[k]? = w.heap[k]? := fun w' hg k hk hne => by
    rw [hg.block k (by simp; omega) hne]; exact hb0.block k hk
  have hown0 : OwnS base e sz (fun _ => R w) (w.alloc (.cells cs.toArray e')) v L := hown.to (fun k _ hl => hb0.block k hl) fun _ _ _ r => r
  refine wpList_app hgd s x t ho base e sz bytes z hel (fun _ => R w) v L [y] hs hown0 (fun _ => True) _ hx
    (RdS.one cs e' hcs trivial hR1) (fun _ cs x r => h1c w cs x r) (by simpa using h63) (by simpa using hbytes) (by simp; omega) (fun _ _ _ _ _ r => r) ?_
  intro v' w' hown' hg hb
  have hz : w.heap.size < w'.heap.size := by have := hg.size; simp at this; omega
  exact h v' w' (hown'.to (fun _ _ _ => rfl) fun cs x _ r => hkeep w' (Nat.le_of_lt hz) (hcomb w' hg) cs x r) (((Below.refl _ _).alloc hbase _).trans hb) hz (hcomb w' hg)
end Go.Mh
