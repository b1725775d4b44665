/- The closed fact torn; the law TokenParts, walked. -/
import Derived.Test.YtkekjddkbmmckaaGreatConcat
import Derived.Test.YtkekjddkbmmckaaGreatPlTP
import Derived.Test.YtkekjddkbmmckaaGreatEqToks
import Derived.Lib.SlBytesConst
namespace Go.Mh
open Go.RowKit
theorem RBytes.lit {F : Nat → Prop} {w : World} {g n cap : Nat} {L : Bs} {xs : Array Value} {e : TypeId} {fr : Nat × Nat} (hg : w.heap[g]? = some (.cells xs e fr)) (hn : n = L.length) (hc : n ≤ cap) (hm : cap ≤ maxLen) (hF : F g)
    (hx : xs.toList = L.map (fun c => Value.int .u8 c.toNat)) : RBytes F w (.slice (some ⟨g, 0, none⟩) n cap) L := by
  subst hn
  refine ⟨_, cap, rfl, hc, hm, fun h => by simp at h, fun i x hi => ⟨g, 0, [.int .u8 x.toNat], rfl, hF, rfl, fun j u hj => ?_, rfl⟩⟩
  unfold World.cell?
  rw [hg]
  match j, hj with
  | 0, hj =>
    simp at hj; subst hj
    have : xs.toList[i]? = some (.int .u8 x.toNat) := by rw [hx, List.getElem?_map, hi]; rfl
    simpa using this
theorem RToks.lit {F : Nat → Prop} {w : World} {g n cap : Nat} {L : List Tok} {xs : Array Value} {e : TypeId} {fr : Nat × Nat} (hg : w.heap[g]? = some (.cells xs e fr)) (hn : n = L.length) (hc : n ≤ cap) (hm : cap ≤ maxLen) (hF : F g)
    (hx : ∀ i x, L[i]? = some x → xs[i * 4]? = some (.int .i64 x.k) ∧ xs[i * 4 + 1]? = some (str x.name) ∧ xs[i * 4 + 2]? = some (str x.text) ∧ xs[i * 4 + 3]? = some (str x.href)) : RToks F w (.slice (some ⟨g, 0, none⟩) n cap) L := by
  subst hn
  refine ⟨_, cap, rfl, hc, hm, fun h => by simp at h, fun i x hi => ⟨g, 0, [.int .i64 x.k, str x.name, str x.text, str x.href], rfl, hF, rfl, fun j u hj => ?_, rfl⟩⟩
  obtain ⟨a0, a1, a2, a3⟩ := hx i x hi
  unfold World.cell?
  rw [hg]
  match j, hj with
  | 0, hj => simp at hj; subst hj; simpa using a0
  | 1, hj => simp at hj; subst hj; simpa using a1
  | 2, hj => simp at hj; subst hj; simpa using a2
  | 3, hj => simp at hj; subst hj; simpa using a3
theorem RSl.lit2 {α : Type} {sz : Nat} {R : World → List Value → α → Prop} {F : Nat → Prop} {w : World} {g : Nat} {v0 v1 : Value} {l0 l1 : List α} {e : TypeId} {fr : Nat × Nat} (hg : w.heap[g]? = some (.cells #[v0, v1] e fr)) (hF : F g) (h0 : RdS sz R F w v0 l0) (h1 : RdS sz R F w v1 l1) :
    RdS 1 (RSl sz R F) F w (.slice (some ⟨g, 0, none⟩) 2 2) [l0, l1] := by
  refine ⟨_, 2, rfl, by simp, by simp [maxLen], fun h => by simp at h, fun i x hi => ?_⟩
  match i, hi with
  | 0, hi => simp at hi; subst hi; exact ⟨g, 0, [v0], rfl, hF, rfl, fun j u hj => by match j, hj with | 0, hj => simp at hj; subst hj; unfold World.cell?; rw [hg]; rfl, v0, rfl, h0⟩
  | 1, hi => simp at hi; subst hi; exact ⟨g, 0, [v1], rfl, hF, rfl, fun j u hj => by match j, hj with | 0, hj => simp at hj; subst hj; unfold World.cell?; rw [hg]; rfl, v1, rfl, h1⟩
theorem RSl.lit3 {α : Type} {sz : Nat} {R : World → List Value → α → Prop} {F : Nat → Prop} {w : World} {g : Nat} {v0 v1 v2 : Value} {l0 l1 l2 : List α} {e : TypeId} {fr : Nat × Nat} (hg : w.heap[g]? = some (.cells #[v0, v1, v2] e fr)) (hF : F g) (h0 : RdS sz R F w v0 l0) (h1 : RdS sz R F w v1 l1) (h2 : RdS sz R F w v2 l2) :
    RdS 1 (RSl sz R F) F w (.slice (some ⟨g, 0, none⟩) 3 3) [l0, l1, l2] := by
  refine ⟨_, 3, rfl, by simp, by simp [maxLen], fun h => by simp at h, fun i x hi => ?_⟩
  match i, hi with
  | 0, hi => simp at hi; subst hi; exact ⟨g, 0, [v0], rfl, hF, rfl, fun j u hj => by match j, hj with | 0, hj => simp at hj; subst hj; unfold World.cell?; rw [hg]; rfl, v0, rfl, h0⟩
  | 1, hi => simp at hi; subst hi; exact ⟨g, 0, [v1], rfl, hF, rfl, fun j u hj => by match j, hj with | 0, hj => simp at hj; subst hj; unfold World.cell?; rw [hg]; rfl, v1, rfl, h1⟩
  | 2, hi => simp at hi; subst hi; exact ⟨g, 0, [v2], rfl, hF, rfl, fun j u hj => by match j, hj with | 0, hj => simp at hj; subst hj; unfold World.cell?; rw [hg]; rfl, v2, rfl, h2⟩
def tornL : Bs := [60, 97, 32, 104, 114, 101, 102, 61, 39, 120, 39, 62, 38, 108, 116, 59, 60, 33, 45, 45, 121]
def tornT : List Tok := [⟨2, [97], [], [120]⟩, ⟨1, [], [60], []⟩, ⟨4, [], [], []⟩]
theorem pageF_len (n : Nat) : ∀ s : Bs, (pageF n s).length ≤ 2 * n := by
  induction n with
  | zero => intro s; simp [pageF]
  | succ n ih =>
    intro s
    rw [pageF, List.length_append]
    have h1 : (if s.takeWhile (· != 60) = [] then [] else [tText (readE (s.takeWhile (· != 60)))]).length ≤ 1 := by split <;> simp
    have h2 : ∀ (t : Tok) (r : Bs), (t :: pageF n r).length ≤ 2 * n + 1 := fun t r => by have := ih r; simp; omega
    have h3 : (match s.dropWhile (· != 60) with
      | [] => ([] : List Tok)
      | c :: u =>
        if sCom.isPrefixOf (c :: u) = true then tOther :: pageF n (cutC (u.drop 3))
        else match u with
          | [] => tText [60] :: pageF n []
          | d :: v =>
            if d = 33 ∨ d = 63 then tOther :: pageF n (cut1 62 (c :: d :: v)).2.1
            else if isLt d = true then match tagT (d :: v) with
              | none => []
              | some (name, h, r) => ⟨2, name, [], readE h⟩ :: pageF n r
            else if d = 47 ∧ (v.head?.map isLt) = some true then match tagT v with
              | none => []
              | some (name, _, r) => ⟨3, name, [], []⟩ :: pageF n r
            else tText [60] :: pageF n (d :: v)).length ≤ 2 * n + 1 := by
      repeat' split
      all_goals first | exact h2 _ _ | simp
    exact Nat.le_trans (Nat.add_le_add h1 h3) (by omega)
theorem pageT_len (s : Bs) : (pageT s).length ≤ 2 * (s.length + 1) := pageF_len _ _
theorem torn_page : pageP tornL = (tornT, 0) := by decide +kernel
end Go.Mh
namespace Go.Proofs.YtkekjddkbmmckaaGreat
open Go.RowKit Go.Mh

theorem tokPage_p {F : Nat → Prop} {v : Value} {l : Bs} {w : World} (p : List Tok × Int) (hp : pageP l = p) (h : RBytes F w v l) (hm : ∃ m, w.cell? ⟨0, 0, none⟩ = some (.int .i64 m)) :
    Calls Tryz.prog 4 #[v] w fun e w' => ∃ r, e = .returned (.tuple #[r, .int .i64 p.2]) ∧ RToks (w.heap.size ≤ ·) w' r p.1 ∧ Below w.heap.size w w' := by
  subst hp
  exact tokPage_any F v l w h hm
theorem somec {w w' : World} (h : ∃ m, w.cell? ⟨0, 0, none⟩ = some (.int .i64 m)) (hb : Below w.heap.size w w') : ∃ m, w'.cell? ⟨0, 0, none⟩ = some (.int .i64 m) := by
  obtain ⟨m, hm⟩ := h
  exact ⟨m, (hb.cell (lt_of_cell hm)).trans hm⟩

set_option maxRecDepth 100000 in
set_option maxHeartbeats 1000000 in
theorem torn_any (w : World) (hm : ∃ m, w.cell? ⟨0, 0, none⟩ = some (.int .i64 m)) :
    Calls Tryz.prog 5 #[] w fun e w' => e = .returned (.bool true) ∧ Below w.heap.size w w' := by
  go_enter Tryz.func5, Tryz.ntmps5
  have hcv := fun (w : World) (C : Array Value) (n c : Nat) => Lib.run_convert_bytes_const (P := Tryz.prog) w 22 5 C n c Tryz.underlying22 Tryz.underlying5
  have hM := Lib.hid hm
  clear hm
  go_wp2_with fail
  refine (tokPage_p (F := fun _ => True) (tornT, 0) torn_page (RBytes.lit (n := 21) (cap := 21) (heap_new w _) rfl (by decide) (by decide) trivial rfl) (somec hM.out (bal (brf _) _))).mono ?_
  rintro e w1 ⟨r, rfl, hr, hb⟩
  obtain ⟨ra, rc, rfl, _⟩ := RdS.len hr
  have hB := btr (bal (brf w) _) hb
  have hr' := Lib.hid hr
  clear hr hb
  go_wp2_with fail
  refine (eqToks_any (fun _ => True) (fun _ => True) _ _ tornT tornT _ (hr'.out.to (fun k _ hk => ⟨trivial, (bal (brf _) _).block k hk⟩)) (RToks.lit (heap_new _ _) rfl (by decide) (by decide) trivial (fun i x hi => ?_))).mono ?_
  · match i, hi with
    | 0, hi => simp [tornT] at hi; subst hi; exact ⟨rfl, rfl, rfl, rfl⟩
    | 1, hi => simp [tornT] at hi; subst hi; exact ⟨rfl, rfl, rfl, rfl⟩
    | 2, hi => simp [tornT] at hi; subst hi; exact ⟨rfl, rfl, rfl, rfl⟩
    | n + 3, hi => simp [tornT] at hi
  rintro e w2 ⟨rfl, hb2⟩
  rw [decide_eq_true rfl]
  go_wp2
  go_ret
  exact ⟨rfl, btr (bal hB _) hb2⟩

theorem heap_old {w : World} {g : Nat} {o : Obj} (h : w.heap[g]? = some o) (o' : Obj) : (w.alloc o').heap[g]? = some o := by
  have hg := lt_of_heap h
  rw [(bal (brf w) o').block g hg]; exact h

theorem heap_old2 (w : World) (o o' : Obj) : ((w.alloc o).alloc o').heap[w.heap.size]? = some o := heap_old (heap_new w o) o'
theorem heap_new2 (w : World) (o o' : Obj) : ((w.alloc o).alloc o').heap[w.heap.size + 1]? = some o' := by
  have h := heap_new (w.alloc o) o'
  rwa [show (w.alloc o).heap.size = w.heap.size + 1 by simp] at h

end Go.Proofs.YtkekjddkbmmckaaGreat
