/- The closed fact paged. -/
import Derived.Test.YteikncnldbdfmaaGreatDoorSanP
import Derived.Test.YteikncnldbdfmaaGreatDoorLExport
import Derived.Test.YteikncnldbdfmaaGreatDoorEqToks
import Derived.Lib.SmallJoins
namespace Go.Mh
theorem RBytes.lit {F : Nat → Prop} {w : World} {g n cap : Nat} {L : Bs} {xs : Array Value} {e : TypeId} {fr : Nat × Nat} (hg : w.heap[g]? = some (.cells xs e fr)) (hn : n = L.length) (hc : n ≤ cap) (hm : cap ≤ maxLen) (hF : F g)
    (hx : xs.toList = L.map (fun c => Value.int .u8 c.toNat)) : RBytes F w (.slice (some ⟨g, 0, none⟩) n cap) L := by
  subst hn
  refine ⟨_, cap, rfl, hc, hm, fun h => by simp at h, fun i x hi => ⟨g, 0, [.int .u8 x.toNat], rfl, hF, rfl, fun j u hj => ?_, rfl⟩⟩
  unfold World.cell?
  rw [hg]
  match j, hj with
  | 0, hj =>
    simp at hj; subst hj
    have : xs.toList[i]? = some (.int .u8 x.toNat) := by rw [hx, List.getElem?_map, hi]; rfl
    simpa using this
theorem RToks.lit {F : Nat → Prop} {w : World} {g n cap : Nat} {L : List Tok} {xs : Array Value} {e : TypeId} {fr : Nat × Nat} (hg : w.heap[g]? = some (.cells xs e fr)) (hn : n = L.length) (hc : n ≤ cap) (hm : cap ≤ maxLen) (hF : F g)
    (hx : ∀ i x, L[i]? = some x → xs[i * 4]? = some (.int .i64 x.k) ∧ xs[i * 4 + 1]? = some (str x.name) ∧ xs[i * 4 + 2]? = some (str x.text) ∧ xs[i * 4 + 3]? = some (str x.href)) : RToks F w (.slice (some ⟨g, 0, none⟩) n cap) L := by
  subst hn
  refine ⟨_, cap, rfl, hc, hm, fun h => by simp at h, fun i x hi => ⟨g, 0, [.int .i64 x.k, str x.name, str x.text, str x.href], rfl, hF, rfl, fun j u hj => ?_, rfl⟩⟩
  obtain ⟨a0, a1, a2, a3⟩ := hx i x hi
  unfold World.cell?
  rw [hg]
  match j, hj with
  | 0, hj => simp at hj; subst hj; simpa using a0
  | 1, hj => simp at hj; subst hj; simpa using a1
  | 2, hj => simp at hj; subst hj; simpa using a2
  | 3, hj => simp at hj; subst hj; simpa using a3

def pgL : Bs := [60, 97, 32, 104, 114, 101, 102, 61, 39, 120, 39, 62, 38, 108, 116, 59, 60, 33, 45, 45, 121]
def pgT : List Tok := [⟨2, [97], [], [120]⟩, ⟨1, [], [60], []⟩, ⟨4, [], [], []⟩]
def snL : Bs := "a<b>b</b><h1></h1><script>x</script>".toUTF8.data.toList
def snD : List It := [⟨97, 0, []⟩, ⟨98, 1, []⟩, ⟨10, 0, []⟩, ⟨10, 1, []⟩]
theorem pg_page : pageP pgL = (pgT, 0) := by decide +kernel
theorem sn_page : sanP snL = (snD, 0) := by decide +kernel
end Go.Mh
namespace Go.Proofs.YteikncnldbdfmaaGreatDoor
open Go.RowKit Go.Mh

set_option maxHeartbeats 400000 in
theorem same_any (F G : Nat → Prop) (v u : Value) (L M : List It) (w : World) (h : RItems F w v L) (g : RItems G w u M) :
    Calls Tryz.prog 30 #[v, u] w fun e w' => e = .returned (.bool (decide (L = M))) ∧ Below w.heap.size w w' := by
  have heq := Lib.hid (eqDoc_any F G v u L M w h g)
  clear h g
  go_enter Tryz.func30, Tryz.ntmps30
  go_wp2_with (go_at_call 24; refine heq.out.mono ?_; rintro e w1 ⟨rfl, hb1⟩)
  go_ret
  exact ⟨rfl, hb1⟩


theorem sanPage_p {F : Nat → Prop} {v : Value} {l : Bs} {w : World} (p : List It × Int) (hp : sanP l = p) (h : RBytes F w v l) (hm : ∃ m, w.cell? ⟨2, 0, none⟩ = some (.int .i64 m)) :
    Calls Tryz.prog 21 #[v] w fun e w' => ∃ r, e = .returned (.tuple #[r, .int .i64 p.2]) ∧ RItems (w.heap.size ≤ ·) w' r p.1 ∧ Below w.heap.size w w' := by
  subst hp
  exact sanPage_any F v l w h hm

set_option maxRecDepth 100000 in
set_option maxHeartbeats 4000000 in
theorem paged_any (w : World) (hm : ∃ m, w.cell? ⟨2, 0, none⟩ = some (.int .i64 m)) :
    Calls Tryz.prog 22 #[] w fun e w' => e = .returned (.bool true) ∧ Below w.heap.size w w' := by
  have hM := Lib.hid (fun w' (hb : Below w.heap.size w w') => somec hm hb)
  clear hm
  go_enter Tryz.func22, Tryz.ntmps22
  have hcv := fun (w : World) (C : Array Value) (n c : Nat) => Lib.run_convert_bytes_const (P := Tryz.prog) w 41 5 C n c Tryz.underlying41 Tryz.underlying5
  go_wp2_with fail
  refine (small_any w).mono ?_
  rintro e w1 ⟨v, rfl, hv, hb1⟩
  have C := Lib.hid (exportPage_p (smallP, 0) smallP_eq hv (hM.out _ hb1))
  clear hv
  go_wp2_with fail
  refine C.out.mono ?_
  rintro e w2 ⟨rfl, hb2⟩
  have hB2 := btr hb1 hb2
  clear hb1 hb2 C
  go_wp2_with fail
  refine (tokPage_p (F := fun _ => True) (pgT, 0) pg_page (RBytes.lit (n := 21) (cap := 21) (heap_new w2 _) rfl (by decide) (by decide) trivial rfl) (hM.out _ (bal hB2 _))).mono ?_
  rintro e w3 ⟨r, rfl, hr, hb3⟩
  obtain ⟨ra, rc, rfl, _⟩ := RdS.len hr
  have hB3 := btr (bal hB2 _) hb3
  have hr' := Lib.hid hr
  clear hr hb3 hB2
  go_wp2_with fail
  refine (sanPage_p (F := fun _ => True) (snD, 0) sn_page (RBytes.lit (n := 36) (cap := 36) (heap_new w3 _) rfl (by decide) (by decide) trivial rfl) (hM.out _ (bal hB3 _))).mono ?_
  rintro e w4 ⟨s, rfl, hs, hb4⟩
  obtain ⟨sa, sc, rfl, _⟩ := RdS.len hs
  have hB4 := btr (bal hB3 _) hb4
  have hr4 := Lib.hid (hr'.out.to (F' := fun _ => True) (fun k _ hk => ⟨trivial, (btr (bal (brf w3) _) hb4).block k hk⟩))
  have hs' := Lib.hid hs
  clear hs hb4 hB3 hr'
  go_wp2_with fail
  refine (eqToks_any (fun _ => True) (fun _ => True) _ _ pgT pgT _ (hr4.out.to (fun k _ hk => ⟨trivial, (bal (brf w4) _).block k hk⟩)) (RToks.lit (heap_new _ _) rfl (by decide) (by decide) trivial (fun i x hi => ?_))).mono ?_
  · match i, hi with
    | 0, hi => simp [pgT] at hi; subst hi; exact ⟨rfl, rfl, rfl, rfl⟩
    | 1, hi => simp [pgT] at hi; subst hi; exact ⟨rfl, rfl, rfl, rfl⟩
    | 2, hi => simp [pgT] at hi; subst hi; exact ⟨rfl, rfl, rfl, rfl⟩
    | n + 3, hi => simp [pgT] at hi
  rintro e w5 ⟨rfl, hb5⟩
  have hB5 := btr (bal hB4 _) hb5
  have hs5 := Lib.hid (RItems.to (F' := fun _ => True) hs'.out (fun k _ hk => ⟨trivial, (btr (bal (brf w4) _) hb5).block k hk⟩))
  clear hs' hr4 hb5
  rw [decide_eq_true rfl]
  go_wp2_with fail
  refine (same_any (fun _ => True) (fun _ => True) _ _ snD snD _ (RItems.to hs5.out (fun k _ hk => ⟨trivial, (bal (brf w5) _).block k hk⟩)) (RItems.lit (heap_new _ _) rfl (by decide) (by decide) trivial (fun i x hi => ?_))).mono ?_
  · match i, hi with
    | 0, hi => simp [snD] at hi; subst hi; exact ⟨rfl, rfl, rfl⟩
    | 1, hi => simp [snD] at hi; subst hi; exact ⟨rfl, rfl, rfl⟩
    | 2, hi => simp [snD] at hi; subst hi; exact ⟨rfl, rfl, rfl⟩
    | 3, hi => simp [snD] at hi; subst hi; exact ⟨rfl, rfl, rfl⟩
    | n + 4, hi => simp [snD] at hi
  rintro e w6 ⟨rfl, hb6⟩
  rw [decide_eq_true rfl]
  go_wp2
  go_ret
  exact ⟨rfl, btr (bal hB5 _) hb6⟩
end Go.Proofs.YteikncnldbdfmaaGreatDoor
