/- One operation of the closed facts (puts); blocks in which nothing lies that reads as items, parts. -/
import Derived.Test.YtckdlhgeelhnmaaGreatOpened
import Derived.Deep.RegionWith
namespace Go.Mh
open Go.RowKit
def putsP (c : UInt8) (k n : Int) : List Pt := [⟨1, k, [], 0, 0, false, []⟩, ⟨2, 0, [⟨c, 0, []⟩], 0, 0, false, []⟩, ⟨1, n - k, [], 0, 0, false, []⟩]
/-- What reads as items, parts, a client does not lie in a block that holds a client. -/
structure NoIt (w : World) (g : Nat) : Prop where
  i : ∀ o m, w.cell? ⟨g, o, none⟩ ≠ some (.int .u8 m)
  p : ∀ o m m', w.cell? ⟨g, o, none⟩ = some (.int .i64 m) → w.cell? ⟨g, o + 1, none⟩ ≠ some (.int .i64 m')
theorem NoIt.of {w : World} {g e : Nat} {fr : Nat × Nat} {r q : Int} {b n s k : Value} {j : Bool} (hb : ∃ a l c, b = .slice a l c) (hn : ∃ a l c, n = .slice a l c) (hs : ∃ a l c, s = .slice a l c) (hk : ∃ a l c, k = .slice a l c)
    (h : w.heap[g]? = some (.cells #[.int .i64 r, b, n, .int .i64 q, s, k, .bool j] e fr)) : NoIt w g := by
  obtain ⟨b1, b2, b3, rfl⟩ := hb
  obtain ⟨n1, n2, n3, rfl⟩ := hn
  obtain ⟨s1, s2, s3, rfl⟩ := hs
  obtain ⟨k1, k2, k3, rfl⟩ := hk
  constructor
  · intro o m hc
    unfold World.cell? at hc
    rw [h] at hc
    match o, hc with
    | 0, hc => simp at hc
    | 1, hc => simp at hc
    | 2, hc => simp at hc
    | 3, hc => simp at hc
    | 4, hc => simp at hc
    | 5, hc => simp at hc
    | 6, hc => simp at hc
    | n + 7, hc => simp at hc
  · intro o m m' hc hd
    unfold World.cell? at hc hd
    rw [h] at hc hd
    match o, hc, hd with
    | 0, hc, hd => simp at hd
    | 1, hc, hd => simp at hc
    | 2, hc, hd => simp at hc
    | 3, hc, hd => simp at hd
    | 4, hc, hd => simp at hc
    | 5, hc, hd => simp at hc
    | 6, hc, hd => simp at hc
    | n + 7, hc, hd => simp at hc
theorem RItems.ne {F : Nat → Prop} {w : World} {v : Value} {L : List It} {g : Nat} (h : RItems F w v L) (hg : NoIt w g) : RItems (fun k => F k ∧ k ≠ g) w v L := by
  obtain ⟨a, cap, e, h1, h2, h3, h4⟩ := h
  refine ⟨a, cap, e, h1, h2, h3, fun i x hx => ?_⟩
  obtain ⟨b, o, cs, e1, hF, hl, hat, hR⟩ := h4 i x hx
  refine ⟨b, o, cs, e1, ⟨hF, fun hb => ?_⟩, hl, hat, hR⟩
  subst hb
  have hR' : cs = [.int .u8 x.c.toNat, .int .i64 x.m, str x.l] := hR
  subst hR'
  exact hg.i _ _ (hat 0 _ rfl)
theorem ROp.ne {F : Nat → Prop} {w : World} {v : Value} {L : List Pt} {g : Nat} (h : ROp F w v L) (hg : NoIt w g) : ROp (fun k => F k ∧ k ≠ g) w v L := by
  obtain ⟨a, cap, e, h1, h2, h3, h4⟩ := h
  refine ⟨a, cap, e, h1, h2, h3, fun i x hx => ?_⟩
  obtain ⟨b, o, cs, e1, hF, hl, hat, sv, hR, hI⟩ := h4 i x hx
  refine ⟨b, o, cs, e1, ⟨hF, fun hb => ?_⟩, hl, hat, sv, hR, RItems.ne hI hg⟩
  subst hb
  subst hR
  exact hg.p _ _ _ (hat 0 _ rfl) (hat 1 _ rfl)
theorem NoIt.of3 {w : World} {g e : Nat} {fr : Nat × Nat} {a l n : Value} (ha : ∃ x y z, a = .slice x y z) (hl : ∃ x y z, l = .slice x y z) (hn : ∃ x y z, n = .slice x y z) (h : w.heap[g]? = some (.cells #[a, l, n] e fr)) : NoIt w g := by
  obtain ⟨b1, b2, b3, rfl⟩ := ha
  obtain ⟨n1, n2, n3, rfl⟩ := hl
  obtain ⟨s1, s2, s3, rfl⟩ := hn
  constructor
  · intro o m hc
    unfold World.cell? at hc
    rw [h] at hc
    match o, hc with
    | 0, hc => simp at hc
    | 1, hc => simp at hc
    | 2, hc => simp at hc
    | n + 3, hc => simp at hc
  · intro o m m' hc hd
    unfold World.cell? at hc hd
    rw [h] at hc hd
    match o, hc, hd with
    | 0, hc, hd => simp at hd
    | 1, hc, hd => simp at hc
    | 2, hc, hd => simp at hc
    | n + 3, hc, hd => simp at hc
theorem REn.ne {F : Nat → Prop} {w : World} {cs : List Value} {x : En} {g : Nat} (h : REn F w cs x) (hg : NoIt w g) : REn (fun k => F k ∧ k ≠ g) w cs x := by
  obtain ⟨ov, e, r⟩ := h
  exact ⟨ov, e, ROp.ne r hg⟩
end Go.Mh
namespace Go.Proofs.YtckdlhgeelhnmaaGreat
open Go.RowKit Go.Mh

set_option maxRecDepth 100000 in
set_option maxHeartbeats 2000000 in
theorem puts_any (c : UInt8) (k n : Int) (hn : IntKind.i64.wrap (n - k) = n - k) (w : World) :
    Calls Tryz.prog 50 #[.int .u8 c.toNat, .int .i64 k, .int .i64 n] w fun e w' => ∃ r, e = .returned r ∧ ROp (w.heap.size ≤ ·) w' r (putsP c k n) ∧ Below w.heap.size w w' := by
  go_enter Tryz.func50, Tryz.ntmps50
  go_wp2
  go_ret
  refine ⟨_, rfl, ?_, (bal (brf w) _).alloc (by simp) _⟩
  have hg := heap_new (w.alloc (.cells #[.int .u8 c.toNat, .int .i64 0, .string ⟨#[]⟩] 50)) (.cells #[.int .i64 1, .int .i64 k, .slice none 0 0, .int .i64 0, .int .i64 0, .bool false, .string ⟨#[]⟩, .int .i64 2, .int .i64 0, .slice (some ⟨w.heap.size, 0, none⟩) 1 1, .int .i64 0, .int .i64 0, .bool false, .string ⟨#[]⟩, .int .i64 1, .int .i64 (n - k), .slice none 0 0, .int .i64 0, .int .i64 0, .bool false, .string ⟨#[]⟩] 112)
  have hz : (w.alloc (.cells #[.int .u8 c.toNat, .int .i64 0, .string ⟨#[]⟩] 50)).heap.size = w.heap.size + 1 := by simp
  rw [hz] at hg
  refine ROp.lit hg rfl (by decide) (by decide) (Nat.le_succ _) (fun i x hi => ?_)
  match i, hi with
  | 0, hi => simp [putsP] at hi; subst hi; exact ⟨_, RdS.nil, rfl, rfl, rfl, rfl, rfl, rfl, rfl⟩
  | 1, hi =>
    simp [putsP] at hi; subst hi
    refine ⟨_, ?_, rfl, rfl, rfl, rfl, rfl, rfl, rfl⟩
    refine RItems.lit (((bal (brf _) _).block _ (by simp)).trans (heap_new w _)) rfl (by decide) (by decide) (Nat.le_refl _) (fun i x hi => ?_)
    match i, hi with
    | 0, hi => simp at hi; subst hi; exact ⟨rfl, rfl, rfl⟩
    | n + 1, hi => simp at hi
  | 2, hi => simp [putsP] at hi; subst hi; exact ⟨_, RdS.nil, rfl, rfl, rfl, rfl, rfl, rfl, rfl⟩
  | n + 3, hi => simp [putsP] at hi

end Go.Proofs.YtckdlhgeelhnmaaGreat
