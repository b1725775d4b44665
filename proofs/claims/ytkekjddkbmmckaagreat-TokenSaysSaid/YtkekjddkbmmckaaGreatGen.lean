/- strings.NewReplacer's generic replacer, of the four ways to write a character. -/
import Derived.Test.YtkekjddkbmmckaaGreatTrieC
import Derived.Deep.MidRow
import Derived.Test.YtkekjddkbmmckaaGreatTwo
namespace Go.Mh
open Go.RowKit
/-- The replacer's block: its root's table, the size of a table, the bytes' numbers. -/
def gcells (t : Value) (ts : Int) (f : Nat → Nat) : Array Value := #[str [], .int .i64 0, str [], .pointer none, t, .int .i64 ts] ++ (Array.range 256).map fun c => .int .u8 (f c)
theorem gcells_size (t : Value) (ts : Int) (f : Nat → Nat) : (gcells t ts f).size = 262 := by simp [gcells]
theorem gcells_at (t : Value) (ts : Int) (f : Nat → Nat) {c : Nat} (hc : c < 256) : (gcells t ts f)[6 + c]? = some (.int .u8 (f c)) := by
  unfold gcells
  rw [Array.getElem?_append_right (by simp)]
  simp [hc]
theorem gcells_lo (t : Value) (ts : Int) (f : Nat → Nat) {i : Nat} (hi : i < 6) : (gcells t ts f)[i]? = #[str [], .int .i64 0, str [], .pointer none, t, .int .i64 ts][i]? := by
  unfold gcells
  rw [Array.getElem?_append_left (by simpa using hi)]
theorem gcells_set (t : Value) (ts : Int) (f : Nat → Nat) {c : Nat} (hc : c < 256) (v : Nat) : (gcells t ts f).set! (6 + c) (.int .u8 v) = gcells t ts (fun k => if k = c then v else f k) := by
  apply Array.ext_getElem?
  intro i
  rw [Array.set!_eq_setIfInBounds, Array.getElem?_setIfInBounds]
  by_cases hi : i < 6
  · rw [if_neg (by omega), gcells_lo _ _ _ hi, gcells_lo _ _ _ hi]
  · obtain ⟨j, rfl⟩ : ∃ j, i = 6 + j := ⟨i - 6, by omega⟩
    by_cases hj : j < 256
    · rw [gcells_at _ _ _ hj, gcells_at _ _ _ hj]
      by_cases he : j = c
      · subst he; simp [gcells_size]; omega
      · rw [if_neg (by omega), if_neg he]
    · have h1 : (gcells t ts f)[6 + j]? = none := Array.getElem?_eq_none (by rw [gcells_size]; omega)
      have h2 : (gcells t ts (fun k => if k = c then v else f k))[6 + j]? = none := Array.getElem?_eq_none (by rw [gcells_size]; omega)
      rw [if_neg (by omega), h1, h2]
theorem gcells_ts (t : Value) (ts ts' : Int) (f : Nat → Nat) : (gcells t ts f).set! 5 (.int .i64 ts') = gcells t ts' f := by
  unfold gcells
  rw [Array.set!_eq_setIfInBounds, Array.setIfInBounds_append_left (by simp)]
  rfl
theorem gcells_t (t t' : Value) (ts : Int) (f : Nat → Nat) : (gcells t ts f).set! 4 t' = gcells t' ts f := by
  unfold gcells
  rw [Array.set!_eq_setIfInBounds, Array.setIfInBounds_append_left (by simp)]
  rfl
/-- The bytes seen. -/
def mkF (l : Bs) : Nat → Nat := fun c => if l.any (fun x => x.toNat == c) = true then 1 else 0
theorem mkF_snoc (l : Bs) (c : UInt8) : (fun k => if k = c.toNat then 1 else mkF l k) = mkF (l ++ [c]) := by
  funext k
  unfold mkF
  rw [List.any_append]
  by_cases h : k = c.toNat
  · subst h; simp
  · rw [if_neg h]
    have : (c.toNat == k) = false := by simpa using fun e => h e.symm
    simp [this]
def mcells (f : Nat → Nat) : List Value := (List.range 256).map fun c => .int .u8 (f c)
def sumF (f : Nat → Nat) : Nat → Nat
  | 0 => 0
  | k + 1 => sumF f k + f k
theorem sumF_le {f : Nat → Nat} (hf : ∀ c, f c ≤ 1) : ∀ k, sumF f k ≤ k
  | 0 => Nat.le_refl _
  | k + 1 => by have := sumF_le hf k; have := hf k; simp only [sumF]; omega
theorem sumF_mono (f : Nat → Nat) {j k : Nat} (h : j ≤ k) : sumF f j ≤ sumF f k := by
  induction k with
  | zero => obtain rfl : j = 0 := by omega
            exact Nat.le_refl _
  | succ k ih =>
    by_cases e : j = k + 1
    · subst e; exact Nat.le_refl _
    · have := ih (by omega); simp only [sumF]; omega
theorem mkF_le (l : Bs) (c : Nat) : mkF l c ≤ 1 := by unfold mkF; split <;> omega
/-- The numbers, up to a byte. -/
def numF (f : Nat → Nat) (k : Nat) : Nat → Nat := fun c => if c < k then (if f c = 0 then 11 else sumF f c) else f c
theorem numF_zero (f : Nat → Nat) : numF f 0 = f := by funext c; simp [numF]
theorem numF_step (f : Nat → Nat) (k : Nat) : (fun c => if c = k then (if f k = 0 then 11 else sumF f k) else numF f k c) = numF f (k + 1) := by
  funext c
  unfold numF
  by_cases h : c = k
  · subst h; simp
  · rw [if_neg h]
    by_cases h2 : c < k
    · have h3 : c < k + 1 := by omega
      simp [h2, h3]
    · have h3 : ¬ c < k + 1 := by omega
      simp [h2, h3]
def keysR : List Bs := [eAmp, eLt, eGt, eQuot]
def valsR : List Bs := [[38], [60], [62], [34]]
theorem take_flat {q : Nat} {K : Bs} (h : keysR[q]? = some K) : (keysR.take (q + 1)).flatten = (keysR.take q).flatten ++ K := by
  rw [List.take_add_one, h]; simp
def numK : Nat → Nat := numF (mkF (keysR.take 4).flatten) 256
theorem num38 : numF (mkF (keysR.take 4).flatten) 256 38 = 0 ∧ numF (mkF (keysR.take 4).flatten) 256 97 = 2 ∧ numF (mkF (keysR.take 4).flatten) 256 103 = 3 ∧ numF (mkF (keysR.take 4).flatten) 256 108 = 4 ∧ numF (mkF (keysR.take 4).flatten) 256 113 = 8 := by decide +kernel
theorem sum11 : sumF (mkF (keysR.take 4).flatten) 256 = 11 := by decide +kernel
end Go.Mh
namespace Go.Proofs.YtkekjddkbmmckaaGreat
open Go.RowKit Go.Mh

theorem zeroGen : Tryz.zeroCells119 = gcells (.slice none 0 0) 0 (mkF []) := by kernel_rfl

/-- The pairs, as NewReplacer was told them. -/
def Pairs (w : World) (b : Nat) : Prop := ∀ q K V, keysR[q]? = some K → valsR[q]? = some V → w.cell? ⟨b, 2 * q, none⟩ = some (str K) ∧ w.cell? ⟨b, 2 * q + 1, none⟩ = some (str V)
theorem Pairs.of {w w' : World} {b : Nat} (h : Pairs w b) (e : w'.heap[b]? = w.heap[b]?) : Pairs w' b := fun q K V h1 h2 => ⟨(cell_eq e).trans (h q K V h1 h2).1, (cell_eq e).trans (h q K V h1 h2).2⟩
/-- The replacer's block. -/
def GenAt (w : World) (gr : Nat) (t : Value) (ts : Int) (f : Nat → Nat) : Prop := w.heap[gr]? = some (.cells (gcells t ts f) 119 (0, 0))
theorem GenAt.set {w : World} {gr : Nat} {t : Value} {ts : Int} {f : Nat → Nat} (h : GenAt w gr t ts f) {c : Nat} (hc : c < 256) (v : Nat) : GenAt (w.setCell ⟨gr, 6 + c, none⟩ (.int .u8 v)) gr t ts (fun k => if k = c then v else f k) := by
  have := heap_set (i := 6 + c) (.int .u8 v) h
  rw [gcells_set _ _ _ hc] at this
  exact this
theorem GenAt.cell {w : World} {gr : Nat} {t : Value} {ts : Int} {f : Nat → Nat} (h : GenAt w gr t ts f) {c : Nat} (hc : c < 256) : w.cell? ⟨gr, 6 + c, none⟩ = some (.int .u8 (f c)) := cellAt' h (gcells_at _ _ _ hc)
theorem GenAt.lo {w : World} {gr : Nat} {t : Value} {ts : Int} {f : Nat → Nat} (h : GenAt w gr t ts f) {i : Nat} {v : Value} (hi : i < 6) (e : #[str [], .int .i64 0, str [], .pointer none, t, .int .i64 ts][i]? = some v) : w.cell? ⟨gr, i, none⟩ = some v := cellAt' h ((gcells_lo _ _ _ hi).trans e)

theorem GenAt.range {w : World} {gr : Nat} {t : Value} {ts : Int} {f : Nat → Nat} (h : GenAt w gr t ts f) : w.rangeAt gr 6 (mcells f) := fun j v hj => by
  unfold mcells at hj
  rw [List.getElem?_map] at hj
  by_cases hl : j < 256
  · rw [List.getElem?_range hl] at hj
    simp at hj
    rw [← hj]
    exact h.cell hl
  · rw [List.getElem?_eq_none (by simpa using hl)] at hj
    simp at hj
theorem idxM (f : Nat → Nat) (k : Nat) (hk : k < 256) (w : World) : (Instr.index 100 (.agg (mcells f).toArray) (.int .i64 k)).run Tryz.prog w = .ok (.int .u8 (f k)) w := by
  have h1 : (mcells f)[k]? = some (.int .u8 (f k)) := by
    unfold mcells; simp [hk]
  have h2 : ((k : Nat) : Int) < 256 := by omega
  simp [Instr.index, run_underlying Tryz.underlying100, asIntOf, go_sem, hk]
  rw [h1]
  rfl

theorem GenAt.root {w : World} {gr T0 : Nat} (h : GenAt w gr (tab T0) 11 numK) : RootAt w gr T0 := by
  obtain ⟨n1, n2, n3, n4, n5⟩ := num38
  exact ⟨h.lo (i := 1) (by decide) rfl, h.lo (i := 2) (by decide) rfl, h.lo (i := 4) (by decide) rfl, h.lo (i := 5) (by decide) rfl,
    (h.cell (c := 38) (by decide)).trans (by unfold numK; rw [n1]), (h.cell (c := 97) (by decide)).trans (by unfold numK; rw [n2]), (h.cell (c := 103) (by decide)).trans (by unfold numK; rw [n3]), (h.cell (c := 108) (by decide)).trans (by unfold numK; rw [n4]), (h.cell (c := 113) (by decide)).trans (by unfold numK; rw [n5])⟩
theorem addQ_any {B gr T0 q : Nat} {w : World} {K V : Bs} (hr : RootAt w gr T0) (hB : B ≤ w.heap.size) (h : TrieAt w B T0 q) (hgB : gr < B) (hgr : gr ≠ T0) (hK : keysR[q]? = some K) (hV : valsR[q]? = some V) :
    Calls Tryz.prog 67 #[ptr gr, str K, str V, .int .i64 (8 - (2 * q : Nat) : Int), ptr gr] w fun e w' => e = .returned (.tuple #[]) ∧ TrieAt w' B T0 (q + 1) ∧ Kept B gr w w' := by
  match q, h, hK, hV with
  | 0, h, hK, hV => cases hK; cases hV; exact add0 hr hB h hgr
  | 1, h, hK, hV => cases hK; cases hV; exact add1 hr hB h hgB
  | 2, h, hK, hV => cases hK; cases hV; exact add2 hr hB h hgB
  | 3, h, hK, hV => cases hK; cases hV; exact add3 hr hB h hgB
  | n + 4, h, hK, hV => simp [keysR] at hK

set_option maxRecDepth 1000000 in
set_option maxHeartbeats 8000000 in
theorem makeGen_any (b cap : Nat) (w : World) (hb : b < w.heap.size) (hp : Pairs w b) :
    Calls Tryz.prog 61 #[.slice (some ⟨b, 0, none⟩) 8 cap] w fun e w' => ∃ gr T0, e = .returned (ptr gr) ∧ w.heap.size ≤ gr ∧ GenAt w' gr (tab T0) 11 numK ∧ TrieAt w' (gr + 1) T0 4 ∧ Below w.heap.size w w' := by
  have hP := Lib.hid hp
  clear hp
  go_enter Tryz.func61, Tryz.ntmps61
  go_wp2
  go_loopw [4] (fun iv wr => ∃ q n : Nat, q ≤ 4 ∧ Hid (n = 2 * q) ∧ iv = .int .i64 n ∧ GenAt wr w.heap.size (.slice none 0 0) 0 (mkF (keysR.take q).flatten) ∧ Below w.heap.size w wr) (fun iv _ => 8 - (intOf iv).toNat)
  case atStart => exact ⟨0, 0, Nat.zero_le _, Lib.hid rfl, rfl, by rw [zeroGen]; exact heap_new _ _, bal (brf w) _⟩
  case round =>
    obtain ⟨q, n, hq, hn, rfl, hg, hbl⟩ := hrel
    by_cases hq4 : q < 4
    · obtain ⟨K, hK⟩ : ∃ K, keysR[q]? = some K := ⟨_, List.getElem?_eq_getElem (by simpa [keysR] using hq4)⟩
      obtain ⟨V, hV⟩ : ∃ V, valsR[q]? = some V := ⟨_, List.getElem?_eq_getElem (by simpa [valsR] using hq4)⟩
      have hk := ((hP.out.of (hbl.block b hb)) q K V hK hV).1
      rw [← hn.out] at hk
      have hnx := Lib.hid (take_flat hK)
      have hKl : K.length ≤ 6 := by
        have : ∀ x ∈ keysR, x.length ≤ 6 := by decide
        exact this K (List.mem_of_getElem? hK)
      have i1 : (n : Int) < 8 := by have := hn.out; omega
      have hG := Lib.hid hg
      clear hg hK hV
      obtain ⟨seen, hseen⟩ : ∃ s, (keysR.take q).flatten = s := ⟨_, rfl⟩
      rw [hseen] at hG hnx
      clear hseen
      go_wp2
      obtain ⟨wo, rfl⟩ : ∃ wo, wo = wr := ⟨_, rfl⟩
      go_loopw [6] (fun jv wx => ∃ j : Nat, j ≤ K.length ∧ jv = .int .i64 j ∧ GenAt wx w.heap.size (.slice none 0 0) 0 (mkF (seen ++ K.take j)) ∧ Below w.heap.size w wx) (fun jv _ => K.length - (intOf jv).toNat)
      case atStart => exact ⟨0, Nat.zero_le _, rfl, by simpa using hG.out, hbl⟩
      case round =>
        obtain ⟨j, hj, rfl, hg, hbx⟩ := hrel
        by_cases hjl : j < K.length
        · obtain ⟨c, hc⟩ : ∃ c, K[j]? = some c := ⟨_, List.getElem?_eq_getElem hjl⟩
          have hget := str_get hc (by exact hjl)
          have hc256 : c.toNat < 256 := c.toNat_lt
          have hci : (c.toNat : Int) < 256 := by omega
          have hx := hg.cell hc256
          have hz := fzAt' (i := 6 + c.toNat) hg
          have hg2 := Lib.hid (hg.set hc256 1)
          have hsn := Lib.hid (show (fun k => if k = c.toNat then 1 else mkF (seen ++ K.take j) k) = mkF (seen ++ K.take (j + 1)) by
            rw [mkF_snoc, List.append_assoc, List.take_add_one, hc]; rfl)
          have hbx2 := Lib.hid (hbx.setCell (p := ⟨w.heap.size, 6 + c.toNat, none⟩) (Nat.le_refl _) (.int .u8 (1 : Nat)))
          clear hc hg
          go_upto_region 9 with fail
          refine wp_region_held (S := fun _ => True) (by kernel_rfl) ?_
          refine wpAnyH_takeD 0 30 (v := ?_) rfl rfl (by kernel_rfl) (by kernel_rfl) (by kernel_rfl) (fun _ _ _ h => h) (Or.inl ⟨by rfl, ?_⟩) trivial ?_
          rotate_left
          · (intro w' hw'; (try dsimp only at hw'); go_simp; try with_reducible rfl)
          simp only [List.set_cons_zero, List.set_cons_succ]
          refine wpAnyH_takeD 1 31 (v := ?_) rfl rfl (by kernel_rfl) (by kernel_rfl) (by kernel_rfl) (fun _ _ _ h => h) (Or.inl ⟨by rfl, ?_⟩) trivial ?_
          rotate_left
          · (intro w' hw'; (try dsimp only at hw'); go_simp; try with_reducible rfl)
          simp only [List.set_cons_zero, List.set_cons_succ]
          refine wpAnyH_takeD 2 32 (v := ?_) rfl rfl (by kernel_rfl) (by kernel_rfl) (by kernel_rfl) (fun _ _ _ h => h) (Or.inl ⟨by rfl, ?_⟩) trivial ?_
          rotate_left
          · (intro w' hw'; (try dsimp only at hw'); go_simp; try with_reducible rfl)
          simp only [List.set_cons_zero, List.set_cons_succ]
          refine wpAnyH_takeD 3 33 (v := ?_) rfl rfl (by kernel_rfl) (by kernel_rfl) (by kernel_rfl) (fun _ _ _ h => h) (Or.inl ⟨by rfl, ?_⟩) trivial ?_
          rotate_left
          · (intro w' hw'; (try dsimp only at hw'); go_simp; try with_reducible rfl)
          simp only [List.set_cons_zero, List.set_cons_succ]
          refine wpAnyH_takeD 4 34 (v := ?_) rfl rfl (by kernel_rfl) (by kernel_rfl) (by kernel_rfl) (fun _ _ _ h => h) (Or.inl ⟨by rfl, ?_⟩) trivial ?_
          rotate_left
          · (intro w' hw'; (try dsimp only at hw'); go_simp; try with_reducible rfl)
          simp only [List.set_cons_zero, List.set_cons_succ]
          refine wpAnyH_takeD 5 35 (v := ?_) rfl rfl (by kernel_rfl) (by kernel_rfl) (by kernel_rfl) (fun _ _ _ h => h) (Or.inl ⟨by rfl, ?_⟩) trivial ?_
          rotate_left
          · (intro w' hw'; (try dsimp only at hw'); go_simp; try with_reducible rfl)
          simp only [List.set_cons_zero, List.set_cons_succ]
          refine wpAnyH_takeD 6 36 (v := ?_) rfl rfl (by kernel_rfl) (by kernel_rfl) (by kernel_rfl) (fun _ _ _ h => h) (Or.inl ⟨by rfl, ?_⟩) trivial ?_
          rotate_left
          · (intro w' hw'; (try dsimp only at hw'); go_simp; try with_reducible rfl)
          simp only [List.set_cons_zero, List.set_cons_succ]
          refine wpAnyH_step 7 rfl (by kernel_rfl) (fun K' hK' => ?_)
          rw [if_pos (by rfl)]
          go_simp
          refine hK'.out _ _ trivial ?_
          clear hK' K'
          refine wpAnyH_done (by kernel_rfl) ?_ _
          go_wp2
          go_roundw
          case rel => exact ⟨j + 1, by omega, by go_num, by rw [← hsn.out]; exact hg2.out, hbx2.out.drew⟩
          case measure => simp [intOf]; omega
        · obtain rfl : j = K.length := by omega
          rw [List.take_length, ← hnx.out] at hg
          go_wp2
          go_roundw
          case rel => exact ⟨q + 1, n + 2, by omega, Lib.hid (by have := hn.out; omega), by go_num, hg, hbx⟩
          case measure => simp [intOf]; omega
    · obtain rfl : q = 4 := by omega
      obtain rfl : n = 8 := hn.out
      obtain ⟨f, hf⟩ : ∃ f, mkF (keysR.take 4).flatten = f := ⟨_, rfl⟩
      have hF := Lib.hid hf
      have hf1 := fun c => (by rw [← hf]; exact mkF_le _ c : f c ≤ 1)
      rw [hf] at hg
      clear hf
      have hR := hg.range
      obtain ⟨MA, hMA⟩ : ∃ MA, (mcells f).toArray = MA := ⟨_, rfl⟩
      have hI := fun (k : Nat) (hk : k < 256) (w' : World) => (by rw [← hMA]; exact idxM f k hk w' : (Instr.index 100 (.agg MA) (.int .i64 k)).run Tryz.prog w' = .ok (.int .u8 (f k)) w')
      go_wp2_with (refine wpList_load_mid rfl 100 (.tmp 39) rfl w.heap.size 6 rfl (mcells f) _ hR Tryz.underlying100 rfl (by kernel_rfl) ?_; rw [hMA])
      have hMAh := Lib.hid hMA
      clear hR hMA
      have hE := Lib.hid hI
      clear hI
      obtain ⟨wo, rfl⟩ : ∃ wo, wo = wr := ⟨_, rfl⟩
      go_loopw [41] (fun kv wx => ∃ k : Nat, k ≤ 256 ∧ kv = .int .i64 k ∧ GenAt wx w.heap.size (.slice none 0 0) (sumF f k : Nat) f ∧ Below w.heap.size w wx) (fun kv _ => 256 - (intOf kv).toNat)
      case atStart => exact ⟨0, Nat.zero_le _, rfl, hg, hbl⟩
      case round =>
        clear hg hbl
        obtain ⟨k, hk, rfl, hg, hbl⟩ := hrel
        by_cases hk2 : k < 256
        · have hi := hE.out k hk2
          have hk3 : (k : Int) < 256 := by omega
          have hc := hg.lo (i := 5) (v := .int .i64 (sumF f k : Nat)) (by decide) rfl
          have hz := fzAt' (i := 5) hg
          have hs := sumF_le hf1 k
          have hfk := hf1 k
          have hw1 : IntKind.i64.wrap (f k : Int) = (f k : Int) := IntWalk.i64_in _ (by omega)
          have hw2 : IntKind.i64.wrap ((sumF f k : Nat) + (f k : Int)) = ((sumF f (k + 1) : Nat) : Int) := by rw [IntWalk.i64_in _ (by omega)]; simp [sumF]
          have hg2 : Hid (GenAt (wr.setCell ⟨w.heap.size, 5, none⟩ (.int .i64 (sumF f (k + 1) : Nat))) w.heap.size (.slice none 0 0) (sumF f (k + 1) : Nat) f) := Lib.hid (by
            have := heap_set (i := 5) (.int .i64 (sumF f (k + 1) : Nat)) hg
            rw [gcells_ts] at this
            exact this)
          have hb2 := Lib.hid (hbl.setCell (p := ⟨w.heap.size, 5, none⟩) (Nat.le_refl _) (.int .i64 (sumF f (k + 1) : Nat)))
          clear hg
          go_wp2
          go_roundw
          case rel => exact ⟨k + 1, by omega, by go_num, hg2.out, hb2.out⟩
          case measure => simp [intOf]; omega
        · obtain rfl : k = 256 := by omega
          have h11 : sumF f 256 = 11 := by rw [← hF.out]; exact sum11
          rw [h11] at hg
          have hR := hg.range
          have hMA' := hMAh.out
          go_wp2_with (refine wpList_load_mid rfl 100 (.tmp 56) rfl w.heap.size 6 rfl (mcells f) _ hR Tryz.underlying100 rfl (by kernel_rfl) ?_; rw [hMA'])
          clear hR hMA'
          obtain ⟨wo2, rfl⟩ : ∃ wo, wo = wr := ⟨_, rfl⟩
          go_loopw [9, 58] (fun nv kv wx => ∃ k : Nat, k ≤ 256 ∧ nv = .int .u8 (sumF f k : Nat) ∧ kv = .int .i64 k ∧ GenAt wx w.heap.size (.slice none 0 0) 11 (numF f k) ∧ Below w.heap.size w wx) (fun _ kv _ => 256 - (intOf kv).toNat)
          case atStart => exact ⟨0, Nat.zero_le _, rfl, rfl, by rw [numF_zero]; exact hg, hbl⟩
          case round =>
            clear hg hbl
            obtain ⟨k, hk, rfl, rfl, hg, hbl⟩ := hrel
            by_cases hk2 : k < 256
            · have hi := hE.out k hk2
              have hk3 : (k : Int) < 256 := by omega
              have hc5 := hg.lo (i := 5) (v := .int .i64 11) (by decide) rfl
              have hc := hg.cell hk2
              have hz := fzAt' (i := 6 + k) hg
              have hs := sumF_le hf1 k
              have h255 : sumF f (k + 1) ≤ 11 := by rw [← h11]; exact sumF_mono f (by omega)
              have hst := numF_step f k
              by_cases hfk : f k = 0
              · have hfk' : ((f k : Int) == 0) = true := by simp [hfk]
                rw [if_pos hfk] at hst
                have hg2 := Lib.hid (hg.set hk2 11)
                rw [hst] at hg2
                have hb2 := Lib.hid (hbl.setCell (p := ⟨w.heap.size, 6 + k, none⟩) (Nat.le_refl _) (.int .u8 (11 : Nat)))
                have hsm : Hid (sumF f (k + 1) = sumF f k) := Lib.hid (by simp [sumF, hfk])
                clear hg hst hfk
                go_upto_region 20 with fail
                refine wp_region_held (S := fun w' => w'.cell? ⟨w.heap.size, 5, none⟩ = some (.int .i64 11)) (by kernel_rfl) ?_
                refine wpAnyH_takeD 0 64 (v := ?_) rfl rfl (by kernel_rfl) (by kernel_rfl) (by kernel_rfl) (fun _ _ _ h => h) (Or.inl ⟨by rfl, ?_⟩) hc5 ?_
                rotate_left
                · (intro w' hw'; (try dsimp only at hw'); go_simp; try with_reducible rfl)
                simp only [List.set_cons_zero, List.set_cons_succ]
                refine wpAnyH_takeD 1 65 (v := ?_) rfl rfl (by kernel_rfl) (by kernel_rfl) (by kernel_rfl) (fun _ _ _ h => h) (Or.inl ⟨by rfl, ?_⟩) hc5 ?_
                rotate_left
                · (intro w' hw'; (try dsimp only at hw'); go_simp; try with_reducible rfl)
                simp only [List.set_cons_zero, List.set_cons_succ]
                refine wpAnyH_takeD 2 66 (v := ?_) rfl rfl (by kernel_rfl) (by kernel_rfl) (by kernel_rfl) (fun _ _ _ h => h) (Or.inl ⟨by rfl, ?_⟩) hc5 ?_
                rotate_left
                · (intro w' hw'; (try dsimp only at hw'); go_simp; try with_reducible rfl)
                simp only [List.set_cons_zero, List.set_cons_succ]
                refine wpAnyH_takeD 3 67 (v := ?_) rfl rfl (by kernel_rfl) (by kernel_rfl) (by kernel_rfl) (fun _ _ _ h => h) (Or.inl ⟨by rfl, ?_⟩) hc5 ?_
                rotate_left
                · (intro w' hw'; (try dsimp only at hw'); go_simp; try with_reducible rfl)
                simp only [List.set_cons_zero, List.set_cons_succ]
                refine wpAnyH_takeD 4 68 (v := ?_) rfl rfl (by kernel_rfl) (by kernel_rfl) (by kernel_rfl) (fun _ _ _ h => h) (Or.inl ⟨by rfl, ?_⟩) hc5 ?_
                rotate_left
                · (intro w' hw'; (try dsimp only at hw'); go_simp; try with_reducible rfl)
                simp only [List.set_cons_zero, List.set_cons_succ]
                refine wpAnyH_takeD 5 69 (v := ?_) rfl rfl (by kernel_rfl) (by kernel_rfl) (by kernel_rfl) (fun _ _ _ h => h) (Or.inl ⟨by rfl, ?_⟩) hc5 ?_
                rotate_left
                · (intro w' hw'; (try dsimp only at hw'); go_simp; try with_reducible rfl)
                simp only [List.set_cons_zero, List.set_cons_succ]
                refine wpAnyH_takeD 6 70 (v := ?_) rfl rfl (by kernel_rfl) (by kernel_rfl) (by kernel_rfl) (fun _ _ _ h => h) (Or.inl ⟨by rfl, ?_⟩) hc5 ?_
                rotate_left
                · (intro w' hw'; (try dsimp only at hw'); go_simp; try with_reducible rfl)
                simp only [List.set_cons_zero, List.set_cons_succ]
                refine wpAnyH_takeD 7 71 (v := ?_) rfl rfl (by kernel_rfl) (by kernel_rfl) (by kernel_rfl) (fun _ _ _ h => h) (Or.inl ⟨by rfl, ?_⟩) hc5 ?_
                rotate_left
                · (intro w' hw'; (try dsimp only at hw'); go_simp; try with_reducible rfl)
                simp only [List.set_cons_zero, List.set_cons_succ]
                refine wpAnyH_takeD 8 72 (v := ?_) rfl rfl (by kernel_rfl) (by kernel_rfl) (by kernel_rfl) (fun _ _ _ h => h) (Or.inl ⟨by rfl, ?_⟩) hc5 ?_
                rotate_left
                · (intro w' hw'; (try dsimp only at hw'); go_simp; try with_reducible rfl)
                simp only [List.set_cons_zero, List.set_cons_succ]
                refine wpAnyH_takeD 9 73 (v := ?_) rfl rfl (by kernel_rfl) (by kernel_rfl) (by kernel_rfl) (fun _ _ _ h => h) (Or.inl ⟨by rfl, ?_⟩) hc5 ?_
                rotate_left
                · (intro w' hw'; (try dsimp only at hw'); go_simp; try with_reducible rfl)
                simp only [List.set_cons_zero, List.set_cons_succ]
                refine wpAnyH_step 10 rfl (by kernel_rfl) (fun K' hK' => ?_)
                rw [if_pos (by rfl)]
                go_simp
                refine hK'.out _ _ ((hg2.out.lo (i := 5) (v := .int .i64 11) (by decide) rfl)) ?_
                clear hK' K'
                refine wpAnyH_done (by kernel_rfl) ?_ _
                go_wp2
                go_roundw
                case rel => exact ⟨k + 1, by omega, by rw [hsm.out], by go_num, hg2.out, hb2.out.drew⟩
                case measure => simp [intOf]; omega
              · have hfk1 : f k = 1 := by have := hf1 k; omega
                have hfk' : ((f k : Int) == 0) = false := by simp [hfk1]
                rw [if_neg hfk] at hst
                have hg2 := Lib.hid (hg.set hk2 (sumF f k))
                rw [hst] at hg2
                have hb2 := Lib.hid (hbl.setCell (p := ⟨w.heap.size, 6 + k, none⟩) (Nat.le_refl _) (.int .u8 (sumF f k : Nat)))
                have hw1 : IntKind.u8.wrap ((sumF f k : Nat) + 1) = ((sumF f (k + 1) : Nat) : Int) := by
                  have e : sumF f (k + 1) = sumF f k + 1 := by simp [sumF, hfk1]
                  rw [e] at h255 ⊢
                  unfold IntKind.wrap; simp [IntKind.bits, IntKind.signed]; omega
                clear hg hst hfk hfk1
                go_wp2
                go_roundw
                case rel => exact ⟨k + 1, by omega, rfl, by go_num, hg2.out, hb2.out⟩
                case measure => simp [intOf]; omega
            · have hnk : ¬ (k : Int) < 256 := by omega
              have hk6 : k = 256 := by omega
              rw [hk6, ← hF.out] at hg
              clear hk6 hk hk2
              replace hg : GenAt wr w.heap.size (.slice none 0 0) 11 numK := hg
              have hc5 := hg.lo (i := 5) (v := .int .i64 11) (by decide) rfl
              have hgl := lt_of_heap hg
              have h4a : ∀ o, (wr.alloc o).cell? ⟨w.heap.size, 4, none⟩ = some (.slice none 0 0) := fun o => by rw [World.cell?_alloc_past _ _ _ hgl]; exact hg.lo (i := 4) (by decide) rfl
              have z4a : ∀ o, (wr.alloc o).frozen? ⟨w.heap.size, 4, none⟩ = false := fun o => by rw [World.frozen?_alloc_past _ _ _ hgl]; exact fzAt' hg
              have hmk := mk11
              have hG := Lib.hid hg
              clear h11 hE hF hMAh hg
              go_upto_region 26 with fail
              refine name_world ?_
              intro w5 hw5
              have hb5 : Below w.heap.size w w5 := by
                rw [← hw5]
                exact bal (hbl.setCell (p := ⟨w.heap.size, 4, none⟩) (Nat.le_refl _) _) _
              have hg5 : GenAt w5 w.heap.size (tab wr.heap.size) 11 numK := by
                rw [← hw5]
                refine ((bal (brf _) _).block w.heap.size (by simpa using hgl)).trans ?_
                have := heap_set (i := 4) (tab wr.heap.size) hG.out
                rw [gcells_t] at this
                exact this
              have ht5 : TrieAt w5 (w.heap.size + 1) wr.heap.size 0 := by
                rw [← hw5]
                exact ⟨heap_at (by simp), hgl⟩
              have hgT : w.heap.size ≠ wr.heap.size := by omega
              generalize wr.heap.size = T0 at hg5 ht5 hgT ⊢
              clear hw5 hc5 hgl h4a z4a hmk hG hbl
              obtain ⟨wo3, rfl⟩ : ∃ wo, wo = w5 := ⟨_, rfl⟩
              go_loopw [12] (fun iv wx => ∃ q n : Nat, q ≤ 4 ∧ Hid (n = 2 * q) ∧ iv = .int .i64 n ∧ GenAt wx w.heap.size (tab T0) 11 numK ∧ TrieAt wx (w.heap.size + 1) T0 q ∧ Below w.heap.size w wx) (fun iv _ => 8 - (intOf iv).toNat)
              case atStart => exact ⟨0, 0, Nat.zero_le _, Lib.hid rfl, rfl, hg5, ht5, hb5⟩
              case round =>
                clear hg5 ht5 hb5
                obtain ⟨q, n, hq, hn, rfl, hg, ht, hbl⟩ := hrel
                by_cases hq4 : q < 4
                · obtain ⟨K, hK⟩ : ∃ K, keysR[q]? = some K := ⟨_, List.getElem?_eq_getElem (by simpa [keysR] using hq4)⟩
                  obtain ⟨V, hV⟩ : ∃ V, valsR[q]? = some V := ⟨_, List.getElem?_eq_getElem (by simpa [valsR] using hq4)⟩
                  obtain ⟨hk, hv⟩ := (hP.out.of (hbl.block b hb)) q K V hK hV
                  rw [← hn.out] at hk hv
                  have i1 : (n : Int) < 8 := by have := hn.out; omega
                  have i2 : (n : Int) + 1 < 8 := by have := hn.out; omega
                  have i3 : (0 : Int) ≤ (n : Int) + 1 := by omega
                  have hw1 : IntKind.i64.wrap ((n : Int) + 1) = (n : Int) + 1 := IntWalk.i64_in _ (by omega)
                  have hw3 : IntKind.i64.wrap (8 - (n : Int)) = 8 - (n : Int) := IntWalk.i64_in _ (by omega)
                  have hbs := hbl.size
                  have hgl := lt_of_heap hg
                  have C := Lib.hid (addQ_any (B := w.heap.size + 1) (w := wr.drew) (hg.root.keep rfl) (by show w.heap.size + 1 ≤ wr.heap.size; omega) ht (by omega) hgT hK hV)
                  rw [← hn.out] at C
                  have hG := Lib.hid hg
                  clear hK hV hg ht
                  go_upto_region 28 with fail
                  refine wp_region_held (S := fun w' => w'.cell? ⟨b, n, none⟩ = some (str K) ∧ w'.cell? ⟨b, n + 1, none⟩ = some (str V)) (by kernel_rfl) ?_
                  refine wpAnyH_takeD 0 98 (v := ?_) rfl rfl (by kernel_rfl) (by kernel_rfl) (by kernel_rfl) (fun _ _ _ h => h) (Or.inl ⟨by rfl, ?_⟩) ⟨hk, hv⟩ ?_
                  rotate_left
                  · (intro w' hw'; (try dsimp only at hw'); go_simp; try with_reducible rfl)
                  simp only [List.set_cons_zero, List.set_cons_succ]
                  refine wpAnyH_takeD 1 99 (v := ?_) rfl rfl (by kernel_rfl) (by kernel_rfl) (by kernel_rfl) (fun _ _ _ h => h) (Or.inl ⟨by rfl, ?_⟩) ⟨hk, hv⟩ ?_
                  rotate_left
                  · (intro w' hw'; (try dsimp only at hw'); go_simp; try with_reducible rfl)
                  simp only [List.set_cons_zero, List.set_cons_succ]
                  refine wpAnyH_takeD 2 100 (v := ?_) rfl rfl (by kernel_rfl) (by kernel_rfl) (by kernel_rfl) (fun _ _ _ h => h) (Or.inl ⟨by rfl, ?_⟩) ⟨hk, hv⟩ ?_
                  rotate_left
                  · (intro w' hw'; (try dsimp only at hw'); go_simp; try with_reducible rfl)
                  simp only [List.set_cons_zero, List.set_cons_succ]
                  refine wpAnyH_takeD 3 101 (v := ?_) rfl rfl (by kernel_rfl) (by kernel_rfl) (by kernel_rfl) (fun _ _ _ h => h) (Or.inl ⟨by rfl, ?_⟩) ⟨hk, hv⟩ ?_
                  rotate_left
                  · (intro w' hw'; (try dsimp only at hw'); go_simp; try with_reducible rfl)
                  simp only [List.set_cons_zero, List.set_cons_succ]
                  refine wpAnyH_takeD 4 102 (v := ?_) rfl rfl (by kernel_rfl) (by kernel_rfl) (by kernel_rfl) (fun _ _ _ h => h) (Or.inl ⟨by rfl, ?_⟩) ⟨hk, hv⟩ ?_
                  rotate_left
                  · (intro w' hw'; (try dsimp only at hw'); go_simp; try with_reducible rfl)
                  simp only [List.set_cons_zero, List.set_cons_succ]
                  refine wpAnyH_takeD 5 103 (v := ?_) rfl rfl (by kernel_rfl) (by kernel_rfl) (by kernel_rfl) (fun _ _ _ h => h) (Or.inl ⟨by rfl, ?_⟩) ⟨hk, hv⟩ ?_
                  rotate_left
                  · (intro w' hw'; (try dsimp only at hw'); go_simp; try with_reducible rfl)
                  simp only [List.set_cons_zero, List.set_cons_succ]
                  refine wpAnyH_takeD 6 104 (v := ?_) rfl rfl (by kernel_rfl) (by kernel_rfl) (by kernel_rfl) (fun _ _ _ h => h) (Or.inl ⟨by rfl, ?_⟩) ⟨hk, hv⟩ ?_
                  rotate_left
                  · (intro w' hw'; (try dsimp only at hw'); go_simp; try with_reducible rfl)
                  simp only [List.set_cons_zero, List.set_cons_succ]
                  refine wpAnyH_takeD 7 105 (v := ?_) rfl rfl (by kernel_rfl) (by kernel_rfl) (by kernel_rfl) (fun _ _ _ h => h) (Or.inl ⟨by rfl, ?_⟩) ⟨hk, hv⟩ ?_
                  rotate_left
                  · (intro w' hw'; (try dsimp only at hw'); go_simp; try with_reducible rfl)
                  simp only [List.set_cons_zero, List.set_cons_succ]
                  refine wpAnyH_takeD 8 106 (v := ?_) rfl rfl (by kernel_rfl) (by kernel_rfl) (by kernel_rfl) (fun _ _ _ h => h) (Or.inl ⟨by rfl, ?_⟩) ⟨hk, hv⟩ ?_
                  rotate_left
                  · (intro w' hw'; (try dsimp only at hw'); go_simp; try with_reducible rfl)
                  simp only [List.set_cons_zero, List.set_cons_succ]
                  refine wpAnyH_takeD 9 107 (v := ?_) rfl rfl (by kernel_rfl) (by kernel_rfl) (by kernel_rfl) (fun _ _ _ h => h) (Or.inl ⟨by rfl, ?_⟩) ⟨hk, hv⟩ ?_
                  rotate_left
                  · (intro w' hw'; (try dsimp only at hw'); go_simp; try with_reducible rfl)
                  simp only [List.set_cons_zero, List.set_cons_succ]
                  refine wpAnyH_takeD 10 108 (v := ?_) rfl rfl (by kernel_rfl) (by kernel_rfl) (by kernel_rfl) (fun _ _ _ h => h) (Or.inl ⟨by rfl, ?_⟩) ⟨hk, hv⟩ ?_
                  rotate_left
                  · (intro w' hw'; (try dsimp only at hw'); go_simp; try with_reducible rfl)
                  simp only [List.set_cons_zero, List.set_cons_succ]
                  refine wpAnyH_takeD 11 109 (v := ?_) rfl rfl (by kernel_rfl) (by kernel_rfl) (by kernel_rfl) (fun _ _ _ h => h) (Or.inl ⟨by rfl, ?_⟩) ⟨hk, hv⟩ ?_
                  rotate_left
                  · (intro w' hw'; (try dsimp only at hw'); go_simp; try with_reducible rfl)
                  simp only [List.set_cons_zero, List.set_cons_succ]
                  refine wpAnyH_takeD 12 110 (v := ?_) rfl rfl (by kernel_rfl) (by kernel_rfl) (by kernel_rfl) (fun _ _ _ h => h) (Or.inl ⟨by rfl, ?_⟩) ⟨hk, hv⟩ ?_
                  rotate_left
                  · (intro w' hw'; (try dsimp only at hw'); go_simp; try with_reducible rfl)
                  simp only [List.set_cons_zero, List.set_cons_succ]
                  refine wpAnyH_takeD 13 111 (v := ?_) rfl rfl (by kernel_rfl) (by kernel_rfl) (by kernel_rfl) (fun _ _ _ h => h) (Or.inl ⟨by rfl, ?_⟩) ⟨hk, hv⟩ ?_
                  rotate_left
                  · (intro w' hw'; (try dsimp only at hw'); go_simp; try with_reducible rfl)
                  simp only [List.set_cons_zero, List.set_cons_succ]
                  refine wpAnyH_takeD 14 112 (v := ?_) rfl rfl (by kernel_rfl) (by kernel_rfl) (by kernel_rfl) (fun _ _ _ h => h) (Or.inl ⟨by rfl, ?_⟩) ⟨hk, hv⟩ ?_
                  rotate_left
                  · (intro w' hw'; (try dsimp only at hw'); go_simp; try with_reducible rfl)
                  simp only [List.set_cons_zero, List.set_cons_succ]
                  refine wpAnyH_takeD 15 113 (v := ?_) rfl rfl (by kernel_rfl) (by kernel_rfl) (by kernel_rfl) (fun _ _ _ h => h) (Or.inl ⟨by rfl, ?_⟩) ⟨hk, hv⟩ ?_
                  rotate_left
                  · (intro w' hw'; (try dsimp only at hw'); go_simp; try with_reducible rfl)
                  simp only [List.set_cons_zero, List.set_cons_succ]
                  refine wpAnyH_takeD 16 114 (v := ?_) rfl rfl (by kernel_rfl) (by kernel_rfl) (by kernel_rfl) (fun _ _ _ h => h) (Or.inl ⟨by rfl, ?_⟩) ⟨hk, hv⟩ ?_
                  rotate_left
                  · (intro w' hw'; (try dsimp only at hw'); go_simp; try with_reducible rfl)
                  simp only [List.set_cons_zero, List.set_cons_succ]
                  refine wpAnyH_step 17 rfl (by kernel_rfl) (fun K' hK' => ?_)
                  rw [if_pos (by rfl)]
                  go_simp
                  go_at_call 67
                  refine C.out.mono ?_
                  rintro e w6 ⟨rfl, ht6, hk6, hb6⟩
                  have Q6 : w6.cell? ⟨b, n, none⟩ = some (str K) ∧ w6.cell? ⟨b, n + 1, none⟩ = some (str V) := ⟨(cell_eq (hb6.block b (by omega))).trans hk, (cell_eq (hb6.block b (by omega))).trans hv⟩
                  go_wp2_with fail
                  refine hK'.out _ _ Q6 ?_
                  clear hK' K'
                  refine wpAnyH_done (by kernel_rfl) ?_ _
                  go_wp2
                  go_roundw
                  case rel => exact ⟨q + 1, n + 2, by omega, Lib.hid (by have := hn.out; omega), by go_num, hk6.trans hG.out, ht6, hbl.trans ((Below.refl _ _).drew.trans (hb6.mono (Nat.le_succ _)))⟩
                  case measure => simp [intOf]; omega
                · obtain rfl : q = 4 := by omega
                  obtain rfl : n = 8 := hn.out
                  have hG := Lib.hid hg
                  have hT := Lib.hid ht
                  clear hg ht
                  go_wp2
                  go_ret
                  exact ⟨w.heap.size, rfl, Nat.le_refl _, T0, hG.out, hT.out, hbl⟩
end Go.Proofs.YtkekjddkbmmckaaGreat
