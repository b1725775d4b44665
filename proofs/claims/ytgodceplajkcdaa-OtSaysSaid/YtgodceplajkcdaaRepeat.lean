/- slices.Repeat at one act. -/
import Derived.Test.YtgodceplajkcdaaCopyN
import Derived.Test.YtgodceplajkcdaaRefU
import Derived.Test.YtgodceplajkcdaaRegT
import Derived.OwnWalk
namespace Go.Mh
open Go.RowKit
theorem rep_len {cs0 : List Value} (h0 : cs0.length = 11) (m : Nat) : ((List.replicate m cs0).flatten).length = m * 11 := by
  induction m with
  | zero => simp
  | succ m ih => simp [List.replicate_succ, ih, h0]; omega
theorem rep_add {cs0 : List Value} (a b : Nat) : (List.replicate (a + b) cs0).flatten = (List.replicate a cs0).flatten ++ (List.replicate b cs0).flatten := by
  rw [← List.flatten_append, List.replicate_append_replicate]
theorem rep_take {cs0 cur : List Value} {k m : Nat} (h0 : cs0.length = 11) (hm : m ≤ k) (ht : cur.take (k * 11) = (List.replicate k cs0).flatten) : cur.take (m * 11) = (List.replicate m cs0).flatten := by
  have e : cur.take (m * 11) = (cur.take (k * 11)).take (m * 11) := by rw [List.take_take, Nat.min_eq_left (by omega)]
  rw [e, ht]
  obtain ⟨d, rfl⟩ : ∃ d, k = m + d := ⟨k - m, by omega⟩
  rw [rep_add, List.take_left' (rep_len h0 m)]
theorem rep_step {cs0 cur : List Value} {n k m : Nat} (h0 : cs0.length = 11) (hs : cur.length = n * 11) (hm : m ≤ k) (hkm : k + m ≤ n) (ht : cur.take (k * 11) = (List.replicate k cs0).flatten) :
    (cur.take (m * 11)).length = m * 11 ∧ (cur.take (k * 11) ++ cur.take (m * 11) ++ cur.drop (k * 11 + (cur.take (m * 11)).length)).length = n * 11 ∧
    (cur.take (k * 11) ++ cur.take (m * 11) ++ cur.drop (k * 11 + (cur.take (m * 11)).length)).take ((k + m) * 11) = (List.replicate (k + m) cs0).flatten := by
  have l1 : (cur.take (m * 11)).length = m * 11 := by rw [List.length_take]; omega
  have l2 : (cur.take (k * 11)).length = k * 11 := by rw [List.length_take]; omega
  refine ⟨l1, by simp only [List.length_append, l1, l2, List.length_drop]; omega, ?_⟩
  rw [List.take_left' (by rw [List.length_append, l1, l2]; omega), ht, rep_take h0 hm ht, rep_add]
theorem rep_mem {cs0 : List Value} {m : Nat} {v : Value} (h : v ∈ (List.replicate m cs0).flatten) : v ∈ cs0 := by
  obtain ⟨l, hl, hv⟩ := List.mem_flatten.1 h
  have := List.eq_of_mem_replicate hl
  subst this
  exact hv
/-- The first k of n places of a block hold the cells cs0. -/
def RepS (T g n : Nat) (cs0 : List Value) (k : Nat) (w : World) : Prop := ∃ cur : Array Value, w.heap[g]? = some (.cells cur T (0, 0)) ∧ cur.size = n * 11 ∧ cur.toList.take (k * 11) = (List.replicate k cs0).flatten
end Go.Mh
namespace Go.Proofs.Ytgodceplajkcdaa
open Go.RowKit Go.Mh
theorem sizeAct : (Try.prog.info? 126).map (·.size) = some 11 := by kernel_rfl
theorem RepS.own {n g B : Nat} {sv : Value} {a : Ac} {w : World} (h : RepS 126 g n (acC sv a) n w) (hE : E0 sv) (hn : n ≤ 100000) (hB : B ≤ g) : OwnA B w (.slice (some ⟨g, 0, none⟩) n n) (List.replicate n a) := by
  obtain ⟨cur, h1, h2, h3⟩ := h
  have h11 := acC_len sv a
  refine ⟨List.replicate n (acC sv a), ⟨by rw [rep_len h11, List.length_replicate], Or.inr ⟨g, n, cur, by simp, hB, h1, by simp, by unfold maxLen; omega, h2, by simpa using h3⟩⟩, by simp, fun i cs x hi hx => ?_⟩
  have e1 := List.eq_of_mem_replicate (List.mem_of_getElem? hi)
  have e2 := List.eq_of_mem_replicate (List.mem_of_getElem? hx)
  subst e1 e2
  exact ⟨h11, ⟨sv, hE, rfl⟩, RAc_one w _ _ ⟨sv, hE, rfl⟩⟩

set_option maxRecDepth 100000 in
set_option maxHeartbeats 4000000 in
theorem repeat_any (F : Nat → Prop) (v : Value) (a : Ac) (n : Nat) (w : World) (h : RActs F w v [a]) (hn : n ≤ 100000) :
    Calls Try.prog 115 #[v, .int .i64 n] w fun e w' => ∃ r, e = .returned r ∧ OwnA w.heap.size w' r (List.replicate n a) ∧ Below w.heap.size w w' := by
  obtain ⟨va, vc, rfl, _⟩ := RdS.len h
  obtain ⟨b0, o0, sv, rfl, hE, hb0, hcell⟩ := RActs.at h (brf w) (k := 0) (x := a) rfl
  have h11 := acC_len sv a
  have hone := Lib.hid (RAc_one w (acC sv a) a ⟨sv, hE, rfl⟩)
  have HC := Lib.hid hcell
  obtain ⟨i0, hi, hz0, hz1, hz2⟩ := info_parts elActs.info
  have hzc := elActs.cells
  clear h hcell
  have hmul1 : ((1 * n / 18446744073709551616 : Nat) : Int) = 0 := by omega
  have hmul2 : ((1 * n % 18446744073709551616 : Nat) : Int) = (n : Int) := by omega
  have C := Lib.hid (Try.bits_Mul 1 n (by omega) (by omega) w)
  rw [hmul1, hmul2] at C
  clear hmul1 hmul2
  have hbig : ¬ ((9223372036854775807 : Int) < (n : Int)) := by omega
  go_enter Try.func115, Try.ntmps115
  go_wp2_with fail
  refine C.out.mono ?_
  rintro e w1 ⟨rfl, rfl⟩
  clear C
  go_wp2_with (at_make; refine wpList_make_full _ rfl (.tmp 29) (.tmp 29) 123 rfl w1.heap.size 126 i0 _ 11 elActs.under hi hz0 hz1 .i64 .i64 n n n rfl rfl rfl rfl (by rw [hz2]; omega) (by unfold maxLen; omega) (Nat.le_refl _) ?_; intro w2 hrow hgrow)
  obtain ⟨hr1, hr2⟩ := hrow
  have hcur : ∃ cur : Array Value, w2.heap[w1.heap.size]? = some (.cells cur 126 (0, 0)) ∧ cur.size = n * 11 := by
    rcases hr2 with ⟨e, _⟩ | ⟨g, cap, cur, e, _, hh, _, _, hs, _⟩
    · simp at e
    · simp at e
      obtain ⟨rfl, rfl⟩ := e
      exact ⟨cur, hh, hs⟩
  obtain ⟨cur0, hh0, hs0⟩ := hcur
  have hB2 : Below w1.heap.size w1 w2 := (brf w1).grown hgrow (Nat.le_refl _) (fun k hk => by simp at hk)
  clear hr1 hr2 hgrow
  obtain ⟨k0, cs, hk0, hcs, hsrc, h1c, hfl, hkn, hk1⟩ : ∃ (k0 : Nat) (cs : List Value), k0 = Nat.min 1 n ∧ cs.length = k0 * 11 ∧ (∀ j u, cs[j]? = some u → w1.cell? ((⟨b0, o0, none⟩ : Addr).add j) = some u) ∧ (∀ u ∈ cs, u.oneCell' = true) ∧ cs = (List.replicate k0 (acC sv a)).flatten ∧ k0 ≤ n ∧ (0 < n → 0 < k0) := by
    by_cases hn0 : n = 0
    · exact ⟨0, [], by subst hn0; rfl, by simp, fun j u hj => by simp at hj, fun u hu => by simp at hu, by simp, by omega, by omega⟩
    · refine ⟨1, acC sv a, ?_, by rw [h11], fun j u hj => ?_, hone.out, by simp, by omega, by omega⟩
      · show 1 = min 1 n
        omega
      · rw [Addr.add_lit]
        have := HC.out j u hj
        simpa using this
  have hsrc2 : ∀ j u, cs[j]? = some u → w2.cell? ((⟨b0, o0, none⟩ : Addr).add j) = some u := fun j u hj => by
    have h := hsrc j u hj
    rw [Addr.add_lit] at h ⊢
    exact (hB2.cell hb0).trans h
  have hst : Hid (RepS 126 w1.heap.size n (acC sv a) k0 (w2.setRow w1.heap.size (cur0.toList.take 0 ++ cs ++ cur0.toList.drop (0 + cs.length)).toArray)) := Lib.hid ⟨_, setRow_heap w2 w1.heap.size cur0 _ _ _ hh0, by simp [hs0, hcs]; have := Nat.mul_le_mul_right 11 hkn; omega, by simp only [List.take_zero, List.nil_append]; rw [← hcs, List.take_left' rfl, hfl]⟩
  have hB3 := below_setRow hB2 (Nat.le_refl _) (cur0.toList.take 0 ++ cs ++ cur0.toList.drop (0 + cs.length)).toArray
  have hfit : 0 + cs.length ≤ cur0.size := by rw [hs0, hcs]; have := Nat.mul_le_mul_right 11 hkn; omega
  have hcp : (Builtin.copy_ #[123, 123] 3 #[.slice (some ⟨w1.heap.size, 0, none⟩) n n, .slice (some ⟨b0, o0, none⟩) 1 vc]).run Try.prog w2 = .ok (.int .i64 k0) (w2.setRow w1.heap.size (cur0.toList.take 0 ++ cs ++ cur0.toList.drop (0 + cs.length)).toArray) :=
    run_copyN (P := Try.prog) w2 123 123 3 126 11 w1.heap.size 0 n n ⟨b0, o0, none⟩ 1 vc cur0 _ cs k0 elActs.under sizeAct hh0 hk0 hcs hsrc2 hfit h1c
  have hz2 : w1.heap.size ≤ w2.heap.size := hB2.size
  generalize (w2.setRow w1.heap.size (cur0.toList.take 0 ++ cs ++ cur0.toList.drop (0 + cs.length)).toArray) = w3 at *
  clear hsrc hsrc2 h1c hfl hcs hfit hh0 hs0 hi hz0 hz1 hzc HC hk0 hB2 hz2
  rw [hcp]
  go_wp2
  generalize hg : w1.heap.size = g at *
  clear hcp
  go_loopw [8] (fun kv ws => ∃ k : Nat, k ≤ n ∧ (0 < n → 0 < k) ∧ kv = .int .i64 k ∧ Hid (RepS 126 g n (acC sv a) k ws) ∧ Below g w1 ws) (fun kv _ => n - (intOf kv).toNat)
  case atStart => exact ⟨k0, hkn, hk1, rfl, hst, hB3⟩
  case round =>
    clear hst hB3 hk1 hkn
    obtain ⟨k, hkn, hk1, rfl, hst, hb⟩ := hrel
    by_cases hlt : k < n
    · have hkp := hk1 (by omega)
      obtain ⟨cur, hc1, hc2, hc3⟩ := hst.out
      obtain ⟨m, hm⟩ : ∃ m, m = Nat.min k (n - k) := ⟨_, rfl⟩
      have hm' : m = min k (n - k) := hm
      have hmk : m ≤ k := by omega
      have hmn : k + m ≤ n := by omega
      have hm0 : 0 < m := by omega
      obtain ⟨s1, s2, s3⟩ := rep_step h11 (by simpa using hc2) hmk hmn hc3
      have h1c : ∀ u ∈ cur.toList.take (m * 11), u.oneCell' = true := fun u hu => by
        rw [rep_take h11 hmk hc3] at hu
        exact hone.out u (rep_mem hu)
      have hsrc : ∀ j u, (cur.toList.take (m * 11))[j]? = some u → wr.drew.cell? ((⟨g, 0, none⟩ : Addr).add j) = some u := fun j u hj => by
        rw [Addr.add_lit, Nat.zero_add]
        have e : wr.drew.heap[g]? = some (.cells cur 126 (0, 0)) := hc1
        unfold World.cell?
        rw [e]
        rw [List.getElem?_take] at hj
        split at hj
        · simpa using hj
        · simp at hj
      have hfit : k * 11 + (cur.toList.take (m * 11)).length ≤ cur.size := by rw [s1, hc2, ← Nat.add_mul]; exact Nat.mul_le_mul_right 11 hmn
      have hst2 : Hid (RepS 126 g n (acC sv a) (k + m) (wr.drew.setRow g (cur.toList.take (k * 11) ++ cur.toList.take (m * 11) ++ cur.toList.drop (k * 11 + (cur.toList.take (m * 11)).length)).toArray)) := Lib.hid ⟨_, setRow_heap wr.drew g cur _ _ _ hc1, by simpa using s2, by simpa using s3⟩
      have hB4 := below_setRow hb.drew (Nat.le_refl _) (cur.toList.take (k * 11) ++ cur.toList.take (m * 11) ++ cur.toList.drop (k * 11 + (cur.toList.take (m * 11)).length)).toArray
      have hnk : ¬ n = k := by omega
      have hcl := Lib.hid hc3
      have hmh := Lib.hid hm
      clear s2 s3 hst hc3 hm hm'
      go_upto_region 9 with fail
      refine wp_region_held (S := fun _ => True) (by kernel_rfl) ?_
      refine wpAnyH_takeD 0 38 (v := ?_) rfl rfl (by kernel_rfl) (by kernel_rfl) (by kernel_rfl) (fun _ _ _ h => h) (Or.inl ⟨by rfl, ?_⟩) trivial ?_
      rotate_left
      · (intro w' hw'; (try dsimp only at hw'); go_simp; try with_reducible rfl)
      simp only [List.set_cons_zero, List.set_cons_succ]
      refine wpAnyH_takeD 1 39 (v := ?_) rfl rfl (by kernel_rfl) (by kernel_rfl) (by kernel_rfl) (fun _ _ _ h => h) (Or.inl ⟨by rfl, ?_⟩) trivial ?_
      rotate_left
      · (intro w' hw'; (try dsimp only at hw'); go_simp; try with_reducible rfl)
      simp only [List.set_cons_zero, List.set_cons_succ]
      refine wpAnyH_takeD 2 40 (v := ?_) rfl rfl (by kernel_rfl) (by kernel_rfl) (by kernel_rfl) (fun _ _ _ h => h) (Or.inl ⟨by rfl, ?_⟩) trivial ?_
      rotate_left
      · (intro w' hw'; (try dsimp only at hw'); go_simp; try with_reducible rfl)
      simp only [List.set_cons_zero, List.set_cons_succ]
      refine wpAnyH_takeD 3 41 (v := ?_) rfl rfl (by kernel_rfl) (by kernel_rfl) (by kernel_rfl) (fun _ _ _ h => h) (Or.inl ⟨by rfl, ?_⟩) trivial ?_
      rotate_left
      · (intro w' hw'; (try dsimp only at hw'); go_simp; try with_reducible rfl)
      simp only [List.set_cons_zero, List.set_cons_succ]
      refine wpAnyH_takeD 4 42 (v := ?_) rfl rfl (by kernel_rfl) (by kernel_rfl) (by kernel_rfl) (fun _ _ _ h => h) (Or.inl ⟨by rfl, ?_⟩) trivial ?_
      rotate_left
      · (intro w' hw'; (try dsimp only at hw'); go_simp; try with_reducible rfl)
      simp only [List.set_cons_zero, List.set_cons_succ]
      refine wpAnyH_takeD 5 43 (v := ?_) rfl rfl (by kernel_rfl) (by kernel_rfl) (by kernel_rfl) (fun _ _ _ h => h) (Or.inl ⟨by rfl, ?_⟩) trivial ?_
      rotate_left
      · (intro w' hw'; (try dsimp only at hw'); go_simp; try with_reducible rfl)
      simp only [List.set_cons_zero, List.set_cons_succ]
      refine wpAnyH_takeD 6 44 (v := ?_) rfl rfl (by kernel_rfl) (by kernel_rfl) (by kernel_rfl) (fun _ _ _ h => h) (Or.inl ⟨by rfl, ?_⟩) trivial ?_
      rotate_left
      · (intro w' hw'; (try dsimp only at hw'); go_simp; try with_reducible rfl)
      simp only [List.set_cons_zero, List.set_cons_succ]
      refine wpAnyH_step 7 rfl (by kernel_rfl) (fun K' hK' => ?_)
      refine step_copyN rfl (.tmp 41) (.tmp 44) 123 123 rfl 126 11 elActs.under sizeAct g (k * 11) (n - k) (n - k) ⟨g, 0, none⟩ k n rfl rfl cur _ hc1 (cur.toList.take (m * 11)) m hmh.out s1 hsrc hfit h1c ?_
      refine hK'.out _ _ trivial ?_
      clear hK' K'
      have hwm : IntKind.i64.wrap ((k : Int) + (m : Int)) = ((k + m : Nat) : Int) := by rw [IntKind.wrap_i64]; omega
      simp only [show goInt m = .int .i64 m from rfl]
      refine wpAnyH_takeD 8 46 (v := ?_) rfl rfl (by kernel_rfl) (by kernel_rfl) (by kernel_rfl) (fun _ _ _ h => h) (Or.inl ⟨by rfl, ?_⟩) trivial ?_
      rotate_left
      · (intro w' hw'; (try dsimp only at hw'); go_simp; try with_reducible rfl)
      simp only [List.set_cons_zero, List.set_cons_succ]
      refine wpAnyH_takeD 9 8 (v := ?_) rfl rfl (by kernel_rfl) (by kernel_rfl) (by kernel_rfl) (fun _ _ _ h => h) (Or.inl ⟨by rfl, ?_⟩) trivial ?_
      rotate_left
      · (intro w' hw'; (try dsimp only at hw'); go_simp; try with_reducible rfl)
      simp only [List.set_cons_zero, List.set_cons_succ]
      refine wpAnyH_done (by kernel_rfl) ?_ _
      go_wp2
      go_roundw
      case rel => exact ⟨k + m, hmn, fun _ => by omega, by simp, hst2, hB4⟩
      case measure => simp [intOf]; omega
    · obtain rfl : k = n := by omega
      go_wp2
      go_ret
      exact ⟨_, rfl, by subst hg; exact RepS.own hst.out hE hn (Nat.le_refl _), by subst hg; exact hb⟩
end Go.Proofs.Ytgodceplajkcdaa
