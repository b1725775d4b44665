/- Package sanitize: the desk's text. -/
import Derived.Test.YtjbidchdjpmonaaDoorSan
import Derived.Deep.Cut
namespace Go.Proofs.YtjbidchdjpmonaaDoor
open Go.RowKit Go.Mh

theorem chr1_int (c : UInt8) : ((chr1 c).toNat : Int) = if (((c.toNat : Int) == 9) = true ∨ ((c.toNat : Int) == 10) = true ∨ ((c.toNat : Int) == 13) = true ∨ ((c.toNat : Int) == 12) = true) then 32 else if (c.toNat : Int) < 32 ∨ 126 < (c.toNat : Int) then 63 else (c.toNat : Int) := by
  have e : ∀ d : UInt8, (c = d) ↔ (((c.toNat : Int) == (d.toNat : Int)) = true) := fun d => by rw [← UInt8.toNat_inj, beq_iff_eq]; omega
  have l1 : (c < 32) ↔ ((c.toNat : Int) < 32) := by rw [UInt8.lt_iff_toNat_lt]; show c.toNat < 32 ↔ _; omega
  have l2 : (126 < c) ↔ (126 < (c.toNat : Int)) := by rw [UInt8.lt_iff_toNat_lt]; show 126 < c.toNat ↔ _; omega
  have k : (c = 9 ∨ c = 10 ∨ c = 13 ∨ c = 12) ↔ (((c.toNat : Int) == 9) = true ∨ ((c.toNat : Int) == 10) = true ∨ ((c.toNat : Int) == 13) = true ∨ ((c.toNat : Int) == 12) = true) := by rw [e 9, e 10, e 13, e 12]; rfl
  unfold chr1
  by_cases h : c = 9 ∨ c = 10 ∨ c = 13 ∨ c = 12
  · rw [if_pos h, if_pos (k.1 h)]; rfl
  · rw [if_neg h, if_neg (fun x => h (k.2 x))]
    by_cases h2 : c < 32 ∨ 126 < c
    · rw [if_pos h2, if_pos (h2.imp l1.1 l2.1)]; rfl
    · rw [if_neg h2, if_neg (fun x => h2 (x.imp l1.2 l2.2))]

/-- '[]byte(s)' in the walk: the new row's block. -/
theorem wpList_bytes_obj {P : Program} (w : World) {ops : Array Oper} {rest : List Oper} {o : Oper} {a : Act} {Q : Exit → Act → World → Prop}
    (hg : o.guard = none) (src dst : TypeId) (x : Operand) (hop : o.op = Op.convert src dst x) (e : TypeId)
    (hs : P.underlying src = some .string) (hd : P.underlying dst = some (.slice e)) (he : P.underlying e = some (.int .u8)) (l : Bs) (hx : a.eval x = str l)
    (hK : ∀ w' cap xs fr, w'.heap[w.heap.size]? = some (.cells xs e fr) → (∀ (j : Nat) c, l[j]? = some c → xs[j]? = some (.int .u8 (c.toNat : Int))) → Below w.heap.size w w' → wpList P ops Q rest (a.put o.dst (.slice (some ⟨w.heap.size, 0, none⟩) l.length cap)) w') :
    wpList P ops Q (o :: rest) a w := by
  refine wpList_plain hg fun K hK' => ?_
  have hrun := run_bytes_of_string (P := P) w src dst e ⟨l.toArray⟩ hs hd he
  unfold Oper.wp
  simp only [execOp, hop, hx]
  simp [hrun, Result.andThen]
  refine hK' _ _ (hK _ _ _ _ (heap_new w.drew _) (fun j c hj => ?_) ((Below.refl _ _).drew.alloc (Nat.le_refl _) _))
  have hj' := (List.getElem?_eq_some_iff.1 hj).1
  have := bytesRow_at ⟨l.toArray⟩ (grownCap w l.length 0 e) j (by simpa using hj')
  simp at this
  rw [(List.getElem?_eq_some_iff.1 hj).2] at this
  rw [← this]
  rfl

set_option maxRecDepth 100000 in
set_option maxHeartbeats 8000000 in
theorem text_any (B g : Nat) (dv : Value) (k : Dk) (s : Bs) (w : World) (h : Dsk B g w dv k) (hB : B ≤ w.heap.size) (hl : k.d.length + s.length ≤ 200000) :
    Calls Tryd.prog 90 #[.pointer (some ⟨g, 0, none⟩), str s] w fun e w' => e = .returned (.tuple #[]) ∧ (∃ dv', Dsk B g w' dv' (textD k s)) ∧ Below B w w' := by
  have hD := Lib.hid h
  obtain ⟨hd, ho, hBg⟩ := h
  obtain ⟨da, dc, rfl, _⟩ := RdS.len ho.rd
  obtain ⟨d, f, kind, inn, bold, slant, link, gone⟩ := k
  simp only at hl ho
  obtain ⟨M, hMk⟩ : ∃ M, marksD ⟨d, f, kind, inn, bold, slant, link, gone⟩ = M := ⟨_, rfl⟩
  have hT := Lib.hid (show textD ⟨d, f, kind, inn, bold, slant, link, gone⟩ s = ⟨d ++ s.map fun c => ⟨chr1 c, M, link⟩, f, kind, inn, bold, slant, link, gone⟩ by rw [← hMk]; rfl)
  obtain ⟨bB, hbB⟩ : ∃ b, decide (0 < bold) = b := ⟨_, rfl⟩
  obtain ⟨bS, hbS⟩ : ∃ b, decide (0 < slant) = b := ⟨_, rfl⟩
  have hMM := Lib.hid (show M = (if bB = true then 1 else 0) + (if bS = true then 2 else 0) by rw [← hMk, ← hbB, ← hbS]; unfold marksD; simp)
  clear hMk
  replace hd : w.heap[g]? = some (.cells #[.slice da d.length dc, .int .i64 (f : Int), .int .i64 kind, .bool inn, .int .i64 bold, .int .i64 slant, str link, str gone] 98 (0, 0)) := hd
  obtain ⟨x0, x1, x2, x3, x4, x5, x6, x7⟩ := D8.of hd
  clear hd ho
  go_enter Tryd.func90, Tryd.ntmps90
  go_upto_if 11 with fail
  go_cut [4] (fun v wx => v = .int .i64 (if bB = true then 1 else 0) ∧ wx = w)
  case first =>
    cases bB
    · go_wp2
      go_meet
      exact ⟨rfl, rfl⟩
    · go_wp2
      go_meet
      exact ⟨rfl, rfl⟩
  case rest =>
    obtain ⟨rfl, hw⟩ := hcut
    rw [hw]
    clear hw
    go_upto_if 18 with fail
    go_cut [4] (fun v wx => v = .int .i64 M ∧ wx = w)
    case first =>
      cases bB <;> cases bS
      all_goals
        go_wp2
        go_meet
        exact ⟨by rw [hMM.out]; rfl, rfl⟩
    case rest =>
      obtain ⟨rfl, hw⟩ := hcut
      rw [hw]
      clear hw x0 x1 x2 x3 x4 x5 x6 x7 hMM hbB hbS
      go_wp2_with (refine wpList_bytes_obj _ rfl 9 47 (.tmp 21) rfl 5 Tryd.underlying9 Tryd.underlying47 Tryd.underlying5 s rfl ?_; intro w1 cap xs fr hx1 hxs hb1)
      go_loopw [24] (fun i wr => ∃ n : Nat, n ≤ s.length ∧ i = .int .i64 n ∧ wr.heap[w.heap.size]? = some (.cells xs 5 fr) ∧ (∃ dv', Dsk B g wr dv' ⟨d ++ (s.take n).map (fun c => ⟨chr1 c, M, link⟩), f, kind, inn, bold, slant, link, gone⟩) ∧ Below B w wr) (fun i _ => s.length - (intOf i).toNat)
      case atStart => exact ⟨0, Nat.zero_le _, rfl, hx1, ⟨_, by simpa using hD.out.below hb1⟩, hb1.mono hB⟩
      case round =>
        obtain ⟨n, hn, rfl, hxr, ⟨dv, hdk⟩, hb⟩ := hrel
        by_cases hlt : n < s.length
        · obtain ⟨c, hc⟩ : ∃ c, s[n]? = some c := ⟨_, List.getElem?_eq_getElem hlt⟩
          have hcell : wr.cell? ⟨w.heap.size, n, none⟩ = some (.int .u8 (c.toNat : Int)) := by unfold World.cell?; rw [hxr]; exact hxs n c hc
          obtain ⟨hd, ho, _⟩ := hdk
          obtain ⟨D, hDD⟩ : ∃ D, d ++ (s.take n).map (fun c => (⟨chr1 c, M, link⟩ : It)) = D := ⟨_, rfl⟩
          have hDl : D.length ≤ 200000 - 1 := by rw [← hDD]; simp; omega
          have hnx := Lib.hid (show d ++ (s.take (n + 1)).map (fun c => (⟨chr1 c, M, link⟩ : It)) = D ++ [⟨chr1 c, M, link⟩] by rw [← hDD, List.take_add_one, hc]; simp)
          simp only [hDD] at hd ho
          obtain ⟨da2, dc2, rfl, _⟩ := RdS.len ho.rd
          clear hc hDD
          have hch := Lib.hid (chr1_int c)
          go_upto_block 2 with fail
          go_cut [6] (fun v wx => v = .int .u8 ((chr1 c).toNat : Int) ∧ wx = wr)
          case first =>
            cases h1 : ((c.toNat : Int) == 9) with
            | true =>
              go_wp2
              go_meet
              exact ⟨by rw [hch.out, if_pos (Or.inl h1)], rfl⟩
            | false =>
            cases h2 : ((c.toNat : Int) == 10) with
            | true =>
              go_wp2
              go_meet
              exact ⟨by rw [hch.out, if_pos (Or.inr (Or.inl h2))], rfl⟩
            | false =>
            cases h3 : ((c.toNat : Int) == 13) with
            | true =>
              go_wp2
              go_meet
              exact ⟨by rw [hch.out, if_pos (Or.inr (Or.inr (Or.inl h3)))], rfl⟩
            | false =>
            cases h4 : ((c.toNat : Int) == 12) with
            | true =>
              go_wp2
              go_meet
              exact ⟨by rw [hch.out, if_pos (Or.inr (Or.inr (Or.inr h4)))], rfl⟩
            | false =>
            have hno : ¬ (((c.toNat : Int) == 9) = true ∨ ((c.toNat : Int) == 10) = true ∨ ((c.toNat : Int) == 13) = true ∨ ((c.toNat : Int) == 12) = true) := by rw [h1, h2, h3, h4]; simp
            have hno' := Lib.hid hno
            clear hno
            cases h5 : decide ((c.toNat : Int) < 32) with
            | true =>
              have h5' : decide (c.toNat < 32) = true := by simp at h5 ⊢; omega
              have k5 := Lib.hid (of_decide_eq_true h5)
              go_wp2
              go_meet
              exact ⟨by rw [hch.out, if_neg hno'.out, if_pos (Or.inl (by have := k5.out; omega))], rfl⟩
            | false =>
            have h5' : decide (c.toNat < 32) = false := by simp at h5 ⊢; omega
            have k5 := Lib.hid (of_decide_eq_false h5)
            cases h6 : decide ((126 : Int) < (c.toNat : Int)) with
            | true =>
              have h6' : decide (126 < c.toNat) = true := by simp at h6 ⊢; omega
              have k6 := Lib.hid (of_decide_eq_true h6)
              go_wp2
              go_meet
              exact ⟨by rw [hch.out, if_neg hno'.out, if_pos (Or.inr (by have := k6.out; omega))], rfl⟩
            | false =>
              have h6' : decide (126 < c.toNat) = false := by simp at h6 ⊢; omega
              have k6 := Lib.hid (of_decide_eq_false h6)
              go_wp2
              go_meet
              exact ⟨by rw [hch.out, if_neg hno'.out, if_neg (fun e => by have := k5.out; have := k6.out; omega)], rfl⟩
          case rest =>
            obtain ⟨rfl, hw⟩ := hcut
            rw [hw]
            clear hw hch
            obtain ⟨wq, nq, rfl⟩ : ∃ wq n, wr = World.drewN wq n := ⟨wr, 0, rfl⟩
            replace hxr : wq.heap[w.heap.size]? = some (.cells xs 5 fr) := hxr
            replace ho : OwnS B 38 3 RIt wq (.slice da2 D.length dc2) D := ho
            have hD2 : Hid (wq.heap[g]? = _) := Lib.hid hd
            have hO2 := Lib.hid ho
            have hX2 := Lib.hid hxr
            have hbq : Hid (Below B w wq) := Lib.hid ⟨hb.os, hb.tape, hb.output, hb.size, hb.block⟩
            clear hb
            replace hd : wq.heap[g]? = some (.cells #[.slice da2 D.length dc2, .int .i64 (f : Int), .int .i64 kind, .bool inn, .int .i64 bold, .int .i64 slant, str link, str gone] 98 (0, 0)) := hd
            obtain ⟨x0, x1, x2, x3, x4, x5, x6, x7⟩ := D8.of hd
            have hfz : ∀ i, wq.frozen? ⟨g, i, none⟩ = false := fun i => Lib.frozen_of_heap hd _
            have hgl : g < wq.heap.size := lt_of_heap hd
            have hne : some w.heap.size ≠ (Value.slice da2 D.length dc2).ownBlock := ho.ne hxr (by decide)
            have hwl : w.heap.size < wq.heap.size := lt_of_heap hxr
            have hgw : w.heap.size ≠ g := fun e => by rw [e, hd] at hxr; cases hxr
            have q0 : ∀ n o, ((wq.drewN n).alloc o).cell? ⟨g, 0, none⟩ = some (.slice da2 D.length dc2) := fun n o => (World.cell?_alloc_lt (w := wq.drewN n) (a := ⟨g, 0, none⟩) (o := o) hgl).trans x0
            clear hd ho hxr hcell
            go_upto_region 12 with fail
            go_region_law (refine step_desk (by rfl) (.tmp 54) (.tmp 62) (by rfl) B g (.slice da2 D.length dc2) ⟨D, f, kind, inn, bold, slant, link, gone⟩ (by exact ⟨hD2.out, hO2.out, hBg⟩) (by exact Nat.le_trans hB (Nat.le_of_lt hwl)) (by simp; omega) ⟨chr1 c, M, link⟩ _ (by rfl) (by simp [Act.eval]) (by simp [Act.eval]) ?_; intro a2 c2 w2 hd2 ho2 hb2 hk2; obtain ⟨y0, y1, y2, y3, y4, y5, y6, y7⟩ := D8.of hd2; have fz2 : ∀ i, w2.frozen? ⟨g, i, none⟩ = false := fun i => Lib.frozen_of_heap hd2 _)
            all_goals
              have D0 : Dsk B g (w2.setCell ⟨g, 0, none⟩ (.slice a2 (D.length + 1) c2)) (.slice a2 (D.length + 1) c2) ⟨D ++ [⟨chr1 c, M, link⟩], f, kind, inn, bold, slant, link, gone⟩ := DAt.doc (k := ⟨D, f, kind, inn, bold, slant, link, gone⟩) hd2 ho2 hBg tne
              have hb3 : Below B w (w2.setCell ⟨g, 0, none⟩ (.slice a2 (D.length + 1) c2)) := ((bdrewN hbq.out (nq + 1)).trans hb2).setCell (p := ⟨g, 0, none⟩) hBg _
              have hx3 : (w2.setCell ⟨g, 0, none⟩ (.slice a2 (D.length + 1) c2)).heap[w.heap.size]? = some (.cells xs 5 fr) := by
                rw [heap_setCell_other _ _ _ _ hgw]
                exact (hk2 w.heap.size (by simpa using hwl) hne).trans hX2.out
              generalize w2.setCell ⟨g, 0, none⟩ (.slice a2 (D.length + 1) c2) = w3 at *
              go_wp2
              go_roundw
              case rel => exact ⟨n + 1, by omega, by go_num, hx3, ⟨_, by rw [hnx.out]; exact D0⟩, hb3⟩
              case measure => simp [intOf]; omega
        · obtain rfl : n = s.length := by omega
          rw [List.take_length] at hdk
          go_wp2
          go_end0
          exact ⟨rfl, ⟨_, by rw [hT.out]; exact hdk⟩, hb⟩
end Go.Proofs.YtjbidchdjpmonaaDoor
