/- Package sanitize: the desk. -/
import Derived.Test.YtjbidchdjpmonaaDoorClean
import Derived.Test.YtjbidchdjpmonaaDoorMemA
import Derived.Test.YtjbidchdjpmonaaDoorDoc
import Derived.Test.YtjbidchdjpmonaaDoorPlY
import Derived.Test.YtjbidchdjpmonaaDoorTac
import Derived.BigQuiet
import Derived.RegionTactic
import Derived.Deep.RegionLaw
namespace Go.Mh
open Go.RowKit
def dcells (dv : Value) (k : Dk) : Array Value := #[dv, .int .i64 (k.from' : Int), .int .i64 k.kind, .bool k.inn, .int .i64 k.bold, .int .i64 k.slant, str k.link, str k.gone]
/-- A desk in block g; its document is the call's own row, in blocks from B on. -/
def DAt (T e : TypeId) (B g : Nat) (w : World) (dv : Value) (k : Dk) : Prop := w.heap[g]? = some (.cells (dcells dv k) T (0, 0)) ∧ OwnS B e 3 RIt w dv k.d ∧ B ≤ g
theorem D8.of {w : World} {g : Nat} {x0 x1 x2 x3 x4 x5 x6 x7 : Value} {e : TypeId} {fr : Nat × Nat} (h : w.heap[g]? = some (.cells #[x0, x1, x2, x3, x4, x5, x6, x7] e fr)) :
    w.cell? ⟨g, 0, none⟩ = some x0 ∧ w.cell? ⟨g, 1, none⟩ = some x1 ∧ w.cell? ⟨g, 2, none⟩ = some x2 ∧ w.cell? ⟨g, 3, none⟩ = some x3 ∧ w.cell? ⟨g, 4, none⟩ = some x4 ∧ w.cell? ⟨g, 5, none⟩ = some x5 ∧ w.cell? ⟨g, 6, none⟩ = some x6 ∧ w.cell? ⟨g, 7, none⟩ = some x7 := by
  unfold World.cell?
  rw [h]
  exact ⟨rfl, rfl, rfl, rfl, rfl, rfl, rfl, rfl⟩
theorem DAt.below {T e : TypeId} {B g : Nat} {w w' : World} {dv : Value} {k : Dk} (h : DAt T e B g w dv k) (hb : Below w.heap.size w w') : DAt T e B g w' dv k :=
  ⟨(hb.block g (Array.getElem?_eq_some_iff.1 h.1).1).trans h.1, h.2.1.below hb (fun _ _ _ r => r), h.2.2⟩
theorem DAt.from {T e : TypeId} {B g : Nat} {w : World} {dv : Value} {k : Dk} (h : DAt T e B g w dv k) (hT : T ≠ e) (v : Nat) : DAt T e B g (w.setCell ⟨g, 1, none⟩ (.int .i64 (v : Int))) dv { k with from' := v } :=
  ⟨by rw [heap_setCell_same _ g 1 _ T _ h.1]; rfl, h.2.1.to (fun b hb _ => heap_setCell_other _ _ _ _ (fun e' => h.2.1.ne h.1 hT (by rw [hb, e']))) (fun _ _ _ r => r), h.2.2⟩
theorem DAt.kind {T e : TypeId} {B g : Nat} {w : World} {dv : Value} {k : Dk} (h : DAt T e B g w dv k) (hT : T ≠ e) (v : Int) : DAt T e B g (w.setCell ⟨g, 2, none⟩ (.int .i64 v)) dv { k with kind := v } :=
  ⟨by rw [heap_setCell_same _ g 2 _ T _ h.1]; rfl, h.2.1.to (fun b hb _ => heap_setCell_other _ _ _ _ (fun e' => h.2.1.ne h.1 hT (by rw [hb, e']))) (fun _ _ _ r => r), h.2.2⟩
theorem DAt.inn {T e : TypeId} {B g : Nat} {w : World} {dv : Value} {k : Dk} (h : DAt T e B g w dv k) (hT : T ≠ e) (v : Bool) : DAt T e B g (w.setCell ⟨g, 3, none⟩ (.bool v)) dv { k with inn := v } :=
  ⟨by rw [heap_setCell_same _ g 3 _ T _ h.1]; rfl, h.2.1.to (fun b hb _ => heap_setCell_other _ _ _ _ (fun e' => h.2.1.ne h.1 hT (by rw [hb, e']))) (fun _ _ _ r => r), h.2.2⟩
theorem DAt.bold {T e : TypeId} {B g : Nat} {w : World} {dv : Value} {k : Dk} (h : DAt T e B g w dv k) (hT : T ≠ e) (v : Int) : DAt T e B g (w.setCell ⟨g, 4, none⟩ (.int .i64 v)) dv { k with bold := v } :=
  ⟨by rw [heap_setCell_same _ g 4 _ T _ h.1]; rfl, h.2.1.to (fun b hb _ => heap_setCell_other _ _ _ _ (fun e' => h.2.1.ne h.1 hT (by rw [hb, e']))) (fun _ _ _ r => r), h.2.2⟩
theorem DAt.slant {T e : TypeId} {B g : Nat} {w : World} {dv : Value} {k : Dk} (h : DAt T e B g w dv k) (hT : T ≠ e) (v : Int) : DAt T e B g (w.setCell ⟨g, 5, none⟩ (.int .i64 v)) dv { k with slant := v } :=
  ⟨by rw [heap_setCell_same _ g 5 _ T _ h.1]; rfl, h.2.1.to (fun b hb _ => heap_setCell_other _ _ _ _ (fun e' => h.2.1.ne h.1 hT (by rw [hb, e']))) (fun _ _ _ r => r), h.2.2⟩
theorem DAt.link {T e : TypeId} {B g : Nat} {w : World} {dv : Value} {k : Dk} (h : DAt T e B g w dv k) (hT : T ≠ e) (v : Bs) : DAt T e B g (w.setCell ⟨g, 6, none⟩ (str v)) dv { k with link := v } :=
  ⟨by rw [heap_setCell_same _ g 6 _ T _ h.1]; rfl, h.2.1.to (fun b hb _ => heap_setCell_other _ _ _ _ (fun e' => h.2.1.ne h.1 hT (by rw [hb, e']))) (fun _ _ _ r => r), h.2.2⟩
theorem DAt.gone {T e : TypeId} {B g : Nat} {w : World} {dv : Value} {k : Dk} (h : DAt T e B g w dv k) (hT : T ≠ e) (v : Bs) : DAt T e B g (w.setCell ⟨g, 7, none⟩ (str v)) dv { k with gone := v } :=
  ⟨by rw [heap_setCell_same _ g 7 _ T _ h.1]; rfl, h.2.1.to (fun b hb _ => heap_setCell_other _ _ _ _ (fun e' => h.2.1.ne h.1 hT (by rw [hb, e']))) (fun _ _ _ r => r), h.2.2⟩
theorem DAt.doc {T e : TypeId} {B g : Nat} {w : World} {dv dv' : Value} {k : Dk} {D : List It} (h : w.heap[g]? = some (.cells (dcells dv k) T (0, 0))) (ho : OwnS B e 3 RIt w dv' D) (hB : B ≤ g) (hT : T ≠ e) : DAt T e B g (w.setCell ⟨g, 0, none⟩ dv') dv' { k with d := D } :=
  ⟨by rw [heap_setCell_same _ g 0 _ T _ h]; rfl, ho.to (fun b hb _ => heap_setCell_other _ _ _ _ (fun e' => ho.ne h hT (by rw [hb, e']))) (fun _ _ _ r => r), hB⟩
end Go.Mh
namespace Go.Proofs.YtjbidchdjpmonaaDoor
open Go.RowKit Go.Mh

abbrev Dsk (B g : Nat) (w : World) (dv : Value) (k : Dk) : Prop := DAt 98 38 B g w dv k
theorem elDocS : El Tryd.prog 31 38 3 32 (.agg #[.int .u8 0, .int .i64 0, .string ⟨#[]⟩]) := ⟨Tryd.underlying31, by kernel_rfl, rfl, by decide⟩

theorem tne : 98 ≠ 38 := by decide

/-- One item more behind the desk's document, in a region that draws its order. -/
theorem step_desk {ops : Array Oper} {o : Oper} {a : Act} {w : World} {K : Act → World → Prop} {Q : Exit → Act → World → Prop} {E : Prop}
    (hg : o.guard = none) (s x : Operand) (hop : o.op = Op.call { callee := Callee.builtin Builtin.append, args := #[s, x], argTypes := #[31, 31] })
    (B g : Nat) (dv : Value) (k : Dk) (h : Dsk B g w dv k) (hB : B ≤ w.heap.size) (hl : k.d.length ≤ 200000) (y : It) (cs : Array Value) (hcs : cs = #[.int .u8 y.c.toNat, .int .i64 y.m, str y.l]) (hs : a.eval s = dv) (hx : a.eval x = .slice (some ⟨w.heap.size, 0, none⟩) 1 1)
    (hK : ∀ a' c' w', w'.heap[g]? = some (.cells (dcells dv k) 98 (0, 0)) → OwnS B 38 3 RIt w' (.slice a' (k.d.length + 1) c') (k.d ++ [y]) → Below B w w' → (∀ j, j < w.heap.size → some j ≠ dv.ownBlock → w'.heap[j]? = w.heap[j]?) → K (a.put o.dst (.slice a' (k.d.length + 1) c')) w') :
    if Region.wanted o (yielded ops a.tmps) = true then Oper.wp Tryd.prog o a (w.alloc (.cells cs 38)) K Q else E := by
  subst hcs
  obtain ⟨hd, ho, hBg⟩ := h
  have hgl := lt_of_heap hd
  have hb0 := bal (brf w) (.cells #[.int .u8 y.c.toNat, .int .i64 y.m, str y.l] 38)
  refine step_app hg s x 31 hop B 38 3 32 _ elDocS RIt dv k.d [y] hs (ho.below hb0 fun _ _ _ r => r) (fun _ => True) _ hx
    (RItems.lit (n := 1) (cap := 1) (heap_new w _) rfl (by decide) (by decide) trivial (fun i z hi => ?_)) RIt_one (by simp [maxLen]; omega) (by simp; omega) (by simp; omega) (fun _ _ _ _ _ r => r) ?_
  · match i, hi with
    | 0, hi => simp at hi; subst hi; exact ⟨rfl, rfl, rfl⟩
  · intro v' w' ho' hgrow hb'
    obtain ⟨a', c', rfl, _⟩ := RdS.len ho'.rd
    have hd2 : w'.heap[g]? = some (.cells (dcells dv k) 98 (0, 0)) := by
      rw [hgrow.block g (by simp; omega) (ho.ne hd tne), hb0.block g hgl]; exact hd
    have e1 : (k.d ++ [y]).length = k.d.length + 1 := by simp
    rw [e1] at ho' ⊢
    exact hK a' c' w' hd2 ho' ((hb0.mono hB).trans hb') (fun j hj hne => by rw [hgrow.block j (by simp; omega) hne, hb0.block j hj])

set_option maxRecDepth 100000 in
set_option maxHeartbeats 4000000 in
theorem end_any (B g : Nat) (dv : Value) (k : Dk) (w : World) (h : Dsk B g w dv k) (hB : B ≤ w.heap.size) (hl : k.d.length ≤ 200000) :
    Calls Tryd.prog 93 #[.pointer (some ⟨g, 0, none⟩)] w fun e w' => e = .returned (.tuple #[]) ∧ (∃ dv', Dsk B g w' dv' (endD k)) ∧ Below B w w' := by
  obtain ⟨hd, ho, hBg⟩ := h
  obtain ⟨da, dc, rfl, _⟩ := RdS.len ho.rd
  obtain ⟨d, f, kind, inn, bold, slant, link, gone⟩ := k
  simp only at hl ho
  have hO := Lib.hid ho
  have hD := Lib.hid hd
  clear ho
  replace hd : w.heap[g]? = some (.cells #[.slice da d.length dc, .int .i64 (f : Int), .int .i64 kind, .bool inn, .int .i64 bold, .int .i64 slant, str link, str gone] 98 (0, 0)) := hd
  obtain ⟨x0, x1, x2, x3, x4, x5, x6, x7⟩ := D8.of hd
  have hfz : ∀ i, w.frozen? ⟨g, i, none⟩ = false := fun i => Lib.frozen_of_heap hd _
  have hgl : g < w.heap.size := lt_of_heap hd
  have hgn : ¬ g = w.heap.size := by omega
  clear hd
  by_cases hc : inn = true ∨ f < d.length
  · have hE := Lib.hid (show endD ⟨d, f, kind, inn, bold, slant, link, gone⟩ = ⟨d ++ [⟨10, kind, []⟩], d.length + 1, 0, false, bold, slant, link, gone⟩ from if_pos hc)
    go_enter Tryd.func93, Tryd.ntmps93
    have hft : inn = false → decide ((f : Int) < (d.length : Int)) = true ∧ decide (f < d.length) = true := fun e => by
      rcases hc with h | h
      · rw [e] at h; cases h
      · exact ⟨by simp; omega, by simp; omega⟩
    clear hc
    cases inn
    case' false => obtain ⟨hf, hf'⟩ := hft rfl
    all_goals
      clear hft
      go_upto_region 0 with fail
      go_quiet (fail)
      go_upto_region 1 with fail
      have q0 : ∀ n o, ((w.drewN n).alloc o).cell? ⟨g, 0, none⟩ = some (.slice da d.length dc) := fun n o => (World.cell?_alloc_lt (w := w.drewN n) (a := ⟨g, 0, none⟩) (o := o) hgl).trans x0
      go_region_law (refine step_desk (by rfl) (.tmp 22) (.tmp 28) (by rfl) B g (.slice da d.length dc) ⟨d, f, kind, _, bold, slant, link, gone⟩ (by exact ⟨hD.out, hO.out, hBg⟩) (by exact hB) hl ⟨10, kind, []⟩ _ (by rfl) (by simp [Act.eval]) (by simp [Act.eval]) ?_; intro a2 c2 w2 hd2 ho2 hb2 _; obtain ⟨y0, y1, y2, y3, y4, y5, y6, y7⟩ := D8.of hd2; have fz2 : ∀ i, w2.frozen? ⟨g, i, none⟩ = false := fun i => Lib.frozen_of_heap hd2 _)
    all_goals
      go_wp2
      go_end0
      rw [hE.out]
      have D0 := DAt.doc (k := ⟨d, f, kind, _, bold, slant, link, gone⟩) hd2 ho2 hBg tne
      have D1 := ((D0.from tne (d.length + 1)).inn tne false).kind tne 0
      have hb3 : Below B w w2 := (bdrewN (Below.refl B w) (nq + 1)).trans hb2
      refine ⟨rfl, ⟨_, by simpa using D1⟩, ?_⟩
      exact (((hb3.setCell (p := ⟨g, 0, none⟩) hBg _).setCell (p := ⟨g, 1, none⟩) hBg _).setCell (p := ⟨g, 3, none⟩) hBg _).setCell (p := ⟨g, 2, none⟩) hBg _
  · have hE := Lib.hid (show endD ⟨d, f, kind, inn, bold, slant, link, gone⟩ = ⟨d, f, 0, false, bold, slant, link, gone⟩ from if_neg hc)
    have hin : inn = false := by cases inn; rfl; exact absurd (Or.inl rfl) hc
    have hf : decide ((f : Int) < (d.length : Int)) = false := by simp; omega
    have hf' : decide (f < d.length) = false := by simp; omega
    subst hin
    clear hc
    go_enter Tryd.func93, Tryd.ntmps93
    go_upto_region 0 with fail
    go_quiet (fail)
    go_wp2
    go_end0
    rw [hE.out]
    have h0 : Dsk B g (w.drewN nq) (.slice da d.length dc) ⟨d, f, kind, false, bold, slant, link, gone⟩ := ⟨hD.out, hO.out, hBg⟩
    exact ⟨rfl, ⟨_, (h0.inn tne false).kind tne 0⟩, ((bdrewN (Below.refl _ _) _).setCell (p := ⟨g, 3, none⟩) hBg _).setCell (p := ⟨g, 2, none⟩) hBg _⟩
end Go.Proofs.YtjbidchdjpmonaaDoor
