/- The reference Read: is a tag hidden? Its names are cut out of one text by strings.Fields. -/
import Derived.Test.YteikncnldbdfmaaGreatDoorRdB
namespace Go.Mh
def hidS : Bs := [115, 99, 114, 105, 112, 116, 32, 115, 116, 121, 108, 101, 32, 116, 101, 109, 112, 108, 97, 116, 101, 32, 115, 118, 103, 32, 109, 97, 116, 104, 32, 105, 102, 114, 97, 109, 101, 32, 116, 105, 116, 108, 101, 32, 116, 101, 120, 116, 97, 114, 101, 97, 32, 110, 111, 115, 99, 114, 105, 112, 116]
theorem hid_fields : Lib.fields hidS = hiddenL := by decide +kernel
theorem hid_ascii : ∀ (j : Nat) b, hidS[j]? = some b → b.toNat < 128 := by
  intro j b h
  have := List.mem_of_getElem? h
  revert b
  have key : ∀ b ∈ hidS, b.toNat < 128 := by decide
  intro b _ hb
  exact key b hb
def hidZ : List ByteArray := hiddenL.map fun l => ⟨l.toArray⟩
theorem hid_iff (n : Bs) : Lib.containsS (hidZ.take 9) ⟨n.toArray⟩ = decide (n ∈ hiddenL) := by
  rw [Bool.eq_iff_iff, Lib.containsS_iff, decide_eq_true_eq, show (9 : Nat) = hidZ.length by decide, List.take_length]
  unfold hidZ
  rw [List.mem_map]
  exact ⟨fun ⟨a, ha, e⟩ => by injection e with e; injection e with e; rw [← e]; exact ha, fun h => ⟨n, h, rfl⟩⟩
end Go.Mh
namespace Go.Proofs.YteikncnldbdfmaaGreatDoor
open Go.RowKit Go.Mh
/-- The library's table of blanks. -/
abbrev Tab (w : World) : Prop := Lib.TabIs Tryz.prog w "strings.asciiSpace" .u8 Lib.asciiSpaceTab
theorem Tab.to {w w' : World} (h : Tab w) (hb : w'.heap[(0 : Nat)]? = w.heap[(0 : Nat)]?) : Tab w' := by
  have hgn : Tryz.prog.globalNamed "strings.asciiSpace" = some 0 := by kernel_rfl
  unfold Tab Lib.TabIs World.var? at h ⊢
  rw [hgn] at h ⊢
  simp only [Option.bind_some] at h ⊢
  rw [hb]
  exact h
theorem fields_hid (w : World) (h : Tab w) : Calls Tryz.prog 81 #[.string ⟨#[115, 99, 114, 105, 112, 116, 32, 115, 116, 121, 108, 101, 32, 116, 101, 109, 112, 108, 97, 116, 101, 32, 115, 118, 103, 32, 109, 97, 116, 104, 32, 105, 102, 114, 97, 109, 101, 32, 116, 105, 116, 108, 101, 32, 116, 101, 120, 116, 97, 114, 101, 97, 32, 110, 111, 115, 99, 114, 105, 112, 116]⟩] w fun e w' => e = .returned (.slice (some ⟨w.heap.size, 0, none⟩) 9 9) ∧ w' = w.alloc (.cells (hiddenL.map str).toArray 9) := by
  have C := Tryz.strings_Fields ⟨#[115, 99, 114, 105, 112, 116, 32, 115, 116, 121, 108, 101, 32, 116, 101, 109, 112, 108, 97, 116, 101, 32, 115, 118, 103, 32, 109, 97, 116, 104, 32, 105, 102, 114, 97, 109, 101, 32, 116, 105, 116, 108, 101, 32, 116, 101, 120, 116, 97, 114, 101, 97, 32, 110, 111, 115, 99, 114, 105, 112, 116]⟩ w (by decide) hid_ascii h
  rw [show Lib.fields (⟨#[115, 99, 114, 105, 112, 116, 32, 115, 116, 121, 108, 101, 32, 116, 101, 109, 112, 108, 97, 116, 101, 32, 115, 118, 103, 32, 109, 97, 116, 104, 32, 105, 102, 114, 97, 109, 101, 32, 116, 105, 116, 108, 101, 32, 116, 101, 120, 116, 97, 114, 101, 97, 32, 110, 111, 115, 99, 114, 105, 112, 116]⟩ : ByteArray).data.toList = hiddenL from hid_fields] at C
  exact C
theorem contains_hid (n : Bs) (w w2 : World) (h : w2.heap[w.heap.size]? = some (.cells (hiddenL.map str).toArray 9 (0, 0))) :
    Calls Tryz.prog 80 #[.slice (some ⟨w.heap.size, 0, none⟩) 9 9, str n] w2 fun e w' => e = .returned (.bool (decide (n ∈ hiddenL))) ∧ w' = w2 := by
  have hcells : ∀ j, j < hidZ.length → w2.cell? ⟨w.heap.size, 0 + j, none⟩ = some (.string (hidZ.getD j ByteArray.empty)) := by
    intro j hj
    unfold World.cell?
    rw [h]
    match j, hj with
    | 0, _ => rfl
    | 1, _ => rfl
    | 2, _ => rfl
    | 3, _ => rfl
    | 4, _ => rfl
    | 5, _ => rfl
    | 6, _ => rfl
    | 7, _ => rfl
    | 8, _ => rfl
  have C := Tryz.slices_Contains_string w.heap.size 0 9 9 hidZ ⟨n.toArray⟩ w2 (by decide) (by decide) hcells
  rw [hid_iff n] at C
  exact C
set_option maxRecDepth 1000000 in
set_option maxHeartbeats 4000000 in
theorem rd48 (Q : Exit → Act → World → Prop) (w : World) {b5 b8 b11 : Nat} {fr : Array Value} {c0 c1 c2 c3 c4 c6 c7 c9 c10 c13 c15 c16 c17 c18 c19 c20 c21 c22 c23 c24 c25 c26 c27 : Value} (g : Nat) (tk : Int) (nm tx hr : Bs) (hf : Frm 183 [c0, c1, c2, c3, c4, ptr b5, c6, c7, ptr b8, c9, c10, ptr b11, .func (.func 76) #[] #[ptr b11, ptr b5, ptr b8], c13, ptr g, c15, c16, c17, c18, c19, c20, c21, c22, c23, c24, c25, c26, c27] fr) (hT : w.heap[g]? = some (.cells #[.int .i64 tk, str nm, str tx, str hr] 115 (0, 0))) (htab : Tab w) (hQ : ∀ x (t t' : Array Value) (df : List Deferred) w, Q (.panic x) ⟨t, df⟩ w → Q (.panic x) ⟨t', df⟩ w)
    (hp : ∀ (fr' : Array Value) (w' : World), Frm 183 [c0, c1, c2, c3, c4, ptr b5, c6, c7, ptr b8, c9, c10, ptr b11, .func (.func 76) #[] #[ptr b11, ptr b5, ptr b8], c13, ptr g, c15, c16, c17, c18, c19, c20, c21, c22, c23, c24, c25, c26, c27] fr' → fr'.getD 161 undef = .bool (decide (nm ∈ hiddenL)) → Below w.heap.size w w' → Q .normal ⟨fr', []⟩ w') :
    Code.wp Tryz.prog (readC [1, 1, 1, 1, 1, 1, 0, 1, 2, 2, 1, 1, 0, 2, 1, 1, 0, 2, 1, 4, 1, 4, 1, 4, 1, 4, 1, 4, 1, 4, 1, 4, 1, 4, 1, 4, 0]) Q ⟨fr, []⟩ w := by
  refine rdopen28 hf ?_
  intros
  conv => arg 2; whnf
  have q1 := cellAt' (i := 1) hT rfl
  have FC : ∀ w' : World, w'.heap = w.heap → Calls Tryz.prog 81 #[.string ⟨#[115, 99, 114, 105, 112, 116, 32, 115, 116, 121, 108, 101, 32, 116, 101, 109, 112, 108, 97, 116, 101, 32, 115, 118, 103, 32, 109, 97, 116, 104, 32, 105, 102, 114, 97, 109, 101, 32, 116, 105, 116, 108, 101, 32, 116, 101, 120, 116, 97, 114, 101, 97, 32, 110, 111, 115, 99, 114, 105, 112, 116]⟩] w' fun e w'' => e = .returned (.slice (some ⟨w'.heap.size, 0, none⟩) 9 9) ∧ w'' = w'.alloc (.cells (hiddenL.map str).toArray 9) := fun w' e => fields_hid w' (htab.to (by rw [e]))
  obtain ⟨z, hz⟩ : ∃ z, decide (nm ∈ hiddenL) = z := ⟨_, rfl⟩
  rw [hz] at hp
  have CC := contains_hid nm
  rw [hz] at CC
  have hgl := lt_of_heap hT
  have q1' : ∀ o, (w.alloc o).cell? ⟨g, 1, none⟩ = some (str nm) := fun o => (World.cell?_alloc_lt (w := w) (a := ⟨g, 1, none⟩) (o := o) hgl).trans q1
  obtain ⟨HC, hHC⟩ : ∃ HC, (hiddenL.map str).toArray = HC := ⟨_, rfl⟩
  rw [hHC] at CC
  rw [hHC] at FC
  have FC' := Lib.hid (FC w.drew rfl)
  have CC' := Lib.hid CC
  clear hT hz htab FC CC hHC
  refine wp_flat hQ ?_
  clear hQ
  go_region_with (first | (go_at_call 81; refine FC'.out.mono ?_; rintro e w4 ⟨rfl, rfl⟩) | (go_at_call 80; refine (CC'.out w (w.alloc (.cells HC 9)).drew (heap_new w _)).mono ?_; rintro e w5 ⟨rfl, rfl⟩))
  all_goals
    go_wp2
    show Q .normal _ _
    exact hp _ _ ⟨rfl, rfl⟩ rfl (Go.below_drewN (bal (brf w) (.cells HC 9)) 1)
end Go.Proofs.YteikncnldbdfmaaGreatDoor
