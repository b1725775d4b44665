/- Comparing structs in the walk, and cells of what is read. -/
import Derived.Test.YteikncnldbdfmaaGreatDoorMem
import Derived.Test.YteikncnldbdfmaaGreatDoorProg
namespace Go.Proofs.YteikncnldbdfmaaGreatDoor
open Go.RowKit Go.Mh

theorem under_Item : Tryz.prog.underlying 58 = some (.struct (Tryz.prog.fieldsOf 58)) := by kernel_rfl
theorem held_Item : Tryz.prog.stoodInHeld 58 = false := by kernel_rfl
theorem guard_Item : Tryz.prog.eqGuardType Tryz.prog.depth 58 = false := by kernel_rfl
theorem fields_Item : (Tryz.prog.fieldsOf 58).toList.map (fun f => (f.name, f.type, f.offset)) = [("C", 5, 0), ("Marks", 3, 1), ("Link", 9, 2)] := by kernel_rfl
theorem eqFields_map (d : Nat) (xs ys : Array Value) : ∀ (fs gs : List Field), fs.map (fun f => (f.name, f.type, f.offset)) = gs.map (fun f => (f.name, f.type, f.offset)) → Op.eqFields d xs ys fs = Op.eqFields d xs ys gs
  | [], [], _ => rfl
  | f :: fs, g :: gs, h => by
    simp only [List.map_cons, List.cons.injEq, Prod.mk.injEq] at h
    obtain ⟨⟨h1, h2, h3⟩, h4⟩ := h
    simp only [Op.eqFields, h1, h2, h3, eqFields_map d xs ys fs gs h4]
def fld (n : String) (t o : Nat) : Field := ⟨n, t, o, false, "", "", 0⟩
theorem eqItem (x y : It) (w : World) : (Op.equalIn 10000 58 (.agg #[.int .u8 x.c.toNat, .int .i64 x.m, str x.l]) (.agg #[.int .u8 y.c.toNat, .int .i64 y.m, str y.l])).run Tryz.prog w = .ok (decide (x = y)) w := by
  rw [run_equalIn_struct w 9999 _ _ _ under_Item held_Item]
  rw [eqFields_map 9999 _ _ _ [fld "C" 5 0, fld "Marks" 3 1, fld "Link" 9 2] fields_Item]
  simp [Op.eqFields, fld, go_sem, Tryz.underlying5, Tryz.underlying3, Tryz.underlying9]
  obtain ⟨c, m, l⟩ := x
  obtain ⟨c', m', l'⟩ := y
  have e : ((c.toNat : Int) = (c'.toNat : Int)) ↔ c = c' := by rw [← UInt8.toNat_inj]; omega
  simp only [e, It.mk.injEq]
  by_cases h1 : c = c' <;> by_cases h2 : m = m' <;> by_cases h3 : l = l' <;> simp [h1, h2, h3]

theorem neqItem (x y : It) (w : World) : (binOp .neq 58 (.agg #[.int .u8 x.c.toNat, .int .i64 x.m, str x.l]) (.agg #[.int .u8 y.c.toNat, .int .i64 y.m, str y.l])).run Tryz.prog w = .ok (.bool (!decide (x = y))) w := by
  rw [run_neq_struct, eqItem]; rfl

theorem RInts.at {F : Nat → Prop} {w wr : World} {a : Option Addr} {n cap : Nat} {L : List Int} (h : RInts F w (.slice a n cap) L) (hb : Below w.heap.size w wr) {k : Nat} {x : Int} (hx : L[k]? = some x) :
    ∃ b o, a = some ⟨b, o, none⟩ ∧ wr.cell? ⟨b, o + k, none⟩ = some (.int .i64 x) := by
  obtain ⟨a', cap', e, _, _, _, hel⟩ := h
  cases e
  obtain ⟨b, o, cs, h1, _, _, hat, hR⟩ := hel k x hx
  subst hR
  exact ⟨b, o, h1, by simpa using (hat.to (hb.block b (hat.lt (by simp)))).one⟩

theorem RBytes.at {F : Nat → Prop} {w wr : World} {a : Option Addr} {n cap : Nat} {L : List UInt8} (h : RBytes F w (.slice a n cap) L) (hb : Below w.heap.size w wr) {k : Nat} {x : UInt8} (hx : L[k]? = some x) :
    ∃ b o, a = some ⟨b, o, none⟩ ∧ wr.cell? ⟨b, o + k, none⟩ = some (.int .u8 x.toNat) := by
  obtain ⟨a', cap', e, _, _, _, hel⟩ := h
  cases e
  obtain ⟨b, o, cs, h1, _, _, hat, hR⟩ := hel k x hx
  subst hR
  exact ⟨b, o, h1, by simpa using (hat.to (hb.block b (hat.lt (by simp)))).one⟩

/-- An item of a list that is read, as the walk wants its cells. -/
theorem RItems.at {F : Nat → Prop} {w wr : World} {a : Option Addr} {n cap : Nat} {L : List It} (h : RItems F w (.slice a n cap) L) (hb : Below w.heap.size w wr) {k : Nat} {x : It} (hx : L[k]? = some x) :
    ∃ b o, a = some ⟨b, o, none⟩ ∧ wr.cell? ⟨b, o + k * 3, none⟩ = some (.int .u8 x.c.toNat) ∧ wr.cell? ⟨b, o + k * 3 + 1, none⟩ = some (.int .i64 x.m) ∧ wr.cell? ⟨b, o + k * 3 + 2, none⟩ = some (str x.l) := by
  obtain ⟨a', cap', e, _, _, _, hel⟩ := h
  cases e
  obtain ⟨b, o, cs, h1, _, _, hat, hR⟩ := hel k x hx
  subst hR
  exact ⟨b, o, h1, (hat.to (hb.block b (hat.lt (by simp)))).three⟩

theorem RToks.at {F : Nat → Prop} {w wr : World} {a : Option Addr} {n cap : Nat} {L : List Tok} (h : RToks F w (.slice a n cap) L) (hb : Below w.heap.size w wr) {k : Nat} {x : Tok} (hx : L[k]? = some x) :
    ∃ b o, a = some ⟨b, o, none⟩ ∧ wr.cell? ⟨b, o + k * 4, none⟩ = some (.int .i64 x.k) ∧ wr.cell? ⟨b, o + k * 4 + 1, none⟩ = some (str x.name) ∧ wr.cell? ⟨b, o + k * 4 + 2, none⟩ = some (str x.text) ∧ wr.cell? ⟨b, o + k * 4 + 3, none⟩ = some (str x.href) := by
  obtain ⟨a', cap', e, _, _, _, hel⟩ := h
  cases e
  obtain ⟨b, o, cs, h1, _, _, hat, hR⟩ := hel k x hx
  subst hR
  exact ⟨b, o, h1, (hat.to (hb.block b (hat.lt (by simp)))).four⟩

theorem RdS.len {α : Type} {sz : Nat} {R : World → List Value → α → Prop} {F : Nat → Prop} {w : World} {v : Value} {L : List α} (h : RdS sz R F w v L) : ∃ a cap, v = .slice a L.length cap ∧ L.length ≤ 9223372036854775807 := by
  obtain ⟨a, cap, e, h1, h2, _⟩ := h
  exact ⟨a, cap, e, by unfold maxLen at h2; omega⟩

theorem elBytes : El Tryz.prog 41 5 1 1 (.int .u8 0) := ⟨Tryz.underlying41, by kernel_rfl, rfl, by decide⟩
/-- 'string(b)' of bytes that are read. -/
theorem run_string_of (F : Nat → Prop) (w : World) (v : Value) (l : Bs) (h : RBytes F w v l) : (convert 41 9 v).run Tryz.prog w = .ok (str l) w := by
  obtain ⟨a, cap, rfl, h1, h2, h3, h4⟩ := h
  cases a with
  | none =>
    have hl : l = [] := by
      cases l with
      | nil => rfl
      | cons x l => obtain ⟨_, _, _, h, _⟩ := h4 0 x rfl; simp at h
    subst hl
    exact run_convert_bytes_nil w 41 5 Tryz.underlying41 Tryz.underlying5 _ _ 9 Tryz.underlying9
  | some ad =>
    refine run_convert_bytes_back w 41 9 5 ad cap l Tryz.underlying41 Tryz.underlying5 Tryz.underlying9 fun j hj => ?_
    obtain ⟨b, o, cs, e, _, _, hat, hR⟩ := h4 j l[j] (List.getElem?_eq_getElem hj)
    subst hR
    cases e
    rw [Addr.add_lit]
    simpa using hat.one

/-- 'string(b)' in the walk, of bytes that are read. -/
theorem wpList_string_of {w : World} {ops : Array Oper} {rest : List Oper} {o : Oper} {a : Act} {Q : Exit → Act → World → Prop}
    (hg : o.guard = none) (x : Operand) (hop : o.op = Op.convert 41 9 x) (F : Nat → Prop) (v : Value) (l : Bs) (hx : a.eval x = v) (hr : RBytes F w v l)
    (hK : wpList Tryz.prog ops Q rest (a.put o.dst (str l)) w) : wpList Tryz.prog ops Q (o :: rest) a w := by
  refine wpList_plain hg fun K hK' => ?_
  have hrun := run_string_of F w v l hr
  unfold Oper.wp
  simp only [execOp, hop, hx]
  simp [hrun, Result.andThen]
  exact hK' _ _ hK

/-- .. of one byte in a new block. -/
theorem RBytes.one {F : Nat → Prop} {w : World} {c : UInt8} {e : TypeId} {g : Nat} (hg : g = w.heap.size) (hF : F g) : RBytes F (w.alloc (.cells #[.int .u8 c.toNat] e)) (.slice (some ⟨g, 0, none⟩) 1 1) [c] := by
  subst hg
  exact RdS.one [.int .u8 c.toNat] e rfl hF rfl

theorem under_Tok : Tryz.prog.underlying 115 = some (.struct (Tryz.prog.fieldsOf 115)) := by kernel_rfl
theorem held_Tok : Tryz.prog.stoodInHeld 115 = false := by kernel_rfl
theorem guard_Tok : Tryz.prog.eqGuardType Tryz.prog.depth 115 = false := by kernel_rfl
theorem fields_Tok : (Tryz.prog.fieldsOf 115).toList.map (fun f => (f.name, f.type, f.offset)) = [("Kind", 3, 0), ("Name", 9, 1), ("Text", 9, 2), ("Href", 9, 3)] := by kernel_rfl
theorem eqTok (x y : Tok) (w : World) : (Op.equalIn 10000 115 (.agg #[.int .i64 x.k, str x.name, str x.text, str x.href]) (.agg #[.int .i64 y.k, str y.name, str y.text, str y.href])).run Tryz.prog w = .ok (decide (x = y)) w := by
  rw [run_equalIn_struct w 9999 _ _ _ under_Tok held_Tok]
  rw [eqFields_map 9999 _ _ _ [fld "Kind" 3 0, fld "Name" 9 1, fld "Text" 9 2, fld "Href" 9 3] fields_Tok]
  simp [Op.eqFields, fld, go_sem, Tryz.underlying3, Tryz.underlying9]
  obtain ⟨c, m, l, r⟩ := x
  obtain ⟨c', m', l', r'⟩ := y
  simp only [Tok.mk.injEq]
  by_cases h1 : c = c' <;> by_cases h2 : m = m' <;> by_cases h3 : l = l' <;> by_cases h4 : r = r' <;> simp [h1, h2, h3, h4]

theorem neqTok (x y : Tok) (w : World) : (binOp .neq 115 (.agg #[.int .i64 x.k, str x.name, str x.text, str x.href]) (.agg #[.int .i64 y.k, str y.name, str y.text, str y.href])).run Tryz.prog w = .ok (.bool (!decide (x = y))) w := by
  rw [run_neq_struct, eqTok]; rfl

end Go.Proofs.YteikncnldbdfmaaGreatDoor
