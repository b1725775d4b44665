/- Two rows of acts of the call's own, side by side: what is appended to the one leaves the other. -/
import Derived.Test.YtgodceplajkcdaaRefU
namespace Go.Proofs.Ytgodceplajkcdaa
open Go.RowKit Go.Mh

structure TwoA (B : Nat) (w : World) (lv mv : Value) (X Y : List Ac) : Prop where
  l : OwnA B w lv X
  m : OwnA B w mv Y
  ne : ∀ k, lv.ownBlock = some k → mv.ownBlock ≠ some k
  hB : B ≤ w.heap.size
section
variable {B : Nat} {w w' : World} {lv mv : Value} {X Y : List Ac}
theorem TwoA.symm (T : TwoA B w lv mv X Y) : TwoA B w mv lv Y X := ⟨T.m, T.l, fun k hk hl => T.ne k hl hk, T.hB⟩
theorem TwoA.below (T : TwoA B w lv mv X Y) (hb : Below w.heap.size w w') : TwoA B w' lv mv X Y := ⟨T.l.to hb, T.m.to hb, T.ne, Nat.le_trans T.hB hb.size⟩
theorem TwoA.start (h : B ≤ w.heap.size) : TwoA B w (.slice none 0 0) (.slice none 0 0) [] [] := ⟨OwnS.nil, OwnS.nil, fun k hk => by simp [Value.ownBlock] at hk, h⟩
theorem TwoA.app (T : TwoA B w lv mv X Y) {v' : Value} {M : List Ac} (h1 : OwnA B w' v' (X ++ M)) (h2 : w.grownBy w' lv.ownBlock) (h4 : v'.ownBlock = lv.ownBlock ∨ v'.ownBlock = some w.heap.size) : TwoA B w' v' mv (X ++ M) Y := by
  refine ⟨h1, OwnS.to T.m ?_ (fun _ _ _ r => r), ?_, Nat.le_trans T.hB h2.size⟩
  · intro k hk hl
    exact h2.block k hl (fun e => T.ne k e.symm hk)
  · intro k hk hm
    rcases h4 with h4 | h4
    · exact T.ne k (h4 ▸ hk) hm
    · have := (own_ge T.m hm).2.1
      rw [h4] at hk
      have := Option.some.inj hk
      omega
end
theorem stepTwo {ops : Array Oper} {o : Oper} {a : Act} {w : World} {K : Act → World → Prop} {Q : Exit → Act → World → Prop} {E : Prop} (hgd : o.guard = none) (s x : Operand)
    (hop : o.op = .call { callee := .builtin .append, args := #[s, x], argTypes := #[123, 123] })
    {B : Nat} {lv mv : Value} {X Y : List Ac} (T : TwoA B w lv mv X Y) (hs : a.eval s = lv) {F : Nat → Prop} {M : List Ac} (xv : Value) (hx : a.eval x = xv) (hsrc : RActs F w xv M) (hlen : X.length + M.length ≤ 100000)
    (hK : ∀ v' w', TwoA B w' v' mv (X ++ M) Y → Below B w w' → w.grownBy w' lv.ownBlock → K (a.put o.dst v') w') :
    if Region.wanted o (yielded ops a.tmps) = true then Oper.wp Try.prog o a w K Q else E := by
  have hw : Region.wanted o (yielded ops a.tmps) = true := by simp [Region.wanted, hgd]
  rw [if_pos hw]
  obtain ⟨v', w', hrun, h1, h2, h3, h4⟩ := run_app (P := Try.prog) (w := w) 123 o.type B 126 11 120 _ elActs RAc lv X M T.l F xv hsrc RAc_one (by unfold maxLen; omega) (by omega) T.hB (fun _ _ _ _ _ r => r)
  unfold Oper.wp
  simp [execOp, hop, resolve, invoke, builtin, hs, hx, hrun, Result.andThen]
  exact hK v' w' (T.app h1 h2 h4) h3 h2
theorem wpListTwo {w : World} {ops : Array Oper} {rest : List Oper} {o : Oper} {a : Act} {Q : Exit → Act → World → Prop} (hgd : o.guard = none) (s x : Operand)
    (hop : o.op = .call { callee := .builtin .append, args := #[s, x], argTypes := #[123, 123] })
    {B : Nat} {lv mv : Value} {X Y : List Ac} (T : TwoA B w lv mv X Y) (hs : a.eval s = lv) {F : Nat → Prop} {M : List Ac} (xv : Value) (hx : a.eval x = xv) (hsrc : RActs F w xv M) (hlen : X.length + M.length ≤ 100000)
    (hK : ∀ v' w', TwoA B w' v' mv (X ++ M) Y → Below B w w' → w.grownBy w' lv.ownBlock → wpList Try.prog ops Q rest (a.put o.dst v') w') : wpList Try.prog ops Q (o :: rest) a w := by
  refine wpList_plain hgd fun K hK' => ?_
  obtain ⟨v', w', hrun, h1, h2, h3, h4⟩ := run_app (P := Try.prog) (w := w) 123 o.type B 126 11 120 _ elActs RAc lv X M T.l F xv hsrc RAc_one (by unfold maxLen; omega) (by omega) T.hB (fun _ _ _ _ _ r => r)
  unfold Oper.wp
  simp [execOp, hop, resolve, invoke, builtin, hs, hx, hrun, Result.andThen]
  exact hK' _ _ (hK v' w' (T.app h1 h2 h4) h3 h2)
end Go.Proofs.Ytgodceplajkcdaa
