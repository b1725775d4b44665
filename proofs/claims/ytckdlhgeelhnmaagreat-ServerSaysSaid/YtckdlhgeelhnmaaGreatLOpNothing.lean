/- The law OpNothing, walked. -/
import Derived.Test.YtckdlhgeelhnmaaGreatOpened
import Derived.Test.YtckdlhgeelhnmaaGreatLDocSays
namespace Go.Mh
theorem apply_ok {d : List It} {o : List Pt} (h : (applyP d o).2 = 0) : chkDoc d = 0 ∧ chkDoc (applyP d o).1 = 0 := by
  unfold applyP at h
  split at h
  · rename_i h1; exact absurd h h1
  · rename_i h1
    split at h
    · rename_i h2; exact absurd h h2
    · rename_i h2
      split at h
      · exact absurd h (by decide)
      · rename_i h3
        split at h
        · exact absurd h (by decide)
        · rename_i h4
          have ha : Applies d o := ⟨by simpa using h1, by simpa using h2, by simpa using h3, by omega⟩
          rw [ha.eq]
          exact ⟨by simpa using h1, ha.res.1⟩
end Go.Mh
namespace Go.Proofs.YtckdlhgeelhnmaaGreat
open Go.RowKit Go.Mh

/-- A literal operation that keeps n. -/
theorem rop_keep (n : Nat) (w : World) : ROp (w.heap.size ≤ ·) (w.alloc (.cells #[.int .i64 1, .int .i64 n, .slice none 0 0, .int .i64 0, .int .i64 0, .bool false, .string ⟨#[]⟩] 112)) (.slice (some ⟨w.heap.size, 0, none⟩) 1 1) (keepAll n) := by
  refine ROp.lit (heap_new w _) rfl (by decide) (by decide) (Nat.le_refl _) (fun i x hi => ?_)
  match i, hi with
  | 0, hi => simp [keepAll] at hi; subst hi; exact ⟨_, RdS.nil, rfl, rfl, rfl, rfl, rfl, rfl, rfl⟩
  | n + 1, hi => simp [keepAll] at hi

end Go.Proofs.YtckdlhgeelhnmaaGreat
