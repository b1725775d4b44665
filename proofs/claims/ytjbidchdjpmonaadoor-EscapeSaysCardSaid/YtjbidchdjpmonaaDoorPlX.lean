/- Characters that mean something: written and read, in plain terms. No program in sight. -/
import Derived.Test.YtjbidchdjpmonaaDoorPlT
namespace Go.Mh

def wr1 (c : UInt8) : Bs := if c = 38 then eAmp else if c = 60 then eLt else if c = 62 then eGt else if c = 34 then eQuot else [c]
def writeE (s : Bs) : Bs := s.flatMap wr1
theorem writeE_nil : writeE [] = [] := rfl
theorem writeE_cons (c : UInt8) (s : Bs) : writeE (c :: s) = wr1 c ++ writeE s := by simp [writeE]
theorem writeE_append (s t : Bs) : writeE (s ++ t) = writeE s ++ writeE t := by simp [writeE]

theorem wr1_cases (c : UInt8) : (c = 38 ∧ wr1 c = eAmp) ∨ (c = 60 ∧ wr1 c = eLt) ∨ (c = 62 ∧ wr1 c = eGt) ∨ (c = 34 ∧ wr1 c = eQuot) ∨ (c ≠ 38 ∧ c ≠ 60 ∧ c ≠ 62 ∧ c ≠ 34 ∧ wr1 c = [c]) := by
  unfold wr1
  by_cases h1 : c = 38; · simp [h1]
  by_cases h2 : c = 60; · simp [h2]
  by_cases h3 : c = 62; · simp [h3]
  by_cases h4 : c = 34; · simp [h4]
  simp [h1, h2, h3, h4]

theorem read_wr1 (c : UInt8) (x : Bs) : readE (wr1 c ++ x) = c :: readE x := by
  rcases wr1_cases c with ⟨rfl, e⟩ | ⟨rfl, e⟩ | ⟨rfl, e⟩ | ⟨rfl, e⟩ | ⟨h1, _, _, _, e⟩
  · rw [e]; show readE (38 :: (97 :: 109 :: 112 :: 59 :: x)) = _; rw [readE_cons]; simp [first1, eAmp, List.isPrefixOf]
  · rw [e]; show readE (38 :: (108 :: 116 :: 59 :: x)) = _; rw [readE_cons]; simp [first1, eAmp, eLt, List.isPrefixOf]
  · rw [e]; show readE (38 :: (103 :: 116 :: 59 :: x)) = _; rw [readE_cons]; simp [first1, eAmp, eLt, eGt, List.isPrefixOf]
  · rw [e]; show readE (38 :: (113 :: 117 :: 111 :: 116 :: 59 :: x)) = _; rw [readE_cons]; simp [first1, eAmp, eLt, eGt, eQuot, List.isPrefixOf]
  · rw [e]
    show readE (c :: x) = _
    have hb : ((38 : UInt8) == c) = false := by simpa using fun h => h1 h.symm
    rw [readE_cons]; simp [first1, eAmp, eLt, eGt, eQuot, List.isPrefixOf, hb]

theorem read_write (s : Bs) : readE (writeE s) = s := by
  induction s with
  | nil => rfl
  | cons c s ih => rw [writeE_cons, read_wr1, ih]
theorem read_write_app (s t : Bs) : readE (writeE s ++ t) = s ++ readE t := by
  induction s with
  | nil => rfl
  | cons c s ih => rw [writeE_cons, List.append_assoc, read_wr1, ih]; rfl
theorem write_inj {s t : Bs} (h : writeE s = writeE t) : s = t := by rw [← read_write s, h, read_write]
theorem write_ne {s : Bs} (h : s ≠ []) : writeE s ≠ [] := fun e => h (write_inj (e.trans writeE_nil.symm))

theorem wr1_len (c : UInt8) : 1 ≤ (wr1 c).length ∧ (wr1 c).length ≤ 6 := by
  rcases wr1_cases c with ⟨_, e⟩ | ⟨_, e⟩ | ⟨_, e⟩ | ⟨_, e⟩ | ⟨_, _, _, _, e⟩ <;> rw [e] <;> simp [eAmp, eLt, eGt, eQuot]
theorem write_len (s : Bs) : s.length ≤ (writeE s).length ∧ (writeE s).length ≤ 6 * s.length := by
  induction s with
  | nil => simp [writeE]
  | cons c s ih => have := wr1_len c; rw [writeE_cons]; simp; omega
theorem wr1_safe (c : UInt8) : 60 ∉ wr1 c ∧ 62 ∉ wr1 c ∧ 34 ∉ wr1 c := by
  rcases wr1_cases c with ⟨_, e⟩ | ⟨_, e⟩ | ⟨_, e⟩ | ⟨_, e⟩ | ⟨_, h2, h3, h4, e⟩ <;> rw [e]
  · decide
  · decide
  · decide
  · decide
  · simp; exact ⟨fun h => h2 h.symm, fun h => h3 h.symm, fun h => h4 h.symm⟩
theorem write_safe (s : Bs) : 60 ∉ writeE s ∧ 62 ∉ writeE s ∧ 34 ∉ writeE s := by
  induction s with
  | nil => simp [writeE]
  | cons c s ih =>
    obtain ⟨a, b, d⟩ := wr1_safe c
    obtain ⟨e, f, g⟩ := ih
    rw [writeE_cons]
    exact ⟨fun h => by rcases List.mem_append.1 h with h | h; exact a h; exact e h, fun h => by rcases List.mem_append.1 h with h | h; exact b h; exact f h, fun h => by rcases List.mem_append.1 h with h | h; exact d h; exact g h⟩
theorem write_count (s : Bs) : (writeE s).length = s.length + 4 * s.count 38 + 3 * s.count 60 + 3 * s.count 62 + 5 * s.count 34 := by
  induction s with
  | nil => rfl
  | cons c s ih =>
    rw [writeE_cons, List.length_append, ih]
    rcases wr1_cases c with ⟨rfl, e⟩ | ⟨rfl, e⟩ | ⟨rfl, e⟩ | ⟨rfl, e⟩ | ⟨h1, h2, h3, h4, e⟩ <;> rw [e]
    · simp [eAmp]; omega
    · simp [eLt]; omega
    · simp [eGt]; omega
    · simp [eQuot]; omega
    · simp [h1, h2, h3, h4]; omega
theorem write_plain {s : Bs} (h : ∀ c ∈ s, c ≠ 38 ∧ c ≠ 60 ∧ c ≠ 62 ∧ c ≠ 34) : writeE s = s := by
  induction s with
  | nil => rfl
  | cons c s ih =>
    obtain ⟨h1, h2, h3, h4⟩ := h c (List.mem_cons_self ..)
    rw [writeE_cons, ih fun x hx => h x (List.mem_cons_of_mem _ hx)]
    simp [wr1, h1, h2, h3, h4]

/-- One character replaced by a text. -/
def rep1 (c : UInt8) (r s : Bs) : Bs := s.flatMap fun b => if b = c then r else [b]
theorem rep1_append (c : UInt8) (r s t : Bs) : rep1 c r (s ++ t) = rep1 c r s ++ rep1 c r t := by simp [rep1]
theorem rep1_nil (c : UInt8) (r : Bs) : rep1 c r [] = [] := rfl
theorem rep1_one (c : UInt8) (r : Bs) (b : UInt8) : rep1 c r [b] = if b = c then r else [b] := by simp [rep1]
/-- One after the other, as the program does it. -/
theorem write_rep (s : Bs) : rep1 34 eQuot (rep1 62 eGt (rep1 60 eLt (rep1 38 eAmp s))) = writeE s := by
  induction s with
  | nil => rfl
  | cons c s ih =>
    have e : (c :: s) = [c] ++ s := rfl
    rw [e, rep1_append, rep1_append, rep1_append, rep1_append, ih, writeE_append]
    congr 1
    rcases wr1_cases c with ⟨rfl, e⟩ | ⟨rfl, e⟩ | ⟨rfl, e⟩ | ⟨rfl, e⟩ | ⟨h1, h2, h3, h4, e⟩
    · decide
    · decide
    · decide
    · decide
    · simp [rep1, writeE, e, h1, h2, h3, h4]
end Go.Mh
