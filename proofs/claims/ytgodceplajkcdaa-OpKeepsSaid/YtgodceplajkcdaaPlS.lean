/- Plain functions on texts: cuts, small letters, where one may be led to. No program in sight. -/
import Derived.Test.YtgodceplajkcdaaPl
import Derived.Lib.Bytealg
import Derived.Lib.IndexAny
namespace Go.Mh

def cut1 (c : UInt8) (l : Bs) : Bs × Bs × Bool :=
  if c ∈ l then (l.takeWhile (· != c), (l.dropWhile (· != c)).tail, true) else (l, [], false)

theorem indexByte_none {c : UInt8} : ∀ {l : Bs}, c ∉ l → Lib.indexByte l c = -1
  | [], _ => rfl
  | b :: l, h => by
    have h1 : (b == c) = false := by simp at h ⊢; exact fun e => h.1 e.symm
    have h2 : c ∉ l := fun hc => h (List.mem_cons_of_mem _ hc)
    simp [Lib.indexByte, h1, indexByte_none h2]

theorem indexByte_some {c : UInt8} : ∀ {l : Bs}, c ∈ l → Lib.indexByte l c = ((l.takeWhile (· != c)).length : Int)
  | b :: l, h => by
    by_cases hb : b = c
    · subst hb
      simp [Lib.indexByte]
    · have h1 : (b == c) = false := by simpa using hb
      have h2 : c ∈ l := by
        rcases List.mem_cons.1 h with h | h
        · exact absurd h.symm hb
        · exact h
      have ih := indexByte_some h2
      have h3 : ((l.takeWhile (· != c)).length : Int) ≠ -1 := by omega
      simp [Lib.indexByte, h1, ih, hb]

theorem take_takeWhile {α : Type} (p : α → Bool) : ∀ (l : List α), l.take (l.takeWhile p).length = l.takeWhile p
  | [] => rfl
  | b :: l => by
    by_cases hb : p b = true
    · simp [hb, take_takeWhile p l]
    · simp [hb]

theorem drop_takeWhile {α : Type} (p : α → Bool) : ∀ (l : List α), l.drop (l.takeWhile p).length = l.dropWhile p
  | [] => rfl
  | b :: l => by
    by_cases hb : p b = true
    · simp [hb, drop_takeWhile p l]
    · simp [hb]

theorem takeWhile_len_lt {c : UInt8} {l : Bs} (h : c ∈ l) : (l.takeWhile (· != c)).length < l.length := by
  induction l with
  | nil => simp at h
  | cons b l ih =>
    by_cases hb : b = c
    · subst hb; simp
    · have h2 : c ∈ l := by
        rcases List.mem_cons.1 h with h | h
        · exact absurd h.symm hb
        · exact h
      have := ih h2
      simp [hb, this]


theorem take_snoc_mem {α : Type} {p : α → Prop} {l : List α} {k : Nat} {x : α} (hk : l[k]? = some x) (h : ∀ y ∈ l.take k, p y) (hx : p x) : ∀ y ∈ l.take (k + 1), p y := by
  intro y hy
  rw [List.take_add_one, hk] at hy
  simp only [Option.toList_some, List.mem_append, List.mem_singleton] at hy
  rcases hy with hy | rfl
  · exact h y hy
  · exact hx

def lowB (c : UInt8) : UInt8 := if 65 ≤ c ∧ c ≤ 90 then c + 32 else c
def lower (l : Bs) : Bs := l.map lowB

theorem lowB_up {c : UInt8} (h1 : 65 ≤ (c.toNat : Int)) (h2 : (c.toNat : Int) ≤ 90) : ((lowB c).toNat : Int) = (c.toNat : Int) + 97 - 65 := by
  have a1 : (65 : UInt8) ≤ c := by rw [UInt8.le_iff_toNat_le]; show 65 ≤ c.toNat; omega
  have a2 : c ≤ (90 : UInt8) := by rw [UInt8.le_iff_toNat_le]; show c.toNat ≤ 90; omega
  simp [lowB, a1, a2]
  omega

theorem lowB_id {c : UInt8} (h : ¬ (65 ≤ (c.toNat : Int) ∧ (c.toNat : Int) ≤ 90)) : lowB c = c := by
  unfold lowB
  rw [if_neg]
  rintro ⟨a1, a2⟩
  rw [UInt8.le_iff_toNat_le] at a1 a2
  have : (65 : UInt8).toNat = 65 := rfl
  have : (90 : UInt8).toNat = 90 := rfl
  omega

/-- What stands ahead of the first colon, in small letters; nothing: none. -/
def scheme (s : Bs) : Bs :=
  if 58 ∈ s ∧ (s.takeWhile (· != 58)) ≠ [] ∧ Lib.containsAny (s.takeWhile (· != 58)) [47, 63, 35] = false then lower (s.takeWhile (· != 58)) else []

def okC (c : UInt8) : Bool := 32 < c && c ≤ 126 && c != 34 && c != 39 && c != 60 && c != 62 && c != 92 && c != 96

def sHttp : Bs := [104, 116, 116, 112]
def sHttps : Bs := [104, 116, 116, 112, 115]
def sMailto : Bs := [109, 97, 105, 108, 116, 111]

def may (s : Bs) : Bool := s != [] && decide (s.length ≤ 24) && s.all okC && [sHttp, sHttps, sMailto].contains (scheme s)

end Go.Mh
