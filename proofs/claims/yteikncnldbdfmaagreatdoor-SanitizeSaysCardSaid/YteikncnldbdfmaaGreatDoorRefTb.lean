/- The reference Tokens: its regions that call or store. -/
import Derived.Test.YteikncnldbdfmaaGreatDoorRefTa
import Derived.Test.YteikncnldbdfmaaGreatDoorRefTl
import Derived.Deep.MidRow
namespace Go.Proofs.YteikncnldbdfmaaGreatDoor
open Go.RowKit Go.Mh
set_option maxRecDepth 1000000 in
set_option maxHeartbeats 4000000 in
theorem tl13 (Q : Exit → Act → World → Prop) (w : World) {bb b0 o0 vc : Nat} {S : Bs} {fr : Array Value} {c0 c2 c3 c6 c7 c9 c10 c11 c12 c13 c14 c15 c16 c17 c18 : Value} (j : Nat) (hf : Frm 349 [c0, ptr bb, c2, c3, .func (.func 131) #[] #[ptr bb], .func (.func 132) #[] #[ptr bb], c6, c7, .int .i64 j, c9, c10, c11, c12, c13, c14, c15, c16, c17, c18] fr) (hsr : Src bb b0 o0 vc S w)
    (hp : ∀ (fr' : Array Value), Frm 349 [c0, ptr bb, c2, c3, .func (.func 131) #[] #[ptr bb], .func (.func 132) #[] #[ptr bb], c6, c7, .int .i64 j, .bool (at0 S j == 47), c10, c11, c12, c13, c14, c15, c16, c17, c18] fr' → Q .normal ⟨fr', []⟩ w) :
    Code.wp Tryz.prog (tokC [1, 1, 1, 1, 1, 0, 2, 2, 1, 2, 1, 1, 0]) Q ⟨fr, []⟩ w := by
  refine open349 hf ?_
  intros
  conv => arg 2; whnf
  have HAT := tkAt_any bb b0 o0 vc j S w hsr
  obtain ⟨q, hq⟩ : ∃ q, at0 S j = q := ⟨_, rfl⟩
  rw [hq] at HAT hp
  clear hq hsr
  by_cases h : q = 47
  · have t1 : ((q.toNat : Int) == 47) = true := by rw [h]; rfl
    rw [show (q == 47) = true by rw [h]; rfl] at hp
    clear h
    go_wp2_with fail
    refine HAT.mono ?_
    rintro e w3 ⟨rfl, hw3⟩
    replace hw3 := hw3.symm
    subst hw3
    go_wp2
    first | exact hp _ ⟨rfl, rfl⟩ | exact ⟨rfl, rfl⟩
  · have t1 : ((q.toNat : Int) == 47) = false := by rw [beq_eq_false_iff_ne]; intro e; exact h (UInt8.toNat_inj.1 (by show q.toNat = 47; omega))
    rw [show (q == 47) = false by simpa using h] at hp
    clear h
    go_wp2_with fail
    refine HAT.mono ?_
    rintro e w3 ⟨rfl, hw3⟩
    replace hw3 := hw3.symm
    subst hw3
    go_wp2
    first | exact hp _ ⟨rfl, rfl⟩ | exact ⟨rfl, rfl⟩
set_option maxRecDepth 1000000 in
set_option maxHeartbeats 4000000 in
theorem tl43 (Q : Exit → Act → World → Prop) (w : World) {bb b0 o0 vc : Nat} {S : Bs} {fr : Array Value} {c0 c2 c3 c6 c7 c8 c9 c10 c11 c12 c13 c14 c15 c16 c18 : Value} (j : Nat) (hf : Frm 349 [c0, ptr bb, c2, c3, .func (.func 131) #[] #[ptr bb], .func (.func 132) #[] #[ptr bb], c6, c7, c8, c9, c10, c11, c12, c13, c14, c15, c16, .int .i64 j, c18] fr) (hsr : Src bb b0 o0 vc S w)
    (hp : ∀ (fr' : Array Value), Frm 349 [c0, ptr bb, c2, c3, .func (.func 131) #[] #[ptr bb], .func (.func 132) #[] #[ptr bb], c6, c7, c8, c9, c10, c11, c12, c13, c14, c15, c16, .int .i64 j, c18] fr' → fr'.getD 250 undef = .bool (at0 S j == 61) → Q .normal ⟨fr', []⟩ w) :
    Code.wp Tryz.prog (tokC [1, 1, 1, 1, 1, 0, 2, 2, 1, 2, 1, 1, 1, 1, 1, 1, 1, 1, 1, 1, 0, 2, 2, 1, 2, 1, 1, 1, 1, 1, 1, 1, 0, 0]) Q ⟨fr, []⟩ w := by
  refine open349 hf ?_
  intros
  conv => arg 2; whnf
  have HAT := tkAt_any bb b0 o0 vc j S w hsr
  obtain ⟨q, hq⟩ : ∃ q, at0 S j = q := ⟨_, rfl⟩
  rw [hq] at HAT hp
  clear hq hsr
  by_cases h : q = 61
  · have t1 : ((q.toNat : Int) == 61) = true := by rw [h]; rfl
    rw [show (q == 61) = true by rw [h]; rfl] at hp
    clear h
    go_wp2_with fail
    refine HAT.mono ?_
    rintro e w3 ⟨rfl, hw3⟩
    replace hw3 := hw3.symm
    subst hw3
    go_wp2
    exact hp _ ⟨rfl, rfl⟩ rfl
  · have t1 : ((q.toNat : Int) == 61) = false := by rw [beq_eq_false_iff_ne]; intro e; exact h (UInt8.toNat_inj.1 (by show q.toNat = 61; omega))
    rw [show (q == 61) = false by simpa using h] at hp
    clear h
    go_wp2_with fail
    refine HAT.mono ?_
    rintro e w3 ⟨rfl, hw3⟩
    replace hw3 := hw3.symm
    subst hw3
    go_wp2
    exact hp _ ⟨rfl, rfl⟩ rfl
set_option maxRecDepth 1000000 in
set_option maxHeartbeats 4000000 in
theorem tl47 (Q : Exit → Act → World → Prop) (w : World) {bb b0 o0 vc : Nat} {S : Bs} {fr : Array Value} {c0 c2 c3 c6 c7 c8 c9 c10 c11 c12 c13 c14 c15 c16 c18 : Value} (j : Nat) (hf : Frm 349 [c0, ptr bb, c2, c3, .func (.func 131) #[] #[ptr bb], .func (.func 132) #[] #[ptr bb], c6, c7, c8, c9, c10, c11, c12, c13, c14, c15, c16, .int .i64 j, c18] fr) (hsr : Src bb b0 o0 vc S w)
    (hp : ∀ (fr' : Array Value), Frm 349 [c0, ptr bb, c2, c3, .func (.func 131) #[] #[ptr bb], .func (.func 132) #[] #[ptr bb], c6, c7, c8, c9, c10, c11, c12, c13, c14, c15, c16, .int .i64 j, .int .u8 (at0 S j).toNat] fr' → Q .normal ⟨fr', []⟩ w) :
    Code.wp Tryz.prog (tokC [1, 1, 1, 1, 1, 0, 2, 2, 1, 2, 1, 1, 1, 1, 1, 1, 1, 1, 1, 1, 0, 2, 2, 1, 2, 1, 1, 1, 1, 1, 1, 1, 0, 1, 3, 1, 1, 0]) Q ⟨fr, []⟩ w := by
  refine open349 hf ?_
  intros
  conv => arg 2; whnf
  have HAT := tkAt_any bb b0 o0 vc j S w hsr
  obtain ⟨q, hq⟩ : ∃ q, at0 S j = q := ⟨_, rfl⟩
  rw [hq] at HAT hp
  clear hq hsr
  go_wp2_with fail
  refine HAT.mono ?_
  rintro e w3 ⟨rfl, hw3⟩
  replace hw3 := hw3.symm
  subst hw3
  go_wp2
  first | exact hp _ ⟨rfl, rfl⟩ | exact ⟨rfl, rfl⟩
set_option maxRecDepth 1000000 in
set_option maxHeartbeats 4000000 in
theorem tl16 (Q : Exit → Act → World → Prop) (w : World) {bb b0 o0 vc : Nat} {S : Bs} {fr : Array Value} {c0 c2 c3 c7 c8 c9 c10 c11 c12 c13 c14 c15 c16 c17 c18 : Value} (i : Nat) (hf : Frm 349 [c0, ptr bb, c2, c3, .func (.func 131) #[] #[ptr bb], .func (.func 132) #[] #[ptr bb], .int .i64 i, c7, c8, c9, c10, c11, c12, c13, c14, c15, c16, c17, c18] fr) (hsr : Src bb b0 o0 vc S w) (hi : i < S.length)
    (hp : ∀ (fr' : Array Value), Frm 349 [c0, ptr bb, c2, c3, .func (.func 131) #[] #[ptr bb], .func (.func 132) #[] #[ptr bb], .int .i64 i, c7, c8, c9, c10, c11, c12, c13, c14, c15, c16, c17, c18] fr' → fr'.getD 64 undef = .bool (sCom.isPrefixOf (S.drop i)) → Q .normal ⟨fr', []⟩ w) :
    Code.wp Tryz.prog (tokC [1, 1, 1, 1, 1, 0, 2, 2, 1, 2, 1, 1, 1, 1, 0, 2, 0]) Q ⟨fr, []⟩ w := by
  refine open349 hf ?_
  intros
  conv => arg 2; whnf
  have hx := hsr.box
  have hvc : ¬ vc = i := by have := hsr.le; omega
  have hcv := src_conv hsr (i := i) (Nat.le_refl S.length) (vc - i)
  rw [List.take_length] at hcv
  have HP := Tryz.strings_HasPrefix ⟨(S.drop i).toArray⟩ ⟨#[60, 33, 45, 45]⟩ w
  obtain ⟨pb, hpb⟩ : ∃ pb, sCom.isPrefixOf (S.drop i) = pb := ⟨_, rfl⟩
  rw [show Lib.hasPrefix (⟨(S.drop i).toArray⟩ : ByteArray).data.toList (⟨#[60, 33, 45, 45]⟩ : ByteArray).data.toList = pb from hpb] at HP
  rw [hpb] at hp
  have hle := hsr.le
  clear hpb hsr
  go_wp2_with fail
  refine HP.mono ?_
  rintro e w3 ⟨rfl, hw3⟩
  replace hw3 := hw3.symm
  subst hw3
  go_wp2
  exact hp _ ⟨rfl, rfl⟩ rfl
set_option maxRecDepth 1000000 in
set_option maxHeartbeats 4000000 in
theorem tl17 (Q : Exit → Act → World → Prop) (w : World) {bb : Nat} {fr : Array Value} {c0 c2 c6 c7 c8 c9 c10 c11 c12 c13 c14 c15 c16 c17 c18 : Value} (out : List Tok) (oa : Option Addr) (oc B : Nat) (hf : Frm 349 [c0, ptr bb, c2, .slice oa out.length oc, .func (.func 131) #[] #[ptr bb], .func (.func 132) #[] #[ptr bb], c6, c7, c8, c9, c10, c11, c12, c13, c14, c15, c16, c17, c18] fr) (hown : OwnT B w (.slice oa out.length oc) out) (hB : B ≤ w.heap.size) (hout : out.length ≤ 20000)
    (hp : ∀ (fr' : Array Value) (w' : World) (pa : Option Addr) (pc : Nat), Frm 349 [c0, ptr bb, c2, .slice pa (out.length + 1) pc, .func (.func 131) #[] #[ptr bb], .func (.func 132) #[] #[ptr bb], c6, c7, c8, c9, c10, c11, c12, c13, c14, c15, c16, c17, c18] fr' → OwnT B w' (.slice pa (out.length + 1) pc) (out ++ [tOther]) → Below B w w' → Q .normal ⟨fr', []⟩ w') :
    Code.wp Tryz.prog (tokC [1, 1, 1, 1, 1, 0, 2, 2, 1, 2, 1, 1, 1, 1, 0, 2, 1, 3, 0]) Q ⟨fr, []⟩ w := by
  refine open349 hf ?_
  intros
  conv => arg 2; whnf
  have HB := brf w
  go_wp2_with (at_builtin; refine wpList_tok rfl (.tmp 70) (.tmp 72) rfl B _ _ out 4 [] [] [] rfl (own_tok hown (bal (brf _) _)) rfl (heap_new _ _) (by omega) (Nat.le_trans hB (bal HB _).size) ?_; intro pa pc wp hop hbp)
  go_wp2
  exact hp _ _ pa pc ⟨rfl, rfl⟩ hop (((bal HB _).mono hB).trans hbp)
set_option maxRecDepth 1000000 in
set_option maxHeartbeats 4000000 in
theorem tl20 (Q : Exit → Act → World → Prop) (w : World) {bb : Nat} {fr : Array Value} {c0 c2 c6 c7 c8 c9 c10 c11 c12 c13 c14 c15 c16 c17 c18 : Value} (out : List Tok) (oa : Option Addr) (oc B : Nat) (hf : Frm 349 [c0, ptr bb, c2, .slice oa out.length oc, .func (.func 131) #[] #[ptr bb], .func (.func 132) #[] #[ptr bb], c6, c7, c8, c9, c10, c11, c12, c13, c14, c15, c16, c17, c18] fr) (hown : OwnT B w (.slice oa out.length oc) out) (hB : B ≤ w.heap.size) (hout : out.length ≤ 20000)
    (hp : ∀ (fr' : Array Value) (w' : World) (pa : Option Addr) (pc : Nat), Frm 349 [c0, ptr bb, c2, .slice pa (out.length + 1) pc, .func (.func 131) #[] #[ptr bb], .func (.func 132) #[] #[ptr bb], c6, c7, c8, c9, c10, c11, c12, c13, c14, c15, c16, c17, c18] fr' → OwnT B w' (.slice pa (out.length + 1) pc) (out ++ [tOther]) → Below B w w' → Q .normal ⟨fr', []⟩ w') :
    Code.wp Tryz.prog (tokC [1, 1, 1, 1, 1, 0, 2, 2, 1, 2, 1, 1, 1, 1, 0, 2, 1, 4, 1, 3, 0]) Q ⟨fr, []⟩ w := by
  refine open349 hf ?_
  intros
  conv => arg 2; whnf
  have HB := brf w
  go_wp2_with (at_builtin; refine wpList_tok rfl (.tmp 100) (.tmp 102) rfl B _ _ out 4 [] [] [] rfl (own_tok hown (bal (brf _) _)) rfl (heap_new _ _) (by omega) (Nat.le_trans hB (bal HB _).size) ?_; intro pa pc wp hop hbp)
  go_wp2
  exact hp _ _ pa pc ⟨rfl, rfl⟩ hop (((bal HB _).mono hB).trans hbp)
set_option maxRecDepth 1000000 in
set_option maxHeartbeats 4000000 in
theorem tl23 (Q : Exit → Act → World → Prop) (w : World) {bb : Nat} {fr : Array Value} {c0 c2 c6 c7 c8 c9 c10 c11 c12 c13 c14 c15 c16 c17 c18 : Value} (out : List Tok) (oa : Option Addr) (oc B : Nat) (hf : Frm 349 [c0, ptr bb, c2, .slice oa out.length oc, .func (.func 131) #[] #[ptr bb], .func (.func 132) #[] #[ptr bb], c6, c7, c8, c9, c10, c11, c12, c13, c14, c15, c16, c17, c18] fr) (hown : OwnT B w (.slice oa out.length oc) out) (hB : B ≤ w.heap.size) (hout : out.length ≤ 20000)
    (hp : ∀ (fr' : Array Value) (w' : World) (pa : Option Addr) (pc : Nat), Frm 349 [c0, ptr bb, c2, .slice pa (out.length + 1) pc, .func (.func 131) #[] #[ptr bb], .func (.func 132) #[] #[ptr bb], c6, c7, c8, c9, c10, c11, c12, c13, c14, c15, c16, c17, c18] fr' → OwnT B w' (.slice pa (out.length + 1) pc) (out ++ [tText [60]]) → Below B w w' → Q .normal ⟨fr', []⟩ w') :
    Code.wp Tryz.prog (tokC [1, 1, 1, 1, 1, 0, 2, 2, 1, 2, 1, 1, 1, 1, 0, 2, 1, 4, 1, 4, 1, 3, 0]) Q ⟨fr, []⟩ w := by
  refine open349 hf ?_
  intros
  conv => arg 2; whnf
  have HB := brf w
  go_wp2_with (at_builtin; refine wpList_tok rfl (.tmp 120) (.tmp 122) rfl B _ _ out 1 [] [60] [] rfl (own_tok hown (bal (brf _) _)) rfl (heap_new _ _) (by omega) (Nat.le_trans hB (bal HB _).size) ?_; intro pa pc wp hop hbp)
  go_wp2
  exact hp _ _ pa pc ⟨rfl, rfl⟩ hop (((bal HB _).mono hB).trans hbp)
set_option maxRecDepth 1000000 in
set_option maxHeartbeats 4000000 in
theorem tl10 (Q : Exit → Act → World → Prop) (w : World) {bb b0 o0 vc : Nat} {S : Bs} {fr : Array Value} {c0 c2 c8 c9 c10 c11 c12 c13 c14 c15 c16 c17 c18 : Value} (i k : Nat) (out : List Tok) (oa : Option Addr) (oc B : Nat) (hf : Frm 349 [c0, ptr bb, c2, .slice oa out.length oc, .func (.func 131) #[] #[ptr bb], .func (.func 132) #[] #[ptr bb], .int .i64 i, .int .i64 k, c8, c9, c10, c11, c12, c13, c14, c15, c16, c17, c18] fr) (hsr : Src bb b0 o0 vc S w) (hik : i < k) (hk : k ≤ S.length) (hS : S.length ≤ 20000) (hown : OwnT B w (.slice oa out.length oc) out) (hB : B ≤ w.heap.size) (hout : out.length ≤ 20000)
    (hp : ∀ (fr' : Array Value) (w' : World) (pa : Option Addr) (pc : Nat), Frm 349 [c0, ptr bb, c2, .slice pa (out.length + 1) pc, .func (.func 131) #[] #[ptr bb], .func (.func 132) #[] #[ptr bb], .int .i64 i, .int .i64 k, c8, c9, c10, c11, c12, c13, c14, c15, c16, c17, c18] fr' → OwnT B w' (.slice pa (out.length + 1) pc) (out ++ [tText (readE ((S.take k).drop i))]) → Below B w w' → Q .normal ⟨fr', []⟩ w') :
    Code.wp Tryz.prog (tokC [1, 1, 1, 1, 1, 0, 2, 2, 1, 2, 0, 1, 3, 1, 1, 0]) Q ⟨fr, []⟩ w := by
  refine open349 hf ?_
  intros
  conv => arg 2; whnf
  have hx := hsr.box
  have hcv := src_conv hsr (i := i) hk (vc - i)
  have hle := hsr.le
  have hvc : ¬ vc = i := by omega
  have hkv : k ≤ vc := by omega
  clear hsr
  go_wp2_with fail
  refine (readSo_any ((S.take k).drop i) _ (by simp; omega)).mono ?_
  rintro e w3 ⟨rfl, HB⟩
  have hO3 := own_tok hown HB
  clear hcv
  go_wp2_with (at_builtin; refine wpList_tok rfl (.tmp 44) (.tmp 52) rfl B _ _ out 1 [] (readE ((S.take k).drop i)) [] rfl (own_tok hO3 (bal (brf _) _)) rfl (heap_new _ _) (by omega) (Nat.le_trans hB (bal HB _).size) ?_; intro pa pc wp hop hbp)
  go_wp2
  exact hp _ _ pa pc ⟨rfl, rfl⟩ hop (((bal HB _).mono hB).trans hbp)
set_option maxRecDepth 1000000 in
set_option maxHeartbeats 4000000 in
theorem tl18 (Q : Exit → Act → World → Prop) (w : World) {bb b0 o0 vc : Nat} {S : Bs} {fr : Array Value} {c0 c2 c3 c7 c8 c9 c10 c11 c12 c13 c14 c15 c16 c17 c18 : Value} (i : Nat) (hf : Frm 349 [c0, ptr bb, c2, c3, .func (.func 131) #[] #[ptr bb], .func (.func 132) #[] #[ptr bb], .int .i64 i, c7, c8, c9, c10, c11, c12, c13, c14, c15, c16, c17, c18] fr) (hsr : Src bb b0 o0 vc S w) (h4 : i + 4 ≤ S.length) (hS : S.length ≤ 20000) (hm : ∃ m, w.cell? ⟨2, 0, none⟩ = some (.int .i64 m))
    (hp : ∀ (fr' : Array Value), Frm 349 [c0, ptr bb, c2, c3, .func (.func 131) #[] #[ptr bb], .func (.func 132) #[] #[ptr bb], .int .i64 ((fnd S (i + 4) [45, 45, 62] : Nat) : Int), c7, c8, c9, c10, c11, c12, c13, c14, c15, c16, c17, c18] fr' → Q .normal ⟨fr', []⟩ w) :
    Code.wp Tryz.prog (tokC [1, 1, 1, 1, 1, 0, 2, 2, 1, 2, 1, 1, 1, 1, 0, 2, 1, 3, 1, 0]) Q ⟨fr, []⟩ w := by
  refine open349 hf ?_
  intros
  conv => arg 2; whnf
  have HF := tkFind_any bb b0 o0 vc (i + 4) S [45, 45, 62] w hsr h4 hS hm
  obtain ⟨n, hn⟩ : ∃ n, fnd S (i + 4) [45, 45, 62] = n := ⟨_, rfl⟩
  rw [hn] at HF hp
  clear hn hsr hm
  go_wp2_with fail
  refine HF.mono ?_
  rintro e w3 ⟨rfl, hw3⟩
  replace hw3 := hw3.symm
  subst hw3
  go_wp2
  first | exact hp _ ⟨rfl, rfl⟩ | exact ⟨rfl, rfl⟩
set_option maxRecDepth 1000000 in
set_option maxHeartbeats 4000000 in
theorem tl21 (Q : Exit → Act → World → Prop) (w : World) {bb b0 o0 vc : Nat} {S : Bs} {fr : Array Value} {c0 c2 c3 c7 c8 c9 c10 c11 c12 c13 c14 c15 c16 c17 c18 : Value} (i : Nat) (hf : Frm 349 [c0, ptr bb, c2, c3, .func (.func 131) #[] #[ptr bb], .func (.func 132) #[] #[ptr bb], .int .i64 i, c7, c8, c9, c10, c11, c12, c13, c14, c15, c16, c17, c18] fr) (hsr : Src bb b0 o0 vc S w) (h4 : i ≤ S.length) (hS : S.length ≤ 20000) (hm : ∃ m, w.cell? ⟨2, 0, none⟩ = some (.int .i64 m))
    (hp : ∀ (fr' : Array Value), Frm 349 [c0, ptr bb, c2, c3, .func (.func 131) #[] #[ptr bb], .func (.func 132) #[] #[ptr bb], .int .i64 ((fnd S i [62] : Nat) : Int), c7, c8, c9, c10, c11, c12, c13, c14, c15, c16, c17, c18] fr' → Q .normal ⟨fr', []⟩ w) :
    Code.wp Tryz.prog (tokC [1, 1, 1, 1, 1, 0, 2, 2, 1, 2, 1, 1, 1, 1, 0, 2, 1, 4, 1, 3, 1, 0]) Q ⟨fr, []⟩ w := by
  refine open349 hf ?_
  intros
  conv => arg 2; whnf
  have HF := tkFind_any bb b0 o0 vc i S [62] w hsr h4 hS hm
  obtain ⟨n, hn⟩ : ∃ n, fnd S i [62] = n := ⟨_, rfl⟩
  rw [hn] at HF hp
  clear hn hsr hm
  go_wp2_with fail
  refine HF.mono ?_
  rintro e w3 ⟨rfl, hw3⟩
  replace hw3 := hw3.symm
  subst hw3
  go_wp2
  first | exact hp _ ⟨rfl, rfl⟩ | exact ⟨rfl, rfl⟩
set_option maxRecDepth 1000000 in
set_option maxHeartbeats 4000000 in
theorem tl22 (Q : Exit → Act → World → Prop) (w : World) {bb b0 o0 vc : Nat} {S : Bs} {fr : Array Value} {c0 c2 c3 c6 c7 c9 c10 c11 c12 c13 c14 c15 c16 c17 c18 : Value} (j : Nat) (hf : Frm 349 [c0, ptr bb, c2, c3, .func (.func 131) #[] #[ptr bb], .func (.func 132) #[] #[ptr bb], c6, c7, .int .i64 j, c9, c10, c11, c12, c13, c14, c15, c16, c17, c18] fr) (hsr : Src bb b0 o0 vc S w)
    (hp : ∀ (fr' : Array Value) (w' : World), Frm 349 [c0, ptr bb, c2, c3, .func (.func 131) #[] #[ptr bb], .func (.func 132) #[] #[ptr bb], c6, c7, .int .i64 j, c9, c10, c11, c12, c13, c14, c15, c16, c17, c18] fr' → fr'.getD 107 undef = .bool (!(isLt (at0 S j))) → Below w.heap.size w w' → Q .normal ⟨fr', []⟩ w') :
    Code.wp Tryz.prog (tokC [1, 1, 1, 1, 1, 0, 2, 2, 1, 2, 1, 1, 1, 1, 0, 2, 1, 4, 1, 4, 0]) Q ⟨fr, []⟩ w := by
  refine open349 hf ?_
  intros
  conv => arg 2; whnf
  have hx := hsr.box
  by_cases hl2 : j < S.length
  · obtain ⟨d, hd⟩ : ∃ d, S[j]? = some d := ⟨_, List.getElem?_eq_getElem hl2⟩
    have hr2 := hsr.at' j d hd
    rw [at0_in hd] at hp
    clear hd hsr
    have HL := refLetter_any d w
    obtain ⟨z, hz⟩ : ∃ z, isLt d = z := ⟨_, rfl⟩
    rw [hz] at HL hp
    clear hz
    cases z
    · go_wp2_with fail
      refine HL.mono ?_
      rintro e w3 ⟨rfl, hb3⟩
      go_wp2
      exact hp _ _ ⟨rfl, rfl⟩ rfl hb3
    · go_wp2_with fail
      refine HL.mono ?_
      rintro e w3 ⟨rfl, hb3⟩
      go_wp2
      refine hp _ _ ⟨rfl, rfl⟩ ?_ hb3
      conv => lhs; whnf
      simp
      omega
  · rw [at0_out (by omega)] at hp
    clear hsr
    go_wp2
    exact hp _ _ ⟨rfl, rfl⟩ rfl (brf _)
set_option maxRecDepth 1000000 in
set_option maxHeartbeats 4000000 in
theorem tl28 (Q : Exit → Act → World → Prop) (w : World) {bb b0 o0 vc : Nat} {S : Bs} {fr : Array Value} {c0 c2 c3 c6 c7 c9 c11 c12 c13 c14 c15 c16 c17 c18 : Value} (i k : Nat) (hf : Frm 349 [c0, ptr bb, c2, c3, .func (.func 131) #[] #[ptr bb], .func (.func 132) #[] #[ptr bb], c6, c7, .int .i64 i, c9, .int .i64 k, c11, c12, c13, c14, c15, c16, c17, c18] fr) (hsr : Src bb b0 o0 vc S w) (hi : i < S.length) (hik : i ≤ k) (hk : k ≤ S.length) (hS : S.length ≤ 20000)
    (hp : ∀ (fr' : Array Value) (w' : World) (bt : Nat), Frm 349 [c0, ptr bb, c2, c3, .func (.func 131) #[] #[ptr bb], .func (.func 132) #[] #[ptr bb], c6, c7, .int .i64 i, c9, .int .i64 k, ptr bt, c12, c13, c14, c15, c16, c17, c18] fr' → w.heap.size ≤ bt → w'.heap[bt]? = some (.cells #[.int .i64 2, str (lower ((S.take k).drop i)), str [], str []] 115 (0, 0)) → Below w.heap.size w w' → Q .normal ⟨fr', []⟩ w') :
    Code.wp Tryz.prog (tokC [1, 1, 1, 1, 1, 0, 2, 2, 1, 2, 1, 1, 1, 1, 1, 1, 1, 0]) Q ⟨fr, []⟩ w := by
  refine open349 hf ?_
  intros
  conv => arg 2; whnf
  have hx := hsr.box
  have hcv := src_conv hsr (i := i) hk (vc - i)
  have hle := hsr.le
  have hvc : ¬ vc = i := by omega
  have hkv : k ≤ vc := by omega
  clear hsr
  go_wp2_with fail
  refine (small_walk ((S.take k).drop i) _ (by simp [maxLen]; omega)).mono ?_
  rintro e w3 ⟨rfl, hb3⟩
  clear hcv
  go_wp2
  apply hp
  · exact ⟨rfl, rfl⟩
  · exact hb3.size
  · exact heap_new _ _
  · exact bal hb3 _
set_option maxRecDepth 1000000 in
set_option maxHeartbeats 4000000 in
theorem tl30 (Q : Exit → Act → World → Prop) (w : World) {bb : Nat} {fr : Array Value} {c0 c2 c3 c6 c7 c8 c9 c10 c12 c13 c14 c15 c16 c17 c18 : Value} (bt : Nat) (n : Bs) (hf : Frm 349 [c0, ptr bb, c2, c3, .func (.func 131) #[] #[ptr bb], .func (.func 132) #[] #[ptr bb], c6, c7, c8, c9, c10, ptr bt, c12, c13, c14, c15, c16, c17, c18] fr) (hT : w.heap[bt]? = some (.cells #[.int .i64 2, str n, str [], str []] 115 (0, 0)))
    (hp : ∀ (fr' : Array Value) (w' : World), Frm 349 [c0, ptr bb, c2, c3, .func (.func 131) #[] #[ptr bb], .func (.func 132) #[] #[ptr bb], c6, c7, c8, c9, c10, ptr bt, c12, c13, c14, c15, c16, c17, c18] fr' → w'.heap[bt]? = some (.cells #[.int .i64 3, str n, str [], str []] 115 (0, 0)) → Below bt w w' → Q .normal ⟨fr', []⟩ w') :
    Code.wp Tryz.prog (tokC [1, 1, 1, 1, 1, 0, 2, 2, 1, 2, 1, 1, 1, 1, 1, 1, 1, 1, 0, 1, 3]) Q ⟨fr, []⟩ w := by
  refine open349 hf ?_
  intros
  conv => arg 2; whnf
  have hc := cellAt' (i := 0) hT rfl
  have hfz : ∀ i, w.frozen? ⟨bt, i, none⟩ = false := fun i => Lib.frozen_of_heap hT _
  go_wp2
  exact hp _ _ ⟨rfl, rfl⟩ (by simpa using heap_set (i := 0) (.int .i64 3) hT) ((Below.refl bt w).setCell (p := ⟨bt, 0, none⟩) (Nat.le_refl _) _)
set_option maxRecDepth 1000000 in
set_option maxHeartbeats 4000000 in
theorem tl39 (Q : Exit → Act → World → Prop) (w : World) {bb b0 o0 vc : Nat} {S : Bs} {fr : Array Value} {c0 c2 c3 c6 c7 c8 c9 c11 c12 c13 c15 c16 c17 c18 : Value} (i k : Nat) (hf : Frm 349 [c0, ptr bb, c2, c3, .func (.func 131) #[] #[ptr bb], .func (.func 132) #[] #[ptr bb], c6, c7, c8, c9, .int .i64 k, c11, c12, c13, .int .i64 i, c15, c16, c17, c18] fr) (hsr : Src bb b0 o0 vc S w) (hi : i < S.length) (hik : i ≤ k) (hk : k ≤ S.length) (hS : S.length ≤ 20000)
    (hp : ∀ (fr' : Array Value) (w' : World), Frm 349 [c0, ptr bb, c2, c3, .func (.func 131) #[] #[ptr bb], .func (.func 132) #[] #[ptr bb], c6, c7, c8, c9, .int .i64 k, c11, c12, c13, .int .i64 i, str (lower ((S.take k).drop i)), str [], c17, c18] fr' → Below w.heap.size w w' → Q .normal ⟨fr', []⟩ w') :
    Code.wp Tryz.prog (tokC [1, 1, 1, 1, 1, 0, 2, 2, 1, 2, 1, 1, 1, 1, 1, 1, 1, 1, 1, 1, 0, 2, 2, 1, 2, 1, 1, 1, 1, 0]) Q ⟨fr, []⟩ w := by
  refine open349 hf ?_
  intros
  conv => arg 2; whnf
  have hx := hsr.box
  have hcv := src_conv hsr (i := i) hk (vc - i)
  have hle := hsr.le
  have hvc : ¬ vc = i := by omega
  have hkv : k ≤ vc := by omega
  clear hsr
  go_wp2_with fail
  refine (small_walk ((S.take k).drop i) _ (by simp [maxLen]; omega)).mono ?_
  rintro e w3 ⟨rfl, hb3⟩
  clear hcv
  go_wp2
  exact hp _ _ ⟨rfl, rfl⟩ hb3
set_option maxRecDepth 1000000 in
set_option maxHeartbeats 4000000 in
theorem tl56 (Q : Exit → Act → World → Prop) (w : World) {bb b0 o0 vc : Nat} {S : Bs} {fr : Array Value} {c0 c2 c3 c6 c7 c8 c9 c11 c12 c13 c14 c15 c16 c18 : Value} (i k : Nat) (hf : Frm 349 [c0, ptr bb, c2, c3, .func (.func 131) #[] #[ptr bb], .func (.func 132) #[] #[ptr bb], c6, c7, c8, c9, .int .i64 k, c11, c12, c13, c14, c15, c16, .int .i64 i, c18] fr) (hsr : Src bb b0 o0 vc S w) (hik : i ≤ k) (hk : k ≤ S.length)
    (hp : ∀ (fr' : Array Value), Frm 349 [c0, ptr bb, c2, c3, .func (.func 131) #[] #[ptr bb], .func (.func 132) #[] #[ptr bb], c6, c7, c8, c9, .int .i64 k, c11, c12, c13, c14, c15, str ((S.take k).drop i), .int .i64 i, c18] fr' → Q .normal ⟨fr', []⟩ w) :
    Code.wp Tryz.prog (tokC [1, 1, 1, 1, 1, 0, 2, 2, 1, 2, 1, 1, 1, 1, 1, 1, 1, 1, 1, 1, 0, 2, 2, 1, 2, 1, 1, 1, 1, 1, 1, 1, 0, 1, 3, 1, 1, 1, 1, 4, 1, 1]) Q ⟨fr, []⟩ w := by
  refine open349 hf ?_
  intros
  conv => arg 2; whnf
  have hx := hsr.box
  by_cases hvc : vc = i
  · have hle := hsr.le
    have hik2 : k = i := by omega
    have hs : (S.take k).drop i = [] := by rw [hik2]; simp
    have hcv := fun a c => conv_empty a c w
    rw [hs] at hp
    clear hs hsr
    subst hik2
    go_wp2
    first | exact hp _ ⟨rfl, rfl⟩ | exact ⟨rfl, rfl⟩
  · have hcv := src_conv hsr (i := i) hk (vc - i)
    have hle := hsr.le
    have hkv : k ≤ vc := by omega
    clear hsr
    go_wp2
    first | exact hp _ ⟨rfl, rfl⟩ | exact ⟨rfl, rfl⟩
set_option maxRecDepth 1000000 in
set_option maxHeartbeats 4000000 in
theorem tl50 (Q : Exit → Act → World → Prop) (w : World) {bb b0 o0 vc : Nat} {S : Bs} {fr : Array Value} {c0 c2 c3 c6 c7 c8 c9 c11 c12 c13 c14 c15 c16 c18 : Value} (j k : Nat) (hf : Frm 349 [c0, ptr bb, c2, c3, .func (.func 131) #[] #[ptr bb], .func (.func 132) #[] #[ptr bb], c6, c7, c8, c9, .int .i64 k, c11, c12, c13, c14, c15, c16, .int .i64 j, c18] fr) (hsr : Src bb b0 o0 vc S w) (hjk : j + 1 ≤ k) (hk : k ≤ S.length) (hS : S.length ≤ 20000)
    (hp : ∀ (fr' : Array Value), Frm 349 [c0, ptr bb, c2, c3, .func (.func 131) #[] #[ptr bb], .func (.func 132) #[] #[ptr bb], c6, c7, c8, c9, .int .i64 k, c11, c12, c13, c14, c15, str ((S.take k).drop (j + 1)), .int .i64 j, c18] fr' → Q .normal ⟨fr', []⟩ w) :
    Code.wp Tryz.prog (tokC [1, 1, 1, 1, 1, 0, 2, 2, 1, 2, 1, 1, 1, 1, 1, 1, 1, 1, 1, 1, 0, 2, 2, 1, 2, 1, 1, 1, 1, 1, 1, 1, 0, 1, 3, 1, 1, 1, 1, 3, 1, 0]) Q ⟨fr, []⟩ w := by
  refine open349 hf ?_
  intros
  conv => arg 2; whnf
  have hx := hsr.box
  by_cases hvc : vc = j + 1
  · have hle := hsr.le
    have hik2 : k = j + 1 := by omega
    have hs : (S.take k).drop (j + 1) = [] := by rw [hik2]; simp
    have hcv := fun a c => conv_empty a c w
    rw [hs] at hp
    clear hs hsr
    subst hik2
    go_wp2
    first | exact hp _ ⟨rfl, rfl⟩ | exact ⟨rfl, rfl⟩
  · have hcv := src_conv hsr (i := j + 1) hk (vc - (j + 1))
    have hle := hsr.le
    have hkv : k ≤ vc := by omega
    clear hsr
    go_wp2
    first | exact hp _ ⟨rfl, rfl⟩ | exact ⟨rfl, rfl⟩
set_option maxRecDepth 1000000 in
set_option maxHeartbeats 4000000 in
theorem tl49 (Q : Exit → Act → World → Prop) (w : World) {bb b0 o0 vc : Nat} {S : Bs} {fr : Array Value} {c0 c2 c3 c6 c7 c8 c9 c10 c11 c12 c13 c14 c15 c16 : Value} (j : Nat) (q : UInt8) (hf : Frm 349 [c0, ptr bb, c2, c3, .func (.func 131) #[] #[ptr bb], .func (.func 132) #[] #[ptr bb], c6, c7, c8, c9, c10, c11, c12, c13, c14, c15, c16, .int .i64 j, .int .u8 q.toNat] fr) (hsr : Src bb b0 o0 vc S w) (hj : j + 1 ≤ S.length) (hS : S.length ≤ 20000) (hm : ∃ m, w.cell? ⟨2, 0, none⟩ = some (.int .i64 m))
    (hp : ∀ (fr' : Array Value) (w' : World), Frm 349 [c0, ptr bb, c2, c3, .func (.func 131) #[] #[ptr bb], .func (.func 132) #[] #[ptr bb], c6, c7, c8, c9, .int .i64 ((fnd S (j + 1) [q] : Nat) : Int), c11, c12, c13, c14, c15, c16, .int .i64 j, .int .u8 q.toNat] fr' → Below w.heap.size w w' → Q .normal ⟨fr', []⟩ w') :
    Code.wp Tryz.prog (tokC [1, 1, 1, 1, 1, 0, 2, 2, 1, 2, 1, 1, 1, 1, 1, 1, 1, 1, 1, 1, 0, 2, 2, 1, 2, 1, 1, 1, 1, 1, 1, 1, 0, 1, 3, 1, 1, 1, 1, 3, 0]) Q ⟨fr, []⟩ w := by
  refine open349 hf ?_
  intros
  conv => arg 2; whnf
  have HS := Lib.hid hsr
  obtain ⟨m, hm⟩ := hm
  have HM := Lib.hid hm
  have hcq : ∀ w1 : World, w1.cell? ⟨w.heap.size, 0, none⟩ = some (.int .u8 q.toNat) → (convert 41 9 (.slice (some ⟨w.heap.size, 0, none⟩) 1 1)).run Tryz.prog w1 = .ok (str [q]) w1 := fun w1 h1 =>
    run_convert_bytes_back w1 41 9 5 ⟨w.heap.size, 0, none⟩ 1 [q] Tryz.underlying41 Tryz.underlying5 Tryz.underlying9 fun i hi => by
      obtain rfl : i = 0 := by simp at hi; omega
      exact h1
  have hcv := hcq (w.alloc (.cells #[.int .u8 q.toNat] 5)) (cellAt' (heap_new _ _) rfl)
  clear hcq hsr hm
  go_wp2_with fail
  refine (tkFind_any bb b0 o0 vc (j + 1) S [q] _ (HS.out.to (bal (brf _) _)) hj hS ⟨m, ((bal (brf w) _).cell (lt_of_cell HM.out)).trans HM.out⟩).mono ?_
  rintro e w3 ⟨rfl, hw3⟩
  obtain ⟨n, hn⟩ : ∃ n, fnd S (j + 1) [q] = n := ⟨_, rfl⟩
  rw [hn] at hp ⊢
  clear hn
  go_wp2
  exact hp _ _ ⟨rfl, rfl⟩ (by first | exact bal (brf _) _ | (rw [hw3]; exact bal (brf _) _))
set_option maxRecDepth 1000000 in
set_option maxHeartbeats 4000000 in
theorem tl51 (Q : Exit → Act → World → Prop) (w : World) {bb : Nat} {fr : Array Value} {c0 c2 c3 c6 c7 c8 c9 c10 c11 c12 c13 c14 c15 c17 : Value} (v : Bs) (q : UInt8) (hf : Frm 349 [c0, ptr bb, c2, c3, .func (.func 131) #[] #[ptr bb], .func (.func 132) #[] #[ptr bb], c6, c7, c8, c9, c10, c11, c12, c13, c14, c15, str v, c17, .int .u8 q.toNat] fr) (hl : v.length ≤ 20000)
    (hp : ∀ (fr' : Array Value) (w' : World), Frm 349 [c0, ptr bb, c2, c3, .func (.func 131) #[] #[ptr bb], .func (.func 132) #[] #[ptr bb], c6, c7, c8, c9, c10, c11, c12, c13, c14, c15, str v, c17, .int .u8 q.toNat] fr' → fr'.getD 292 undef = .bool ([q].isSuffixOf v) → Below w.heap.size w w' → Q .normal ⟨fr', []⟩ w') :
    Code.wp Tryz.prog (tokC [1, 1, 1, 1, 1, 0, 2, 2, 1, 2, 1, 1, 1, 1, 1, 1, 1, 1, 1, 1, 0, 2, 2, 1, 2, 1, 1, 1, 1, 1, 1, 1, 0, 1, 3, 1, 1, 1, 1, 3, 1, 1, 0]) Q ⟨fr, []⟩ w := by
  refine open349 hf ?_
  intros
  conv => arg 2; whnf
  have hcq : ∀ w1 : World, w1.cell? ⟨w.heap.size, 0, none⟩ = some (.int .u8 q.toNat) → (convert 41 9 (.slice (some ⟨w.heap.size, 0, none⟩) 1 1)).run Tryz.prog w1 = .ok (str [q]) w1 := fun w1 h1 =>
    run_convert_bytes_back w1 41 9 5 ⟨w.heap.size, 0, none⟩ 1 [q] Tryz.underlying41 Tryz.underlying5 Tryz.underlying9 fun i hi => by
      obtain rfl : i = 0 := by simp at hi; omega
      exact h1
  have hcv := hcq (w.alloc (.cells #[.int .u8 q.toNat] 5)) (cellAt' (heap_new _ _) rfl)
  clear hcq
  have HP := fun w1 => Tryz.strings_HasSuffix ⟨v.toArray⟩ ⟨#[q]⟩ w1
  obtain ⟨pb, hpb⟩ : ∃ pb, [q].isSuffixOf v = pb := ⟨_, rfl⟩
  have e2 : Lib.hasSuffix (⟨v.toArray⟩ : ByteArray).data.toList (⟨#[q]⟩ : ByteArray).data.toList = pb := hpb
  rw [e2] at HP
  rw [hpb] at hp
  clear e2 hpb
  go_wp2_with fail
  refine (HP _ (by show v.length ≤ 9223372036854775807; omega)).mono ?_
  rintro e w3 ⟨rfl, hw3⟩
  go_wp2
  exact hp _ _ ⟨rfl, rfl⟩ rfl (by first | exact bal (brf _) _ | (rw [hw3]; exact bal (brf _) _))
set_option maxRecDepth 1000000 in
set_option maxHeartbeats 4000000 in
theorem tl52 (Q : Exit → Act → World → Prop) (w : World) {bb : Nat} {fr : Array Value} {c0 c2 c3 c6 c7 c8 c9 c10 c11 c12 c13 c14 c15 c17 c18 : Value} (v : Bs) (hf : Frm 349 [c0, ptr bb, c2, c3, .func (.func 131) #[] #[ptr bb], .func (.func 132) #[] #[ptr bb], c6, c7, c8, c9, c10, c11, c12, c13, c14, c15, str v, c17, c18] fr) (hv : 1 ≤ v.length) (hl : v.length ≤ 20000)
    (hp : ∀ (fr' : Array Value), Frm 349 [c0, ptr bb, c2, c3, .func (.func 131) #[] #[ptr bb], .func (.func 132) #[] #[ptr bb], c6, c7, c8, c9, c10, c11, c12, c13, c14, c15, str (v.take (v.length - 1)), c17, c18] fr' → Q .normal ⟨fr', []⟩ w) :
    Code.wp Tryz.prog (tokC [1, 1, 1, 1, 1, 0, 2, 2, 1, 2, 1, 1, 1, 1, 1, 1, 1, 1, 1, 1, 0, 2, 2, 1, 2, 1, 1, 1, 1, 1, 1, 1, 0, 1, 3, 1, 1, 1, 1, 3, 1, 1, 1, 3]) Q ⟨fr, []⟩ w := by
  refine open349 hf ?_
  intros
  conv => arg 2; whnf
  have hcut := str_upto v (v.length - 1)
  have e1 : ((v.length : Int) - 1) = ((v.length - 1 : Nat) : Int) := by omega
  go_wp2
  first | exact hp _ ⟨rfl, rfl⟩ | exact ⟨rfl, rfl⟩
set_option maxRecDepth 1000000 in
set_option maxHeartbeats 4000000 in
theorem tl63 (Q : Exit → Act → World → Prop) (w : World) {bb : Nat} {fr : Array Value} {c0 c2 c3 c6 c7 c8 c9 c10 c13 c14 c15 c16 c17 c18 : Value} (h n : Bs) (bt : Nat) (kd : Int) (hf : Frm 349 [c0, ptr bb, c2, c3, .func (.func 131) #[] #[ptr bb], .func (.func 132) #[] #[ptr bb], c6, c7, c8, c9, c10, ptr bt, str h, c13, c14, c15, c16, c17, c18] fr) (hh : h.length ≤ 120000) (hlt : bt < w.heap.size) (hT : w.heap[bt]? = some (.cells #[.int .i64 kd, str n, str [], str []] 115 (0, 0)))
    (hp : ∀ (fr' : Array Value) (w' : World), Frm 349 [c0, ptr bb, c2, c3, .func (.func 131) #[] #[ptr bb], .func (.func 132) #[] #[ptr bb], c6, c7, c8, c9, c10, ptr bt, str h, c13, c14, c15, c16, c17, c18] fr' → w'.heap[bt]? = some (.cells #[.int .i64 kd, str n, str [], str (readE h)] 115 (0, 0)) → Below bt w w' → Q .normal ⟨fr', []⟩ w') :
    Code.wp Tryz.prog (tokC [1, 1, 1, 1, 1, 0, 2, 2, 1, 2, 1, 1, 1, 1, 1, 1, 1, 1, 1, 1, 1, 1, 0, 1, 1, 3]) Q ⟨fr, []⟩ w := by
  refine open349 hf ?_
  intros
  conv => arg 2; whnf
  go_wp2_with fail
  refine (readSo_any h _ hh).mono ?_
  rintro e w3 ⟨rfl, hb3⟩
  have hT3 := (hb3.block bt hlt).trans hT
  have hc := cellAt' (i := 3) hT3 rfl
  have hfz : ∀ i, w3.frozen? ⟨bt, i, none⟩ = false := fun i => Lib.frozen_of_heap hT3 _
  go_wp2
  apply hp
  · exact ⟨rfl, rfl⟩
  · simpa using heap_set (i := 3) (str (readE h)) hT3
  · exact (hb3.mono (Nat.le_of_lt hlt)).setCell (p := ⟨bt, 3, none⟩) (Nat.le_refl _) _
set_option maxRecDepth 1000000 in
set_option maxHeartbeats 4000000 in
theorem tl64 (Q : Exit → Act → World → Prop) (w : World) {bb : Nat} {fr : Array Value} {c0 c2 c6 c7 c8 c9 c10 c12 c13 c14 c15 c16 c17 c18 : Value} (bt : Nat) (kd : Int) (n h : Bs) (out : List Tok) (oa : Option Addr) (oc B : Nat) (hf : Frm 349 [c0, ptr bb, c2, .slice oa out.length oc, .func (.func 131) #[] #[ptr bb], .func (.func 132) #[] #[ptr bb], c6, c7, c8, c9, c10, ptr bt, c12, c13, c14, c15, c16, c17, c18] fr) (hT : w.heap[bt]? = some (.cells #[.int .i64 kd, str n, str [], str h] 115 (0, 0))) (hown : OwnT B w (.slice oa out.length oc) out) (hB : B ≤ w.heap.size) (hout : out.length ≤ 20000)
    (hp : ∀ (fr' : Array Value) (w' : World) (pa : Option Addr) (pc : Nat), Frm 349 [c0, ptr bb, c2, .slice pa (out.length + 1) pc, .func (.func 131) #[] #[ptr bb], .func (.func 132) #[] #[ptr bb], c6, c7, c8, c9, c10, ptr bt, c12, c13, c14, c15, c16, c17, c18] fr' → OwnT B w' (.slice pa (out.length + 1) pc) (out ++ [⟨kd, n, [], h⟩]) → Below B w w' → Q .normal ⟨fr', []⟩ w') :
    Code.wp Tryz.prog (tokC [1, 1, 1, 1, 1, 0, 2, 2, 1, 2, 1, 1, 1, 1, 1, 1, 1, 1, 1, 1, 1, 1, 1]) Q ⟨fr, []⟩ w := by
  refine open349 hf ?_
  intros
  conv => arg 2; whnf
  have HB := brf w
  have q0 := cellAt' (i := 0) hT rfl
  have q1 := cellAt' (i := 1) hT rfl
  have q2 := cellAt' (i := 2) hT rfl
  have q3 := cellAt' (i := 3) hT rfl
  go_wp2_with (at_builtin; refine wpList_tok rfl (.tmp 344) (.tmp 346) rfl B _ _ out kd n [] h rfl (own_tok hown (bal (brf _) _)) rfl (heap_new _ _) (by omega) (Nat.le_trans hB (bal HB _).size) ?_; intro pa pc wp hop hbp)
  go_wp2
  exact hp _ _ pa pc ⟨rfl, rfl⟩ hop (((bal HB _).mono hB).trans hbp)
end Go.Proofs.YteikncnldbdfmaaGreatDoor
