/- Two operations joined, act by act: they do what the one and then the other does; joined three in either way are the same. No program in sight. -/
import Derived.Test.YtgodceplajkcdaaPlB
namespace Go.Mh

def joinS (s : Ac) (f : List Ac → List Ac) : List Ac → List Ac
  | [] => f []
  | .put y :: b => .put y :: joinS s f b
  | .keep t :: b => match s with
    | .keep u => .keep (bothK u t) :: f b
    | .put x => .put (markI x t) :: f b
    | .cut => f b
  | .cut :: b => match s with
    | .keep _ => .cut :: f b
    | _ => f b
def joinA : List Ac → List Ac → List Ac
  | [], b => b
  | .cut :: a, b => .cut :: joinA a b
  | s :: a, b => joinS s (joinA a) b

theorem join_nil (b : List Ac) : joinA [] b = b := rfl
theorem join_c (a b : List Ac) : joinA (.cut :: a) b = .cut :: joinA a b := rfl
theorem join_kk (u t : Kd) (a b : List Ac) : joinA (.keep u :: a) (.keep t :: b) = .keep (bothK u t) :: joinA a b := rfl
theorem join_kc (u : Kd) (a b : List Ac) : joinA (.keep u :: a) (.cut :: b) = .cut :: joinA a b := rfl
theorem join_pk (x : It) (t : Kd) (a b : List Ac) : joinA (.put x :: a) (.keep t :: b) = .put (markI x t) :: joinA a b := rfl
theorem join_pc (x : It) (a b : List Ac) : joinA (.put x :: a) (.cut :: b) = joinA a b := rfl
theorem join_q {y : It} {a b : List Ac} (h : ∀ a', a ≠ .cut :: a') : joinA a (.put y :: b) = .put y :: joinA a b := by
  cases a with
  | nil => rfl
  | cons s a => cases s with
    | put x => rfl
    | keep u => rfl
    | cut => exact absurd rfl (h a)

/-- The principle of all proofs about what is joined. -/
theorem join_ind {P : List Ac → List Ac → Prop} (h0 : P [] []) (hc : ∀ a b, too a = frm b → P a b → P (.cut :: a) b)
    (hq : ∀ y a b, (∀ a', a ≠ .cut :: a') → too a = frm b → P a b → P a (.put y :: b))
    (hkk : ∀ u t a b, too a = frm b → P a b → P (.keep u :: a) (.keep t :: b)) (hkc : ∀ u a b, too a = frm b → P a b → P (.keep u :: a) (.cut :: b))
    (hpk : ∀ x t a b, too a = frm b → P a b → P (.put x :: a) (.keep t :: b)) (hpc : ∀ x a b, too a = frm b → P a b → P (.put x :: a) (.cut :: b)) :
    ∀ a b, too a = frm b → P a b := by
  intro a
  induction a with
  | nil =>
    intro b
    induction b with
    | nil => intro _; exact h0
    | cons t b ih =>
      intro h
      cases t with
      | put y => exact hq y [] b (by simp) (by simpa [frm] using h) (ih (by simpa [frm] using h))
      | keep t => simp [frm, too] at h
      | cut => simp [frm, too] at h
  | cons s a iha =>
    cases s with
    | cut => intro b h; exact hc a b (by simpa [too] using h) (iha b (by simpa [too] using h))
    | keep u =>
      intro b
      induction b with
      | nil => intro h; simp [frm, too] at h
      | cons t b ih =>
        intro h
        cases t with
        | put y => exact hq y _ b (by simp) (by simpa [frm] using h) (ih (by simpa [frm] using h))
        | keep t => exact hkk u t a b (by simpa [frm, too] using h) (iha b (by simpa [frm, too] using h))
        | cut => exact hkc u a b (by simpa [frm, too] using h) (iha b (by simpa [frm, too] using h))
    | put x =>
      intro b
      induction b with
      | nil => intro h; simp [frm, too] at h
      | cons t b ih =>
        intro h
        cases t with
        | put y => exact hq y _ b (by simp) (by simpa [frm] using h) (ih (by simpa [frm] using h))
        | keep t => exact hpk x t a b (by simpa [frm, too] using h) (iha b (by simpa [frm, too] using h))
        | cut => exact hpc x a b (by simpa [frm, too] using h) (iha b (by simpa [frm, too] using h))

theorem join_frm : ∀ a b, too a = frm b → frm (joinA a b) = frm a ∧ too (joinA a b) = too b := by
  refine join_ind ⟨rfl, rfl⟩ ?_ ?_ ?_ ?_ ?_ ?_
  · intro a b _ h; rw [join_c]; simp [frm, too, h]
  · intro y a b hn _ h; rw [join_q hn]; simp [frm, too, h]
  · intro u t a b _ h; rw [join_kk]; simp [frm, too, h]
  · intro u a b _ h; rw [join_kc]; simp [frm, too, h]
  · intro x t a b _ h; rw [join_pk]; simp [frm, too, h]
  · intro x a b _ h; rw [join_pc]; simp [frm, too, h]

theorem item_mk {x : It} (hx : chkItem x = 0) : x.Mk := by
  unfold chkItem at hx
  split at hx; · simp at hx
  split at hx; · simp at hx
  rename_i h; unfold It.Mk; omega

theorem join_ok : ∀ a b, too a = frm b → (∀ x ∈ a, AcOk x) → (∀ x ∈ b, AcOk x) → ∀ x ∈ joinA a b, AcOk x := by
  refine join_ind (fun _ h => h) ?_ ?_ ?_ ?_ ?_ ?_
  · intro a b _ h ha hb x hx
    rw [join_c] at hx
    rcases List.mem_cons.1 hx with rfl | hx
    · trivial
    · exact h (fun y hy => ha y (List.mem_cons_of_mem _ hy)) hb x hx
  · intro y a b hn _ h ha hb x hx
    rw [join_q hn] at hx
    rcases List.mem_cons.1 hx with rfl | hx
    · exact hb _ (List.mem_cons_self ..)
    · exact h ha (fun y hy => hb y (List.mem_cons_of_mem _ hy)) x hx
  · intro u t a b _ h ha hb x hx
    rw [join_kk] at hx
    rcases List.mem_cons.1 hx with rfl | hx
    · exact bothK_ok (ha (.keep u) (List.mem_cons_self ..)) (hb (.keep t) (List.mem_cons_self ..))
    · exact h (fun y hy => ha y (List.mem_cons_of_mem _ hy)) (fun y hy => hb y (List.mem_cons_of_mem _ hy)) x hx
  · intro u a b _ h ha hb x hx
    rw [join_kc] at hx
    rcases List.mem_cons.1 hx with rfl | hx
    · trivial
    · exact h (fun y hy => ha y (List.mem_cons_of_mem _ hy)) (fun y hy => hb y (List.mem_cons_of_mem _ hy)) x hx
  · intro z t a b _ h ha hb x hx
    rw [join_pk] at hx
    rcases List.mem_cons.1 hx with rfl | hx
    · exact markI_item (ha (.put z) (List.mem_cons_self ..)) (hb (.keep t) (List.mem_cons_self ..))
    · exact h (fun y hy => ha y (List.mem_cons_of_mem _ hy)) (fun y hy => hb y (List.mem_cons_of_mem _ hy)) x hx
  · intro z a b _ h ha hb x hx
    rw [join_pc] at hx
    exact h (fun y hy => ha y (List.mem_cons_of_mem _ hy)) (fun y hy => hb y (List.mem_cons_of_mem _ hy)) x hx

/-- Joined they do what the one, and then the other one, does. -/
theorem join_does : ∀ a b, too a = frm b → (∀ x ∈ a, AcOk x) → (∀ x ∈ b, AcOk x) → ∀ d : List It, d.length = frm a → (∀ x ∈ d, x.Mk) → doA d (joinA a b) = doA (doA d a) b := by
  refine join_ind ?_ ?_ ?_ ?_ ?_ ?_ ?_
  · intro _ _ d hd _; cases d with
    | nil => rfl
    | cons i d => simp [frm] at hd
  · intro a b _ h ha hb d hd hm
    rw [join_c]
    have ih := h (fun y hy => ha y (List.mem_cons_of_mem _ hy)) hb d.tail (by simp [hd, frm]) (fun x hx => hm x (List.mem_of_mem_tail hx))
    simp [doA, ih]
  · intro y a b hn _ h ha hb d hd hm
    rw [join_q hn]
    have ih := h ha (fun y hy => hb y (List.mem_cons_of_mem _ hy)) d hd hm
    simp [doA, ih]
  · intro u t a b _ h ha hb d hd hm
    rw [join_kk]
    cases d with
    | nil => simp [frm] at hd
    | cons i d =>
      have ih := h (fun y hy => ha y (List.mem_cons_of_mem _ hy)) (fun y hy => hb y (List.mem_cons_of_mem _ hy)) d (by simpa [frm] using hd) (fun x hx => hm x (List.mem_cons_of_mem _ hx))
      simp [doA, ih, mark_join (hm i (List.mem_cons_self ..)) (ha (.keep u) (List.mem_cons_self ..)) (hb (.keep t) (List.mem_cons_self ..))]
  · intro u a b _ h ha hb d hd hm
    rw [join_kc]
    cases d with
    | nil => simp [frm] at hd
    | cons i d =>
      have ih := h (fun y hy => ha y (List.mem_cons_of_mem _ hy)) (fun y hy => hb y (List.mem_cons_of_mem _ hy)) d (by simpa [frm] using hd) (fun x hx => hm x (List.mem_cons_of_mem _ hx))
      simp [doA, ih]
  · intro z t a b _ h ha hb d hd hm
    rw [join_pk]
    have ih := h (fun y hy => ha y (List.mem_cons_of_mem _ hy)) (fun y hy => hb y (List.mem_cons_of_mem _ hy)) d (by simpa [frm] using hd) hm
    simp [doA, ih]
  · intro z a b _ h ha hb d hd hm
    rw [join_pc]
    have ih := h (fun y hy => ha y (List.mem_cons_of_mem _ hy)) (fun y hy => hb y (List.mem_cons_of_mem _ hy)) d (by simpa [frm] using hd) hm
    simp [doA, ih]

/-- Joined three in either way, act by act. -/
theorem join_assoc : ∀ a b, too a = frm b → (∀ x ∈ a, AcOk x) → (∀ x ∈ b, AcOk x) → ∀ c, too b = frm c → (∀ x ∈ c, AcOk x) → joinA (joinA a b) c = joinA a (joinA b c) := by
  refine join_ind (fun _ _ c _ _ => rfl) ?_ ?_ ?_ ?_ ?_ ?_
  · intro a b _ h ha hb c hc hcc
    simp only [join_c]
    rw [h (fun y hy => ha y (List.mem_cons_of_mem _ hy)) hb c hc hcc]
  · intro y a b hn _ h ha hb c hc hcc
    rw [join_q hn]
    induction c with
    | nil => simp [too, frm] at hc
    | cons t c ihc =>
      have hcT : ∀ x ∈ c, AcOk x := fun x hx => hcc x (List.mem_cons_of_mem _ hx)
      cases t with
      | put z =>
        rw [join_q (by simp), join_q (by simp), join_q hn, ihc (by simpa [frm] using hc) hcT]
      | keep t =>
        rw [join_pk, join_pk, join_q hn, h ha (fun y hy => hb y (List.mem_cons_of_mem _ hy)) c (by simpa [frm, too] using hc) hcT]
      | cut => rw [join_pc, join_pc, h ha (fun y hy => hb y (List.mem_cons_of_mem _ hy)) c (by simpa [frm, too] using hc) hcT]
  · intro u t a b _ h ha hb c hc hcc
    rw [join_kk]
    induction c with
    | nil => simp [too, frm] at hc
    | cons v c ihc =>
      have hcT : ∀ x ∈ c, AcOk x := fun x hx => hcc x (List.mem_cons_of_mem _ hx)
      have ih := fun hc' => h (fun y hy => ha y (List.mem_cons_of_mem _ hy)) (fun y hy => hb y (List.mem_cons_of_mem _ hy)) c hc' hcT
      cases v with
      | put z => rw [join_q (by simp), join_q (by simp), join_q (by simp), ihc (by simpa [frm] using hc) hcT]
      | keep v =>
        rw [join_kk, join_kk, join_kk, ih (by simpa [frm, too] using hc), bothK_assoc (ha (.keep u) (List.mem_cons_self ..)) (hb (.keep t) (List.mem_cons_self ..)) (hcc (.keep v) (List.mem_cons_self ..))]
      | cut => rw [join_kc, join_kc, join_kc, ih (by simpa [frm, too] using hc)]
  · intro u a b _ h ha hb c hc hcc
    rw [join_kc, join_c, join_c, join_kc, h (fun y hy => ha y (List.mem_cons_of_mem _ hy)) (fun y hy => hb y (List.mem_cons_of_mem _ hy)) c (by simpa [too] using hc) hcc]
  · intro x t a b _ h ha hb c hc hcc
    rw [join_pk]
    induction c with
    | nil => simp [too, frm] at hc
    | cons v c ihc =>
      have hcT : ∀ x ∈ c, AcOk x := fun x hx => hcc x (List.mem_cons_of_mem _ hx)
      have ih := fun hc' => h (fun y hy => ha y (List.mem_cons_of_mem _ hy)) (fun y hy => hb y (List.mem_cons_of_mem _ hy)) c hc' hcT
      cases v with
      | put z => rw [join_q (by simp), join_q (by simp), join_q (by simp), ihc (by simpa [frm] using hc) hcT]
      | keep v =>
        rw [join_pk, join_kk, join_pk, ih (by simpa [frm, too] using hc), mark_join (item_mk (ha (.put x) (List.mem_cons_self ..))) (hb (.keep t) (List.mem_cons_self ..)) (hcc (.keep v) (List.mem_cons_self ..))]
      | cut => rw [join_pc, join_kc, join_pc, ih (by simpa [frm, too] using hc)]
  · intro x a b _ h ha hb c hc hcc
    rw [join_pc, join_c, join_pc, h (fun y hy => ha y (List.mem_cons_of_mem _ hy)) (fun y hy => hb y (List.mem_cons_of_mem _ hy)) c (by simpa [too] using hc) hcc]

/- What is joined is the same, made tidy, whether its parts were made tidy before or not. -/
theorem nrm_norm (ps : List It) (c : Nat) (l : List Ac) : nrm ps c (normA l) = nrm ps c l := by unfold normA; rw [nrm_nrm]; simp
theorem norm_cons {l m : List Ac} (h : normA l = normA m) (a : Ac) : normA (a :: l) = normA (a :: m) := by
  have e : ∀ ps c, nrm ps c l = nrm ps c m := fun ps c => by rw [← nrm_norm, h, nrm_norm]
  cases a <;> simp [normA, nrm, e]
theorem norm_append {l m : List Ac} (h : normA l = normA m) (a : List Ac) : normA (a ++ l) = normA (a ++ m) := by
  induction a with
  | nil => exact h
  | cons x a ih => exact norm_cons ih x
theorem norm_swap (x : It) (l : List Ac) : normA (.cut :: .put x :: l) = normA (.put x :: .cut :: l) := rfl

theorem join_cons_l {a a' : List Ac} (h : ∀ b, normA (joinA a b) = normA (joinA a' b)) (s : Ac) (b : List Ac) : normA (joinA (s :: a) b) = normA (joinA (s :: a') b) := by
  cases s with
  | cut => exact norm_cons (h b) _
  | keep u =>
    induction b with
    | nil => exact h []
    | cons t b ih => cases t with
      | put y => exact norm_cons ih _
      | keep t => exact norm_cons (h b) _
      | cut => exact norm_cons (h b) _
  | put x =>
    induction b with
    | nil => exact h []
    | cons t b ih => cases t with
      | put y => exact norm_cons ih _
      | keep t => exact norm_cons (h b) _
      | cut => exact h b
theorem join_app_l {a a' : List Ac} (h : ∀ b, normA (joinA a b) = normA (joinA a' b)) (p : List Ac) (b : List Ac) : normA (joinA (p ++ a) b) = normA (joinA (p ++ a') b) := by
  induction p generalizing b with
  | nil => exact h b
  | cons s p ih => exact join_cons_l ih s b

theorem join_swap_l (x : It) (a b : List Ac) : normA (joinA (.cut :: .put x :: a) b) = normA (joinA (.put x :: .cut :: a) b) := by
  rw [join_c]
  induction b with
  | nil => rfl
  | cons t b ih => cases t with
    | put y =>
      rw [join_q (by simp), join_q (by simp), norm_swap]
      exact norm_cons ih _
    | keep t => rw [join_pk, join_pk, norm_swap, join_c]
    | cut => rw [join_pc, join_pc, join_c]

theorem join_swaps_l (n : Nat) (x : It) (a b : List Ac) : normA (joinA (List.replicate n .cut ++ .put x :: a) b) = normA (joinA (.put x :: (List.replicate n .cut ++ a)) b) := by
  induction n generalizing b with
  | zero => rfl
  | succ n ih =>
    simp only [List.replicate_succ, List.cons_append]
    rw [join_cons_l ih .cut b]
    exact join_swap_l x _ b

theorem join_nrm_l (l : List Ac) (ps : List It) (c : Nat) (b : List Ac) : normA (joinA (nrm ps c l) b) = normA (joinA (ps.map .put ++ (List.replicate c .cut ++ l)) b) := by
  induction l generalizing ps c b with
  | nil => simp [nrm]
  | cons a l ih =>
    cases a with
    | put x =>
      rw [nrm, ih]
      simp only [List.map_append, List.map_cons, List.map_nil, List.append_assoc, List.cons_append, List.nil_append]
      refine join_app_l (fun b => ?_) _ b
      exact (join_swaps_l c x l b).symm
    | cut =>
      rw [nrm, ih, List.replicate_succ']
      simp
    | keep k =>
      simp only [nrm, List.append_assoc]
      refine join_app_l (fun b => join_app_l (fun b => join_cons_l (fun b => ?_) _ b) _ b) _ b
      rw [ih]; simp
theorem join_norm_l (a b : List Ac) : normA (joinA (normA a) b) = normA (joinA a b) := by
  unfold normA; have := join_nrm_l a [] 0 b; simpa [normA] using this

theorem join_cons_r {b b' : List Ac} (h : ∀ a, normA (joinA a b) = normA (joinA a b')) (t : Ac) (a : List Ac) : normA (joinA a (t :: b)) = normA (joinA a (t :: b')) := by
  induction a with
  | nil => exact norm_cons (h []) t
  | cons s a ih => cases s with
    | cut => exact norm_cons ih _
    | keep u => cases t with
      | put y => exact norm_cons (h (.keep u :: a)) (.put y)
      | keep t => exact norm_cons (h a) _
      | cut => exact norm_cons (h a) _
    | put x => cases t with
      | put y => exact norm_cons (h (.put x :: a)) (.put y)
      | keep t => exact norm_cons (h a) _
      | cut => exact h a
theorem join_app_r {b b' : List Ac} (h : ∀ a, normA (joinA a b) = normA (joinA a b')) (p : List Ac) (a : List Ac) : normA (joinA a (p ++ b)) = normA (joinA a (p ++ b')) := by
  induction p generalizing a with
  | nil => exact h a
  | cons s p ih => exact join_cons_r ih s a

theorem join_put_r (y : It) (a b : List Ac) : normA (joinA a (.put y :: b)) = normA (.put y :: joinA a b) := by
  induction a with
  | nil => rfl
  | cons s a ih => cases s with
    | cut => rw [join_c, join_c, ← norm_swap]; exact norm_cons ih _
    | keep u => rfl
    | put x => rfl
theorem join_swap_r (y : It) (a b : List Ac) : normA (joinA a (.cut :: .put y :: b)) = normA (joinA a (.put y :: .cut :: b)) := by
  rw [join_put_r]
  induction a with
  | nil => rfl
  | cons s a ih => cases s with
    | cut => rw [join_c, join_c, ← norm_swap]; exact norm_cons ih _
    | keep u =>
      rw [join_kc, join_kc, ← norm_swap]
      exact norm_cons (join_put_r y a b) _
    | put x => rw [join_pc, join_pc]; exact join_put_r y a b
theorem join_swaps_r (n : Nat) (y : It) (a b : List Ac) : normA (joinA a (List.replicate n .cut ++ .put y :: b)) = normA (joinA a (.put y :: (List.replicate n .cut ++ b))) := by
  induction n generalizing a with
  | zero => rfl
  | succ n ih =>
    simp only [List.replicate_succ, List.cons_append]
    rw [join_cons_r ih .cut a]
    exact join_swap_r y a _
theorem join_nrm_r (l : List Ac) (ps : List It) (c : Nat) (a : List Ac) : normA (joinA a (nrm ps c l)) = normA (joinA a (ps.map .put ++ (List.replicate c .cut ++ l))) := by
  induction l generalizing ps c a with
  | nil => simp [nrm]
  | cons x l ih =>
    cases x with
    | put x =>
      rw [nrm, ih]
      simp only [List.map_append, List.map_cons, List.map_nil, List.append_assoc, List.cons_append, List.nil_append]
      refine join_app_r (fun a => ?_) _ a
      exact (join_swaps_r c x a l).symm
    | cut =>
      rw [nrm, ih, List.replicate_succ']
      simp
    | keep k =>
      simp only [nrm, List.append_assoc]
      refine join_app_r (fun a => join_app_r (fun a => join_cons_r (fun a => ?_) _ a) _ a) _ a
      rw [ih]; simp
theorem join_norm_r (a b : List Ac) : normA (joinA a (normA b)) = normA (joinA a b) := by
  have := join_nrm_r b [] 0 a; simpa [normA] using this

/- With one that keeps all. -/
theorem bothK_0r {s : Kd} (hs : s.Ok) : bothK s kd0 = s := by
  obtain ⟨a, b, e1, e2, h1⟩ := hs.fin
  obtain ⟨s1, s2, s3, s4⟩ := s
  simp only at e1 e2
  subst e1 e2
  have : ∀ m : Fin 4, bor (bnot (m.val : Int) 0) 0 = (m.val : Int) := by decide
  simp [bothK, kd0]
  exact ⟨this a, this b⟩
theorem bothK_0l {s : Kd} (hs : s.Ok) : bothK kd0 s = s := by
  obtain ⟨a, b, e1, e2, h1⟩ := hs.fin
  have hl := hs.ln
  obtain ⟨s1, s2, s3, s4⟩ := s
  simp only at e1 e2 hl
  subst e1 e2
  have : ∀ m n : Fin 4, bor (bnot 0 (m.val : Int)) (n.val : Int) = (n.val : Int) := by decide
  simp only [bothK, kd0, Kd.mk.injEq]
  refine ⟨this b a, this a b, ?_, ?_⟩
  · cases s3 <;> rfl
  · by_cases h : s4 = []
    · simp [h]
    · simp [(hl h).1]
theorem overK_0 {t : Kd} (ht : t.Ok) : overK t kd0 = t := by
  obtain ⟨a, b, e1, e2, h1⟩ := ht.fin
  obtain ⟨s1, s2, s3, s4⟩ := t
  simp only at e1 e2
  subst e1 e2
  have : ∀ m : Fin 4, bnot (m.val : Int) (bor 0 0) = (m.val : Int) := by decide
  simp [overK, kd0]
  exact ⟨this a, this b⟩

theorem join_keeps_r (a : List Ac) (ha : ∀ x ∈ a, AcOk x) : joinA a (List.replicate (too a) keep0) = a := by
  induction a with
  | nil => rfl
  | cons s a ih =>
    have ih := ih fun x hx => ha x (List.mem_cons_of_mem _ hx)
    have h := ha s (List.mem_cons_self ..)
    cases s with
    | cut => rw [join_c]; simp only [too]; rw [ih]
    | keep u => simp only [too, List.replicate_succ, keep0]; rw [join_kk, bothK_0r h]; exact congrArg _ ih
    | put x => simp only [too, List.replicate_succ, keep0]; rw [join_pk, mark_none x (item_mk h)]; exact congrArg _ ih
theorem join_keeps_l (a : List Ac) (ha : ∀ x ∈ a, AcOk x) : joinA (List.replicate (frm a) keep0) a = a := by
  induction a with
  | nil => rfl
  | cons s a ih =>
    have ih := ih fun x hx => ha x (List.mem_cons_of_mem _ hx)
    have h := ha s (List.mem_cons_self ..)
    cases s with
    | cut => simp only [frm, List.replicate_succ, keep0]; rw [join_kc]; exact congrArg _ ih
    | keep u => simp only [frm, List.replicate_succ, keep0]; rw [join_kk, bothK_0l h]; exact congrArg _ ih
    | put x =>
      simp only [frm]
      rw [join_q (by intro a' h; cases hf : frm a <;> simp [hf, List.replicate_succ, keep0] at h), ih]
theorem turn_keeps (a : List Ac) (ha : ∀ x ∈ a, AcOk x) : turnA a (List.replicate (frm a) keep0) = (a, List.replicate (too a) keep0) := by
  induction a with
  | nil => rfl
  | cons s a ih =>
    have ih := ih fun x hx => ha x (List.mem_cons_of_mem _ hx)
    have h := ha s (List.mem_cons_self ..)
    cases s with
    | put x => rw [turn_p]; simp only [frm, too]; rw [ih]; rfl
    | keep u =>
      simp only [frm, too, List.replicate_succ, keep0] at ih ⊢
      rw [turn_kk, ih]
      simp only [overK]
      obtain ⟨c, d, e3, e4, h2⟩ := Kd.Ok.fin h
      have hz : ∀ m n : Fin 4, bnot 0 (bor (m.val : Int) (n.val : Int)) = 0 := by decide
      simp [kd0, e3, e4, hz]
    | cut => simp only [frm, too, List.replicate_succ, keep0] at ih ⊢; rw [turn_ck, ih]

theorem norm_keeps (n : Nat) (k : Kd) : normA (List.replicate n (.keep k)) = List.replicate n (.keep k) := by
  induction n with
  | zero => rfl
  | succ n ih => simp only [List.replicate_succ, normA, nrm, List.map_nil, List.replicate_zero, List.nil_append]; exact congrArg _ ih
theorem tidy_keeps (n : Nat) (k : Kd) : tidyA (List.replicate (n + 1) (.keep k)) = [keepP k ((n + 1 : Nat) : Int)] := by
  have := tid_keeps [] [] 0 n k []
  rw [List.append_nil] at this
  unfold tidyA
  rw [this]
  simp [tid, flush, addK]
end Go.Mh
