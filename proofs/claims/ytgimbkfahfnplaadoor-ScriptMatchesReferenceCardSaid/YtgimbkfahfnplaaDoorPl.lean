/- Plain theory of letters, words and texts of the four scripts: no program in sight. -/
namespace Scr
abbrev Bs := List UInt8
def smallS : Bs := [97,98,99,100,101,102,103,104,105,106,107,108,109,110,111,112,113,114,115,116,117,118,119,120,121,122]
def capS : Bs := [65,66,67,68,69,70,71,72,73,74,75,76,77,78,79,80,81,82,83,84,85,86,87,88,89,90]
def accS : Bs := [39,96,94]
def abjS : Bs := [98,100,102,103,104,106,107,108,109,110,112,113,114,115,116,119,120,121,122,39]
def vowS : Bs := [97,105,117,101,111]
def onsS : Bs := [107,115,116,110,104,109,121,114,119,103,122,100,98,112]
/-- is the byte at the head one of some -/
def hd (s : Bs) (set : Bs) : Bool := match s with | [] => false | c :: _ => set.contains c
/-- the length of the letter with which a text begins -/
def len (sc : Int) (s : Bs) : Nat :=
  if sc = 1 then (if hd s smallS then 1 else 0)
  else if sc = 2 then (if hd s (smallS ++ capS) then (if hd s.tail accS then 2 else 1) else 0)
  else if sc = 3 then (if hd s abjS then 1 else 0)
  else if sc = 4 then (if hd s onsS && hd s.tail vowS then 2 else if hd s vowS || hd s [110] then 1 else 0)
  else 0
theorem hd_one {s set : Bs} (h : hd s set = true) : 1 ≤ s.length := by cases s <;> simp_all [hd]
theorem hd_two {s set : Bs} (h : hd s.tail set = true) : 2 ≤ s.length := by
  match s, h with
  | [], h => simp [hd] at h
  | [_], h => simp [hd] at h
  | _ :: _ :: _, _ => simp
theorem len_le (sc s) : len sc s ≤ s.length := by
  unfold len
  repeat' split
  all_goals first
    | omega
    | (apply hd_one; assumption)
    | (apply hd_two; assumption)
    | (rename_i h; simp only [Bool.and_eq_true] at h; exact hd_two h.2)
    | (rename_i h; simp only [Bool.or_eq_true] at h; rcases h with h | h <;> exact hd_one h)
theorem len_two (sc s) : len sc s ≤ 2 := by
  unfold len
  by_cases h1 : sc = 1
  · rw [if_pos h1]; split <;> omega
  rw [if_neg h1]
  by_cases h2 : sc = 2
  · rw [if_pos h2]; split
    · split <;> omega
    · omega
  rw [if_neg h2]
  by_cases h3 : sc = 3
  · rw [if_pos h3]; split <;> omega
  rw [if_neg h3]
  by_cases h4 : sc = 4
  · rw [if_pos h4]; split
    · omega
    · split <;> omega
  rw [if_neg h4]; omega
theorem len_nil (sc) : len sc [] = 0 := by have := len_le sc []; simpa using this

def toks (sc : Int) : Nat → Bs → List Bs
  | 0, _ => []
  | k + 1, s => if len sc s = 0 then [] else s.take (len sc s) :: toks sc k (s.drop (len sc s))
def rst (sc : Int) : Nat → Bs → Bs
  | 0, s => s
  | k + 1, s => if len sc s = 0 then s else rst sc k (s.drop (len sc s))
theorem toks_more (sc) : ∀ k s j, s.length ≤ k → toks sc (k + j) s = toks sc k s ∧ rst sc (k + j) s = rst sc k s := by
  intro k
  induction k with
  | zero =>
    intro s j h
    obtain rfl : s = [] := List.eq_nil_of_length_eq_zero (by omega)
    cases j with
    | zero => simp
    | succ j => simp [toks, rst, len_nil]
  | succ k ih =>
    intro s j h
    rw [show k + 1 + j = (k + j) + 1 by omega]
    simp only [toks, rst]
    split
    · simp
    · have := ih (s.drop (len sc s)) j (by simp; omega)
      rw [this.1, this.2]; simp
def letters (sc : Int) (s : Bs) : List Bs := toks sc s.length s
def left (sc : Int) (s : Bs) : Bs := rst sc s.length s
theorem letters_zero {sc s} (h : len sc s = 0) : letters sc s = [] ∧ left sc s = s := by
  unfold letters left
  cases s with
  | nil => simp [toks, rst]
  | cons a s => simp [toks, rst, h]
theorem letters_step {sc s} (h : len sc s ≠ 0) : letters sc s = s.take (len sc s) :: letters sc (s.drop (len sc s)) ∧ left sc s = left sc (s.drop (len sc s)) := by
  have hl := len_le sc s
  unfold letters left
  obtain ⟨n, hn⟩ : ∃ n, s.length = n + 1 := ⟨s.length - 1, by omega⟩
  rw [hn]
  have hd : (s.drop (len sc s)).length ≤ n := by simp; omega
  obtain ⟨j, hj⟩ : ∃ j, n = (s.drop (len sc s)).length + j := ⟨n - (s.drop (len sc s)).length, by omega⟩
  have := toks_more sc (s.drop (len sc s)).length (s.drop (len sc s)) j (Nat.le_refl _)
  simp only [toks, rst, if_neg h]
  rw [hj, this.1, this.2]; simp
theorem letters_nil (sc) : letters sc [] = [] ∧ left sc [] = [] := letters_zero (len_nil sc)
/-- induction over the letters of a text -/
theorem ind {sc : Int} {P : Bs → Prop} (h0 : ∀ s, len sc s = 0 → P s) (h1 : ∀ s, len sc s ≠ 0 → P (s.drop (len sc s)) → P s) (s : Bs) : P s := by
  have : ∀ n s, s.length ≤ n → P s := by
    intro n
    induction n with
    | zero =>
      intro s h
      obtain rfl : s = [] := List.eq_nil_of_length_eq_zero (by omega)
      exact h0 _ (len_nil sc)
    | succ n ih =>
      intro s h
      by_cases e : len sc s = 0
      · exact h0 _ e
      · exact h1 _ e (ih _ (by simp; omega))
  exact this _ s (Nat.le_refl _)
theorem joined (sc) (s : Bs) : (letters sc s).flatten ++ left sc s = s := by
  refine ind (sc := sc) (P := fun s => (letters sc s).flatten ++ left sc s = s) ?_ ?_ s
  · intro s h; obtain ⟨e1, e2⟩ := letters_zero h; rw [e1, e2]; simp
  · intro s h ih; obtain ⟨e1, e2⟩ := letters_step h; rw [e1, e2]; simp only [List.flatten_cons, List.append_assoc]; rw [ih]; simp
/-- the letters of a word, or an error -/
def word (sc : Int) (s : Bs) : Bool := decide (left sc s = []) && decide (1 ≤ (letters sc s).length) && decide ((letters sc s).length ≤ 12)
def lettersE (sc : Int) (s : Bs) : List Bs × Int := if word sc s then (letters sc s, 0) else ([], 1)

/-- the machine that reads a text behind its script's word: words so far, the letters of the present one, its bytes, the offset -/
inductive Res where
  | ok (ws : List Bs)
  | bad (e : Int) (at_ : Nat)
deriving DecidableEq, Repr
def run (sc : Int) : Nat → List Bs → Nat → Bs → Nat → Bs → Res
  | 0, _, _, _, p, _ => .bad 99 p
  | k + 1, ws, n, cur, p, s =>
    if len sc s = 0 then
      match s with
      | [] => if (if n = 0 then ws else ws ++ [cur]) = [] then .bad 6 p else .ok (if n = 0 then ws else ws ++ [cur])
      | c :: s' => if c = 32 then run sc k (if n = 0 then ws else ws ++ [cur]) 0 [] (p + 1) s' else .bad 3 p
    else if n = 12 ∨ ws.length = 6 then .bad 2 p
    else run sc k ws (n + 1) (cur ++ s.take (len sc s)) (p + len sc s) (s.drop (len sc s))
end Scr
namespace Scr
/-! ### one letter -/
def l2 (sc : Int) (a : UInt8) (ob : Option UInt8) : Nat :=
  if sc = 1 then (if smallS.contains a then 1 else 0)
  else if sc = 2 then (if (smallS ++ capS).contains a then (if ob.any accS.contains then 2 else 1) else 0)
  else if sc = 3 then (if abjS.contains a then 1 else 0)
  else if sc = 4 then (if onsS.contains a && ob.any vowS.contains then 2 else if vowS.contains a || a == 110 then 1 else 0)
  else 0
theorem len_cons (sc a s) : len sc (a :: s) = l2 sc a s.head? := by
  unfold len l2
  cases s <;> simp [hd]
theorem dec_all (p : UInt8 → Bool) (h : ((List.range 256).all fun n => p (UInt8.ofNat n)) = true) (c : UInt8) : p c = true := by
  have := List.all_eq_true.1 h c.toNat (List.mem_range.2 c.toNat_lt)
  rwa [UInt8.ofNat_toNat] at this
theorem vow_ons (c : UInt8) (h : vowS.contains c = true) : onsS.contains c = false := by
  have := dec_all (fun c => !vowS.contains c || !onsS.contains c) (by decide +kernel) c
  simp only [h, Bool.not_true, Bool.false_or, Bool.not_eq_true'] at this
  exact this
theorem let_acc (c : UInt8) (h : (smallS ++ capS).contains c = true) : accS.contains c = false := by
  have := dec_all (fun c => !(smallS ++ capS).contains c || !accS.contains c) (by decide +kernel) c
  simp only [h, Bool.not_true, Bool.false_or, Bool.not_eq_true'] at this
  exact this
theorem l2_one (sc : Int) (a : UInt8) (ob oc : Option UInt8) (h : l2 sc a ob = 1) (hc : sc = 2 → oc.any accS.contains = false) (hv : sc = 4 → a = 110 → oc.any vowS.contains = false) : l2 sc a oc = 1 := by
  unfold l2 at h ⊢
  by_cases s1 : sc = 1
  · simpa [s1] using h
  by_cases s2 : sc = 2
  · subst s2
    have hc := hc rfl
    rw [if_neg (by decide), if_pos rfl] at h ⊢
    rw [hc]
    split at h
    · rename_i h'; rw [if_pos h']; simp
    · cases h
  by_cases s3 : sc = 3
  · simpa [s3] using h
  by_cases s4 : sc = 4
  · subst s4
    have hv := hv rfl
    rw [if_neg (by decide), if_neg (by decide), if_neg (by decide), if_pos rfl] at h ⊢
    split at h
    · cases h
    · split at h
      · rename_i h'
        rw [if_neg]
        · rw [if_pos h']
        · simp only [Bool.or_eq_true, beq_iff_eq] at h'
          rcases h' with h' | h'
          · rw [vow_ons a h']; simp
          · rw [hv h']; simp
      · cases h
  · rw [if_neg s1, if_neg s2, if_neg s3, if_neg s4] at h; cases h
/-- a letter keeps its length whatever stands behind it, unless that makes it longer -/
theorem len_head (sc : Int) (s t : Bs) (h : len sc s ≠ 0) (hc : sc = 2 → len sc s = 1 → t.head?.any accS.contains = false) (hv : sc = 4 → s.take (len sc s) = [110] → t.head?.any vowS.contains = false) : len sc (s.take (len sc s) ++ t) = len sc s := by
  match s, h, hc, hv with
  | [], h, _, _ => exact absurd (len_nil sc) h
  | a :: s, h, hc, hv =>
    have h2 := len_two sc (a :: s)
    have e : len sc (a :: s) = 1 ∨ len sc (a :: s) = 2 := by omega
    rcases e with e1 | e1
    · rw [e1] at hc hv ⊢
      simp only [List.take_succ_cons, List.take_zero, List.cons_append, List.nil_append] at hv ⊢
      rw [len_cons] at e1 ⊢
      exact l2_one sc a _ _ e1 (fun e => hc e rfl) (fun e e' => hv e (by rw [e']))
    · have hl := len_le sc (a :: s)
      match s, e1, hl with
      | [], e1, hl => simp at hl; omega
      | b :: s, e1, hl =>
        rw [e1]
        simp only [List.take_succ_cons, List.take_zero, List.cons_append, List.nil_append]
        rw [len_cons] at e1 ⊢
        simpa using e1
theorem len_take (sc s) : len sc (s.take (len sc s)) = len sc s := by
  by_cases h : len sc s = 0
  · rw [h]; simp [len_nil]
  · have := len_head sc s [] h (fun _ _ => rfl) (fun _ _ => rfl)
    simpa using this
end Scr
namespace Scr
/-! ### joining -/
theorem len_mid (sc : Int) (s t : Bs) (h : len sc s ≠ 0) (hc : sc = 2 → t.head?.any accS.contains = false) (hv : sc = 4 → s.take (len sc s) = [110] → s.drop (len sc s) = [] → t.head?.any vowS.contains = false) : len sc (s ++ t) = len sc s := by
  have hl := len_le sc s
  conv => lhs; rw [← List.take_append_drop (len sc s) s, List.append_assoc]
  cases hd : s.drop (len sc s) with
  | nil =>
    rw [List.nil_append]
    exact len_head sc s t h (fun e _ => hc e) (fun e e' => hv e e' hd)
  | cons b u =>
    have key := len_head sc s ((b :: u) ++ t) h ?_ ?_
    · exact key
    · intro e e1
      have h0 := len_head sc s (b :: u) h
      subst e
      simp only [List.cons_append, List.head?_cons, Option.any_some]
      -- what stands behind a letter of one byte is no accent
      have e2 : len 2 s = l2 2 s.head! (some b) := by
        match s, e1, hd with
        | [], e1, _ => rw [len_nil] at e1; cases e1
        | a :: s, e1, hd => rw [e1] at hd; simp at hd; rw [len_cons, hd]; rfl
      rw [e1] at e2
      unfold l2 at e2
      simp at e2
      split at e2
      · split at e2
        · cases e2
        · rename_i h'; simpa using h'
      · cases e2
    · intro e e1
      subst e
      simp only [List.cons_append, List.head?_cons, Option.any_some]
      match s, e1, hd, h with
      | [], e1, _, h => exact absurd (len_nil 4) h
      | a :: s, e1, hd, h =>
        have hl := len_le 4 (a :: s)
        have : len 4 (a :: s) = 1 := by
          have := congrArg List.length e1
          rw [List.length_take] at this
          simp at this hl; omega
        rw [this] at e1 hd
        simp at e1 hd
        subst e1
        rw [len_cons, hd] at this
        unfold l2 at this
        simp at this
        have o : onsS.contains (110 : UInt8) = true := by decide
        have : ¬ b ∈ vowS := by
          intro hb
          simp [hb] at this
          exact absurd (by simpa using o) this
        simpa using this
theorem letters_append (sc : Int) (t : Bs) (hc : sc = 2 → t.head?.any accS.contains = false) (s : Bs) : left sc s = [] → (sc = 4 → (letters sc s).getLast? = some [110] → t.head?.any vowS.contains = false) → letters sc (s ++ t) = letters sc s ++ letters sc t ∧ left sc (s ++ t) = left sc t := by
  refine ind (sc := sc) (P := fun s => left sc s = [] → (sc = 4 → (letters sc s).getLast? = some [110] → t.head?.any vowS.contains = false) → letters sc (s ++ t) = letters sc s ++ letters sc t ∧ left sc (s ++ t) = left sc t) ?_ ?_ s
  · intro s h hl _
    obtain ⟨e1, e2⟩ := letters_zero h
    rw [e2] at hl
    subst hl
    rw [e1]; simp
  · intro s h ih hl hv
    obtain ⟨e1, e2⟩ := letters_step h
    rw [e2] at hl
    have hm := len_mid sc s t h hc (fun e e' e'' => hv e (by rw [e1, e'', (letters_nil sc).1, e']; rfl))
    have hle := len_le sc s
    obtain ⟨f1, f2⟩ := letters_step (sc := sc) (s := s ++ t) (by rw [hm]; exact h)
    rw [hm, List.take_append_of_le_length hle, List.drop_append_of_le_length hle] at f1
    rw [hm, List.drop_append_of_le_length hle] at f2
    have := ih hl (fun e e' => hv e (by
      rw [e1]
      cases hn : letters sc (s.drop (len sc s)) with
      | nil => rw [hn] at e'; cases e'
      | cons x y => rw [hn] at e'; rw [List.getLast?_cons_cons]; exact e'))
    rw [f1, f2, e1, this.1, this.2]
    simp
theorem letters_own (sc : Int) (s : Bs) : ∀ x ∈ letters sc s, letters sc x = [x] ∧ left sc x = [] := by
  refine ind (sc := sc) (P := fun s => ∀ x ∈ letters sc s, letters sc x = [x] ∧ left sc x = []) ?_ ?_ s
  · intro s h x hx; rw [(letters_zero h).1] at hx; cases hx
  · intro s h ih x hx
    obtain ⟨e1, e2⟩ := letters_step h
    rw [e1] at hx
    rcases List.mem_cons.1 hx with rfl | hx
    · have ht := len_take sc s
      have hle := len_le sc s
      obtain ⟨f1, f2⟩ := letters_step (sc := sc) (s := s.take (len sc s)) (by rw [ht]; exact h)
      rw [ht] at f1 f2
      have : (s.take (len sc s)).drop (len sc s) = [] := by simp
      rw [this, (letters_nil sc).1] at f1
      rw [this, (letters_nil sc).2] at f2
      rw [f1, f2, List.take_take, Nat.min_self]; simp
    · exact ih x hx
end Scr
namespace Scr
/-! ### the reading machine, its steps -/
theorem run_more (sc : Int) : ∀ k s ws n cur p j, s.length + 1 ≤ k → run sc (k + j) ws n cur p s = run sc k ws n cur p s := by
  intro k
  induction k with
  | zero => intro s ws n cur p j h; omega
  | succ k ih =>
    intro s ws n cur p j h
    rw [show k + 1 + j = (k + j) + 1 by omega]
    simp only [run]
    by_cases hl : len sc s = 0
    · rw [if_pos hl, if_pos hl]
      cases s with
      | nil => rfl
      | cons c s =>
        simp only
        by_cases hc : c = 32
        · rw [if_pos hc, if_pos hc]; exact ih _ _ _ _ _ _ (by simp at h; omega)
        · rw [if_neg hc, if_neg hc]
    · rw [if_neg hl, if_neg hl]
      by_cases hn : n = 12 ∨ ws.length = 6
      · rw [if_pos hn, if_pos hn]
      · rw [if_neg hn, if_neg hn]
        have hle := len_le sc s
        exact ih _ _ _ _ _ _ (by simp; omega)
def R (sc : Int) (ws : List Bs) (n : Nat) (cur : Bs) (p : Nat) (s : Bs) : Res := run sc (s.length + 1) ws n cur p s
def flush (ws : List Bs) (n : Nat) (cur : Bs) : List Bs := if n = 0 then ws else ws ++ [cur]
theorem R_end (sc ws n cur p) : R sc ws n cur p [] = if flush ws n cur = [] then .bad 6 p else .ok (flush ws n cur) := by
  show (if len sc [] = 0 then _ else _) = _
  rw [if_pos (len_nil sc)]
  rfl
theorem len_blank (sc s) : len sc (32 :: s) = 0 := by
  rw [len_cons]
  unfold l2
  have h1 : smallS.contains (32 : UInt8) = false := by decide
  have h2 : (smallS ++ capS).contains (32 : UInt8) = false := by decide
  have h3 : abjS.contains (32 : UInt8) = false := by decide
  have h4 : onsS.contains (32 : UInt8) = false := by decide
  have h5 : vowS.contains (32 : UInt8) = false := by decide
  rw [h1, h2, h3, h4, h5]
  simp
theorem R_blank (sc ws n cur p s) : R sc ws n cur p (32 :: s) = R sc (flush ws n cur) 0 [] (p + 1) s := by
  show (if len sc (32 :: s) = 0 then (if (32 : UInt8) = 32 then _ else _) else _) = _
  rw [if_pos (len_blank sc s), if_pos rfl]
  rfl
theorem R_bad (sc ws n cur p c s) (h : len sc (c :: s) = 0) (hc : c ≠ 32) : R sc ws n cur p (c :: s) = .bad 3 p := by
  simp only [R, List.length_cons, run, h, if_true, if_neg hc]
theorem R_lim (sc ws n cur p s) (h : len sc s ≠ 0) (hn : n = 12 ∨ ws.length = 6) : R sc ws n cur p s = .bad 2 p := by
  simp only [R, run, if_neg h, if_pos hn]
theorem R_letter (sc ws n cur p s) (h : len sc s ≠ 0) (hn : ¬ (n = 12 ∨ ws.length = 6)) : R sc ws n cur p s = R sc ws (n + 1) (cur ++ s.take (len sc s)) (p + len sc s) (s.drop (len sc s)) := by
  have hle := len_le sc s
  have hd : (s.drop (len sc s)).length = s.length - len sc s := List.length_drop
  simp only [R]
  obtain ⟨m, hm⟩ : ∃ m, s.length = (s.drop (len sc s)).length + 1 + m := ⟨s.length - ((s.drop (len sc s)).length + 1), by omega⟩
  rw [hm]
  simp only [run, if_neg h, if_neg hn]
  exact run_more sc _ _ _ _ _ _ _ (Nat.le_refl _)
end Scr
