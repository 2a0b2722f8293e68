/- The law of the names' texts, plain: no program in sight. -/
import Derived.Test.YtgimbkfahfnplaaDoorPuBlanks
import Derived.Test.YtgimbkfahfnplaaDoorC4
namespace Scr
theorem R_word (sc : Int) (ws : List Bs) (t : Bs) (hws : ws.length ≠ 6) (ht : t = [] ∨ t.head? = some 32) (w : Bs) : ∀ (n : Nat) (cur : Bs) (p : Nat), left sc w = [] → n + (letters sc w).length ≤ 12 →
    R sc ws n cur p (w ++ t) = R sc ws (n + (letters sc w).length) (cur ++ w) (p + w.length) t := by
  refine ind (sc := sc) (P := fun w => ∀ (n : Nat) (cur : Bs) (p : Nat), left sc w = [] → n + (letters sc w).length ≤ 12 → R sc ws n cur p (w ++ t) = R sc ws (n + (letters sc w).length) (cur ++ w) (p + w.length) t) ?_ ?_ w
  · intro s h n cur p hl _
    rw [(letters_zero h).2] at hl
    subst hl
    rw [(letters_nil sc).1]
    simp
  · intro s h ih n cur p hl hn
    obtain ⟨e1, e2⟩ := letters_step h
    rw [e2] at hl
    rw [e1, List.length_cons] at hn
    have hle := len_le sc s
    have hacc : t.head?.any accS.contains = false := by
      rcases ht with ht | ht
      · rw [ht]; rfl
      · rw [ht]; decide
    have hvow : t.head?.any vowS.contains = false := by
      rcases ht with ht | ht
      · rw [ht]; rfl
      · rw [ht]; decide
    have hm := len_mid sc s t h (fun _ => hacc) (fun _ _ _ => hvow)
    rw [R_letter sc ws n cur p (s ++ t) (by rw [hm]; exact h) (by omega), hm, List.take_append_of_le_length hle, List.drop_append_of_le_length hle]
    rw [ih (n + 1) _ _ hl (by omega), e1, List.length_cons, List.append_assoc, List.take_append_drop, List.length_drop]
    congr 1
    · omega
    · omega
theorem R_words (sc : Int) : ∀ (rest : List Bs) (ws : List Bs) (p : Nat), rest ≠ [] → ws.length + rest.length ≤ 6 → (∀ w ∈ rest, word sc w = true) → R sc ws 0 [] p (Go.Lib.join rest [32]) = .ok (ws ++ rest)
  | [], _, _, h, _, _ => absurd rfl h
  | [a], ws, p, _, hl, hw => by
    have wa := hw a List.mem_cons_self
    unfold word at wa
    simp only [Bool.and_eq_true, decide_eq_true_eq] at wa
    have e : Go.Lib.join [a] [32] = a ++ [] := by simp [Go.Lib.join]
    simp only [List.length_cons, List.length_nil] at hl
    rw [e, R_word sc ws [] (by omega) (.inl rfl) a 0 [] p wa.1.1 (by omega), R_end]
    have hf : flush ws (0 + (letters sc a).length) ([] ++ a) = ws ++ [a] := by unfold flush; rw [if_neg (by omega), List.nil_append]
    rw [hf, if_neg (by simp)]
  | a :: b :: r, ws, p, _, hl, hw => by
    have wa := hw a List.mem_cons_self
    unfold word at wa
    simp only [Bool.and_eq_true, decide_eq_true_eq] at wa
    have e : Go.Lib.join (a :: b :: r) [32] = a ++ 32 :: Go.Lib.join (b :: r) [32] := by simp [Go.Lib.join, List.intercalate_cons_cons]
    simp only [List.length_cons] at hl
    rw [e, R_word sc ws _ (by omega) (.inr rfl) a 0 [] p wa.1.1 (by omega), R_blank]
    have hf : flush ws (0 + (letters sc a).length) ([] ++ a) = ws ++ [a] := by unfold flush; rw [if_neg (by omega), List.nil_append]
    rw [hf, R_words sc (b :: r) (ws ++ [a]) _ (by simp) (by simp; omega) (fun w hm => hw w (List.mem_cons_of_mem _ hm)), List.append_assoc]
    rfl
def Jl (l : List Bs) : Nat := (l.map fun w => w.length + 1).sum
theorem Jl_append (l m : List Bs) : Jl (l ++ m) = Jl l + Jl m := by unfold Jl; rw [List.map_append, List.sum_append]
theorem join_J : ∀ l : List Bs, l ≠ [] → (Go.Lib.join l [32]).length + 1 = Jl l
  | [], h => absurd rfl h
  | [a], _ => by simp [Go.Lib.join, Jl]
  | a :: b :: r, _ => by
    have e : Go.Lib.join (a :: b :: r) [32] = a ++ 32 :: Go.Lib.join (b :: r) [32] := by simp [Go.Lib.join, List.intercalate_cons_cons]
    have ih := join_J (b :: r) (by simp)
    have hj : Jl (a :: b :: r) = a.length + 1 + Jl (b :: r) := by simp [Jl]
    rw [e, hj, ← ih, List.length_append, List.length_cons]
    omega
structure Good (sc : Int) (ws : List Bs) (n : Nat) (cur s : Bs) : Prop where
  words : ∀ w ∈ ws, word sc w = true
  left_ : left sc cur = []
  count : (letters sc cur).length = n
  few : n ≤ 12
  last : sc = 4 → (letters sc cur).getLast? = some [110] → s.head?.any vowS.contains = false
theorem Good.flush {sc ws n cur s} (h : Good sc ws n cur s) (t : Bs) : Good sc (flush ws n cur) 0 [] t := by
  refine ⟨fun w hw => ?_, (letters_nil sc).2, by rw [(letters_nil sc).1]; rfl, by omega, fun _ e => by rw [(letters_nil sc).1] at e; cases e⟩
  unfold Scr.flush at hw
  by_cases hn : n = 0
  · rw [if_pos hn] at hw; exact h.words w hw
  · rw [if_neg hn] at hw
    rcases List.mem_append.1 hw with hw | hw
    · exact h.words w hw
    · obtain rfl := List.mem_singleton.1 hw
      have h1 := h.count
      have h2 := h.few
      unfold word
      simp only [Bool.and_eq_true, decide_eq_true_eq]
      exact ⟨⟨h.left_, by omega⟩, by omega⟩
theorem head_take {s : Bs} {k : Nat} (hk : 0 < k) : (s.take k).head? = s.head? := by
  obtain ⟨k, rfl⟩ : ∃ m, k = m + 1 := ⟨k - 1, by omega⟩
  cases s <;> simp
theorem Good.letter {sc ws n cur s} (h : Good sc ws n cur s) (hl : len sc s ≠ 0) (hn : n ≠ 12) : Good sc ws (n + 1) (cur ++ s.take (len sc s)) (s.drop (len sc s)) := by
  have hle := len_le sc s
  have ht := len_take sc s
  have hx : letters sc (s.take (len sc s)) = [s.take (len sc s)] ∧ left sc (s.take (len sc s)) = [] := by
    obtain ⟨f1, f2⟩ := letters_step (sc := sc) (s := s.take (len sc s)) (by rw [ht]; exact hl)
    rw [ht] at f1 f2
    have : (s.take (len sc s)).drop (len sc s) = [] := by simp
    rw [this, (letters_nil sc).1] at f1
    rw [this, (letters_nil sc).2] at f2
    rw [f1, f2, List.take_take, Nat.min_self]; simp
  have hacc : sc = 2 → (s.take (len sc s)).head?.any accS.contains = false := by
    intro e
    rw [head_take (by omega)]
    cases s with
    | nil => rfl
    | cons c r =>
      rw [len_cons] at hl
      subst e
      unfold l2 at hl
      rw [if_neg (by decide), if_pos rfl] at hl
      by_cases hc : (smallS ++ capS).contains c = true
      · exact let_acc c hc
      · rw [if_neg hc] at hl; exact absurd rfl hl
  obtain ⟨a1, a2⟩ := letters_append sc (s.take (len sc s)) hacc cur h.left_ (fun e e' => by rw [head_take (by omega)]; exact h.last e e')
  have h1 := h.count
  have h2 := h.few
  refine ⟨h.words, by rw [a2, hx.2], by rw [a1, hx.1, List.length_append, h1]; rfl, by omega, fun e e' => ?_⟩
  rw [a1, hx.1, List.getLast?_append] at e'
  have e2 : s.take (len sc s) = [110] := by simpa using e'
  subst e
  match s, hl, e2 with
  | [], hl, _ => exact absurd (len_nil 4) hl
  | c :: r, hl, e2 =>
    have e3 : len 4 (c :: r) = 1 := by
      have := congrArg List.length e2
      rw [List.length_take] at this
      simp at this hle
      omega
    rw [e3] at e2 ⊢
    simp at e2
    subst e2
    rw [len_cons] at e3
    rw [List.drop_succ_cons, List.drop_zero]
    cases hv : r.head?.any vowS.contains with
    | false => rfl
    | true =>
      unfold l2 at e3
      rw [if_neg (by decide), if_neg (by decide), if_neg (by decide), if_pos rfl, hv] at e3
      exact absurd e3 (by decide)
theorem R_good (sc : Int) : ∀ (M : Nat) (s : Bs) (ws : List Bs) (n : Nat) (cur : Bs) (p : Nat) (w : List Bs), s.length ≤ M → Good sc ws n cur s → R sc ws n cur p s = .ok w →
    (∀ x ∈ w, word sc x = true) ∧ w ≠ [] ∧ Jl w ≤ Jl ws + cur.length + 1 + s.length := by
  intro M
  have hend : ∀ (ws : List Bs) (n : Nat) (cur : Bs) (p : Nat) (w : List Bs), Good sc ws n cur [] → R sc ws n cur p [] = .ok w → (∀ x ∈ w, word sc x = true) ∧ w ≠ [] ∧ Jl w ≤ Jl ws + cur.length + 1 + 0 := fun ws n cur p w hg h => by
    rw [R_end] at h
    by_cases h0 : flush ws n cur = []
    · rw [if_pos h0] at h; cases h
    · rw [if_neg h0] at h
      obtain rfl := Res.ok.inj h
      refine ⟨(hg.flush []).words, h0, ?_⟩
      unfold flush
      by_cases hn : n = 0
      · rw [if_pos hn]; omega
      · rw [if_neg hn, Jl_append]
        have : Jl [cur] = cur.length + 1 := by simp [Jl]
        omega
  induction M with
  | zero =>
    intro s ws n cur p w hM hg h
    obtain rfl : s = [] := List.eq_nil_of_length_eq_zero (by omega)
    exact hend ws n cur p w hg h
  | succ M ih =>
    intro s ws n cur p w hM hg h
    by_cases hl : len sc s = 0
    · cases s with
      | nil => exact hend ws n cur p w hg h
      | cons c r =>
        by_cases hc : c = 32
        · subst hc
          rw [R_blank] at h
          obtain ⟨h1, h2, h3⟩ := ih r _ _ _ _ w (by simp at hM; omega) (hg.flush r) h
          refine ⟨h1, h2, ?_⟩
          have : Jl (flush ws n cur) ≤ Jl ws + cur.length + 1 := by
            unfold flush
            by_cases hn : n = 0
            · rw [if_pos hn]; omega
            · rw [if_neg hn, Jl_append]
              have : Jl [cur] = cur.length + 1 := by simp [Jl]
              omega
          simp only [List.length_cons, List.length_nil] at h3 ⊢
          omega
        · rw [R_bad _ _ _ _ _ _ _ hl hc] at h; cases h
    · have hle := len_le sc s
      by_cases hn : n = 12 ∨ ws.length = 6
      · rw [R_lim _ _ _ _ _ _ hl hn] at h; cases h
      · rw [R_letter _ _ _ _ _ _ hl hn] at h
        obtain ⟨h1, h2, h3⟩ := ih _ _ _ _ _ w (by rw [List.length_drop]; omega) (hg.letter hl (fun e => hn (.inl e))) h
        refine ⟨h1, h2, ?_⟩
        rw [List.length_append, List.length_take, List.length_drop] at h3
        omega
end Scr
namespace Go.Proofs.YtgimbkfahfnplaaDoor.Pu
open Go.RowKit Go.Lib Go.Proofs.YtgimbkfahfnplaaDoorW.PrintWords Go.Proofs.YtgimbkfahfnplaaDoor.X1 Go.Proofs.YtgimbkfahfnplaaDoor.X2 Go.Proofs.YtgimbkfahfnplaaDoor.X3 Go.Proofs.YtgimbkfahfnplaaDoor.X4 Go.Proofs.YtgimbkfahfnplaaDoor.X5 Go.Proofs.YtgimbkfahfnplaaDoor.A Go.Proofs.YtgimbkfahfnplaaDoor.B Go.Proofs.YtgimbkfahfnplaaDoor.C

theorem known_title {l : List UInt8} (h : known l ≠ 0) : title (known l) = l := by
  unfold known at h ⊢
  by_cases h1 : l = title 1
  · rw [if_pos h1, h1]
  rw [if_neg h1] at h ⊢
  by_cases h2 : l = title 2
  · rw [if_pos h2, h2]
  rw [if_neg h2] at h ⊢
  by_cases h3 : l = title 3
  · rw [if_pos h3, h3]
  rw [if_neg h3] at h ⊢
  by_cases h4 : l = title 4
  · rw [if_pos h4, h4]
  rw [if_neg h4] at h
  exact absurd rfl h
theorem title_facts {sc : Int} (h1 : 1 ≤ sc) (h4 : sc ≤ 4) (t : List UInt8) : Lib.indexByte (title sc ++ 58 :: t) 58 = ((title sc).length : Int) ∧ known (title sc) = sc ∧ (title sc).length ≤ 6 := by
  have e : sc = 1 ∨ sc = 2 ∨ sc = 3 ∨ sc = 4 := by omega
  rcases e with rfl | rfl | rfl | rfl
  · exact ⟨rfl, by decide, by decide⟩
  · exact ⟨rfl, by decide, by decide⟩
  · exact ⟨rfl, by decide, by decide⟩
  · exact ⟨rfl, by decide, by decide⟩
theorem ok_parts {sc : Int} {l : List ByteArray} (h : nameOk sc l = true) : (∀ w ∈ l, Scr.word sc w.data.toList = true) ∧ 1 ≤ l.length ∧ l.length ≤ 6 ∧ 1 ≤ sc ∧ sc ≤ 4 := by
  unfold nameOk at h
  simp only [Bool.and_eq_true, decide_eq_true_eq, List.all_eq_true] at h
  refine ⟨h.1.1, h.1.2, h.2, ?_⟩
  match l, h with
  | [], h => exact absurd h.1.2 (by simp)
  | a :: r, h => exact (word_len sc _ (h.1.1 a List.mem_cons_self)).2
theorem parse_text {sc : Int} {l : List ByteArray} (h : nameOk sc l = true) : script_Parse.f (bs (textOf sc l)) = some (sc, l, 0, 0) := by
  obtain ⟨hw, h1, h6, s1, s4⟩ := ok_parts h
  have e0 : textOf sc l = title sc ++ 58 :: Lib.join (l.map (·.data.toList)) [32] := by unfold textOf; rw [List.append_assoc]; rfl
  obtain ⟨t1, t2, t3⟩ := title_facts s1 s4 (Lib.join (l.map (·.data.toList)) [32])
  have hjl := join_len (l.map (·.data.toList)) 24 (fun x hx => by
    obtain ⟨y, hy, rfl⟩ := List.mem_map.1 hx
    exact (word_len sc _ (hw y hy)).1)
  rw [List.length_map] at hjl
  have hsz : (bs (textOf sc l)).size ≤ 20000 := by
    rw [size_len, data_bs, e0, List.length_append, List.length_cons]; omega
  unfold script_Parse.f parseL
  rw [if_neg (by omega), data_bs, e0, t1, Int.toNat_natCast, List.take_left, t2, if_neg (by omega)]
  have hd : (title sc ++ 58 :: Lib.join (l.map (·.data.toList)) [32]).drop ((title sc).length + 1) = Lib.join (l.map (·.data.toList)) [32] := by
    rw [← List.drop_drop, List.drop_left]; rfl
  have hne : l.map (·.data.toList) ≠ [] := fun e => by
    have := congrArg List.length e
    rw [List.length_map] at this
    simp at this
    rw [this] at h1
    simp at h1
  rw [hd, Scr.R_words sc (l.map (·.data.toList)) [] _ hne (by rw [List.length_map]; simpa using h6) (fun w hm => by
    obtain ⟨y, hy, rfl⟩ := List.mem_map.1 hm
    exact hw y hy), List.nil_append]
  have := map_bs l
  unfold data at this
  simp only [parseRes, this]
theorem parse_ok {s : ByteArray} (hs : s.size ≤ 20000) {a : Int} {l : List ByteArray} {at_ : Int} (h : script_Parse.f s = some (a, l, 0, at_)) : nameOk a l = true ∧ at_ = 0 ∧ (textOf a l).length ≤ s.size := by
  rcases parse_cases s hs with h' | ⟨j, hj, hjl, hk, h'⟩
  · rw [h] at h'; cases h'
  · rw [h'] at h
    cases hR : Scr.R (known (s.data.toList.take j)) [] 0 [] (j + 1) (s.data.toList.drop (j + 1)) with
    | bad e q =>
      rw [hR] at h
      have h := Option.some.inj h
      simp only [parseRes, Prod.mk.injEq] at h
      have hb := Scr.tells (known (s.data.toList.take j)) _ (s.data.toList.drop (j + 1)) [] 0 [] (j + 1) (Nat.le_refl _)
      exfalso
      rcases hb with ⟨w, hb⟩ | hb | ⟨e', q', he, hb, _⟩
      · rw [hR] at hb; cases hb
      · rw [hR] at hb; cases hb; exact absurd h.2.2.1 (by decide)
      · rw [hR] at hb; cases hb
        rcases he with rfl | rfl
        · exact absurd h.2.2.1 (by decide)
        · exact absurd h.2.2.1 (by decide)
    | ok w =>
      rw [hR] at h
      have h := Option.some.inj h
      simp only [parseRes, Prod.mk.injEq] at h
      obtain ⟨rfl, rfl, _, h4⟩ := h
      have hg0 : Scr.Good (known (s.data.toList.take j)) [] 0 [] (s.data.toList.drop (j + 1)) :=
        ⟨fun w hw => absurd hw (by simp), (Scr.letters_nil _).2, by rw [(Scr.letters_nil _).1]; rfl, by omega, fun _ e => by rw [(Scr.letters_nil _).1] at e; simp at e⟩
      obtain ⟨g1, g2, g3⟩ := Scr.R_good _ _ (s.data.toList.drop (j + 1)) [] 0 [] (j + 1) w (Nat.le_refl _) hg0 hR
      have hlen6 := Scr.R_few _ _ (s.data.toList.drop (j + 1)) [] 0 [] (j + 1) w (Nat.le_refl _) (by simp) (by simp) hR
      have hw0 : 0 < w.length := List.length_pos_iff.2 g2
      have hmm : (w.map bs).map (fun x : ByteArray => x.data.toList) = w := by rw [List.map_map]; exact List.map_id _
      refine ⟨?_, h4.symm, ?_⟩
      · unfold nameOk
        simp only [Bool.and_eq_true, decide_eq_true_eq, List.all_eq_true, List.length_map]
        refine ⟨⟨fun x hx => ?_, hw0⟩, hlen6⟩
        obtain ⟨y, hy, rfl⟩ := List.mem_map.1 hx
        exact g1 y hy
      · unfold textOf
        rw [known_title hk, hmm, List.length_append, List.length_append]
        have hj2 := Scr.join_J w g2
        rw [List.length_drop, ← size_len] at g3
        have ht : (s.data.toList.take j).length = j := by rw [List.length_take, ← size_len]; omega
        rw [ht]
        simp only [Scr.Jl, List.map_nil, List.sum_nil, List.length_nil, List.length_cons] at g3 ⊢
        simp only [Scr.Jl] at hj2
        omega
theorem parse_bad {s : ByteArray} (hs : s.size ≤ 20000) {a : Int} {l : List ByteArray} {e at_ : Int} (h : script_Parse.f s = some (a, l, e, at_)) (he : e ≠ 0) : a = 0 ∧ l = [] ∧ -1 ≤ at_ ∧ at_ ≤ s.size := by
  rcases parse_cases s hs with h' | ⟨j, hj, hjl, hk, h'⟩
  · rw [h] at h'
    cases h'
    exact ⟨rfl, rfl, by omega, by omega⟩
  · rw [h'] at h
    have hlen : (s.data.toList.drop (j + 1)).length = s.size - (j + 1) := by rw [List.length_drop, ← size_len]
    rcases Scr.tells (known (s.data.toList.take j)) _ (s.data.toList.drop (j + 1)) [] 0 [] (j + 1) (Nat.le_refl _) with ⟨w, hb⟩ | hb | ⟨e', q', _, hb, _, hq, _⟩
    · rw [hb] at h
      have h := Option.some.inj h
      simp only [parseRes, Prod.mk.injEq] at h
      exact absurd h.2.2.1.symm he
    · rw [hb] at h
      have h := Option.some.inj h
      simp only [parseRes, Prod.mk.injEq] at h
      obtain ⟨rfl, rfl, _, rfl⟩ := h
      exact ⟨rfl, rfl, by omega, by omega⟩
    · rw [hb] at h
      have h := Option.some.inj h
      simp only [parseRes, Prod.mk.injEq] at h
      obtain ⟨rfl, rfl, _, rfl⟩ := h
      exact ⟨rfl, rfl, by omega, by omega⟩
theorem valid_k (sc : Int) (l : List ByteArray) (hs : small l) (k : Nat) (hk : l.length < k) : script_Valid.f k sc l = some (nameOk sc l) := by
  have := valid_l sc l hs l.length k 0 (by omega) (by omega) hk
  simpa [script_Valid.f, nameOk] using this
theorem few_l (l : List ByteArray) (a : Int) : ∀ (d k i : Nat), i ≤ l.length → i ≤ 20 → 20 - i = d → 2 * d + 3 < k → (customhouseref09_Few.l0 k (i : Int) a l = some true ∧ (∀ j, i ≤ j → ∀ h : j < l.length, l[j].size ≤ 100) ∧ l.length ≤ 20) ∨ customhouseref09_Few.l0 k (i : Int) a l = some false := by
  intro d
  induction d with
  | zero =>
    intro k i hi h20 hd hk
    obtain ⟨k, rfl⟩ : ∃ m, k = m + 2 := ⟨k - 2, by omega⟩
    have hi20 : i = 20 := by omega
    simp only [customhouseref09_Few.l0, customhouseref09_Few.j1]
    by_cases hl : l.length ≤ 20
    · left
      refine ⟨?_, fun j hj h => by omega, hl⟩
      rw [if_neg (by omega), if_neg (by simp), decide_eq_true (by omega)]
    · right
      rw [if_pos (by omega), if_neg (by simp; omega), decide_eq_false (by omega)]
  | succ d ih =>
    intro k i hi h20 hd hk
    obtain ⟨k, rfl⟩ : ∃ m, k = m + 2 := ⟨k - 2, by omega⟩
    have hw1 : wrap64 ((i : Int) + 1) = ((i + 1 : Nat) : Int) := by unfold wrap64; omega
    simp only [customhouseref09_Few.l0, customhouseref09_Few.j1]
    by_cases hlt : i < l.length
    · rw [if_pos (by omega), if_pos (by simp; omega), if_pos (by omega), if_pos (by omega), rd_lt l i hlt]
      by_cases hb : l[i].size ≤ 100
      · rw [if_neg (by omega), hw1]
        rcases ih k (i + 1) (by omega) (by omega) (by omega) (by omega) with ⟨h1, h2, h3⟩ | h1
        · left
          refine ⟨h1, fun j hj h => ?_, h3⟩
          by_cases e : j = i
          · subst e; exact hb
          · exact h2 j (by omega) h
        · right; exact h1
      · right
        rw [if_pos (by omega)]
    · left
      rw [if_neg (by omega), if_neg (by simp), decide_eq_true (by omega)]
      exact ⟨rfl, fun j hj h => by omega, by omega⟩
theorem few_f (k : Nat) (a : Int) (l : List ByteArray) (hk : 50 < k) : (customhouseref09_Few.f k a l = some true ∧ (∀ x ∈ l, x.size ≤ 100) ∧ l.length ≤ 20) ∨ customhouseref09_Few.f k a l = some false := by
  rcases few_l l a 20 k 0 (by omega) (by omega) (by omega) (by omega) with ⟨h1, h2, h3⟩ | h1
  · left
    refine ⟨h1, fun x hx => ?_, h3⟩
    obtain ⟨j, hj, rfl⟩ := List.getElem_of_mem hx
    exact h2 j (by omega) hj
  · right; exact h1
theorem small_of {l : List ByteArray} (h : ∀ x ∈ l, x.size ≤ 100) (hl : l.length ≤ 20) : small l := ⟨fun w hw => by have := h w hw; omega, by omega⟩
theorem small_ok {sc : Int} {l : List ByteArray} (h : nameOk sc l = true) : small l := by
  obtain ⟨hw, h1, h6, s1, s4⟩ := ok_parts h
  exact ⟨fun w hm => by have := (word_len sc _ (hw w hm)).1; rw [size_len]; omega, by omega⟩
theorem texts_j2 (k : Nat) (t : ByteArray) (ht : t.size ≤ 2000) (hk : 50 < k) : customhouselaw09_ScriptTexts.j2 k t true = some true := by
  obtain ⟨k, rfl⟩ : ∃ n, k = n + 1 := ⟨k - 1, by omega⟩
  simp only [customhouselaw09_ScriptTexts.j2]
  obtain ⟨⟨a, l, e, q⟩, hp⟩ : ∃ r, script_Parse.f t = some r := ⟨_, rfl⟩
  rw [hp, Option.bind_some]
  simp only
  by_cases he : e = 0
  · subst he
    obtain ⟨h1, h2, h3⟩ := parse_ok (by omega) hp
    subst h2
    have hsm := small_ok h1
    have hT : script_Text.f a l = some (bs (textOf a l), 0) := by unfold script_Text.f; rw [if_pos hsm, if_pos h1]
    have h6 := (ok_parts h1).2.2.1
    rw [if_pos trivial, hT, Option.bind_some, if_pos trivial, if_pos rfl, valid_k a l hsm k (by omega), Option.bind_some, h1, if_pos rfl, if_pos rfl]
    have : (bs (textOf a l)).size = (textOf a l).length := by rw [size_len, data_bs]
    simp only [this]
    rw [decide_eq_true (by omega)]
    exact if_pos trivial
  · obtain ⟨h1, h2, h3, h4⟩ := parse_bad (by omega) hp he
    subst h1; subst h2
    rw [if_neg he, if_pos trivial, if_pos rfl, if_pos (by simp), if_pos (by omega), decide_eq_true h4]
theorem textsLaw (a : Int) (l : List ByteArray) (b : Int) (m : List ByteArray) (t : ByteArray) : customhouselaw09_ScriptTexts.f 300 a l b m t = some true := by
  unfold customhouselaw09_ScriptTexts.f
  rw [head_f, Option.bind_some]
  have skip : customhouselaw09_ScriptTexts.j0 300 t true true a l b m = some true := by
    show customhouselaw09_ScriptTexts.j0 (299 + 1) _ _ _ _ _ _ _ = _
    simp only [customhouselaw09_ScriptTexts.j0]
    rw [if_pos trivial]
  rcases few_f 300 a l (by omega) with ⟨f1, f2, f3⟩ | f1
  · rw [f1, Option.bind_some, if_pos rfl]
    rcases few_f 300 b m (by omega) with ⟨g1, g2, g3⟩ | g1
    · rw [g1, Option.bind_some, if_pos rfl]
      by_cases ht : t.size ≤ 2000
      · have sl := small_of f2 f3
        have sm := small_of g2 g3
        have hT : ∀ (sc : Int) (l : List ByteArray), small l → script_Text.f sc l = if nameOk sc l = true then some (bs (textOf sc l), 0) else some (bs [], 1) := fun sc l hs => by unfold script_Text.f; rw [if_pos hs]
        rw [decide_eq_false (by omega)]
        show customhouselaw09_ScriptTexts.j0 (299 + 1) _ _ _ _ _ _ _ = _
        simp only [customhouselaw09_ScriptTexts.j0]
        rw [if_neg (by simp), hT a l sl, hT b m sm]
        by_cases na : nameOk a l = true
        · have h6 := (ok_parts na).2.2.1
          rw [if_pos na, Option.bind_some]
          obtain ⟨⟨tb, eb⟩, hb⟩ : ∃ r, (if nameOk b m = true then some (bs (textOf b m), (0 : Int)) else some (bs [], 1)) = some r := by split <;> exact ⟨_, rfl⟩
          rw [hb, Option.bind_some, valid_k a l sl 299 (by omega), Option.bind_some, na, if_neg (by simp), if_pos rfl]
          show customhouselaw09_ScriptTexts.j1 (298 + 1) _ _ _ _ _ _ _ _ _ _ _ = _
          simp only [customhouselaw09_ScriptTexts.j1]
          rw [if_neg (by simp), if_pos trivial, parse_text na, Option.bind_some]
          simp only
          rw [if_pos trivial, if_pos trivial, same_f _ _ _ _ _ (by omega) (by omega), Option.bind_some]
          rw [if_pos (by simp)]
          by_cases he : eb = 0
          · rw [if_pos he, same_f _ _ _ _ _ (by omega) (by omega), Option.bind_some]
            have nb : nameOk b m = true := by
              cases h : nameOk b m with
              | true => rfl
              | false => rw [h, if_neg (by simp)] at hb; cases hb; exact absurd he (by decide)
            rw [if_pos nb] at hb
            cases hb
            have key : ((bs (textOf a l)).toList == (bs (textOf b m)).toList) = (decide (a = b) && decide (l = m)) := by
              have e1 : (bs (textOf a l)).toList = textOf a l := by rw [ByteArray.toList_eq]; rfl
              have e2 : (bs (textOf b m)).toList = textOf b m := by rw [ByteArray.toList_eq]; rfl
              rw [e1, e2]
              by_cases h : textOf a l = textOf b m
              · have p1 := parse_text na
                have p2 := parse_text nb
                rw [h] at p1
                have := p1.symm.trans p2
                cases this
                simp
              · have : ¬ (a = b ∧ l = m) := fun e => h (by rw [e.1, e.2])
                have hd : (decide (a = b) && decide (l = m)) = false := by
                  rw [Bool.and_eq_false_iff]
                  by_cases e : a = b
                  · right; exact decide_eq_false (fun e' => this ⟨e, e'⟩)
                  · left; exact decide_eq_false e
                rw [hd]
                simpa using h
            rw [key, if_neg (by simp)]
            exact texts_j2 298 t ht (by omega)
          · rw [if_neg he]
            exact texts_j2 298 t ht (by omega)
        · have na' : nameOk a l = false := by simpa using na
          rw [if_neg na, Option.bind_some]
          obtain ⟨⟨tb, eb⟩, hb⟩ : ∃ r, (if nameOk b m = true then some (bs (textOf b m), (0 : Int)) else some (bs [], 1)) = some r := by split <;> exact ⟨_, rfl⟩
          rw [hb, Option.bind_some, valid_k a l sl 299 (by omega), Option.bind_some, na', if_neg (by simp), if_neg (by decide), if_pos rfl]
          show customhouselaw09_ScriptTexts.j1 (298 + 1) _ _ _ _ _ _ _ _ _ _ _ = _
          simp only [customhouselaw09_ScriptTexts.j1]
          have hx : ((bs []).toList != ([] : List UInt8)) = false := by rw [ByteArray.toList_eq]; rfl
          rw [hx, if_neg (by simp), if_neg (by decide)]
          exact texts_j2 298 t ht (by omega)
      · rw [decide_eq_true (by omega)]
        exact skip
    · rw [g1, Option.bind_some, if_neg (by simp)]
      exact skip
  · rw [f1, Option.bind_some, if_neg (by simp)]
    exact skip
end Go.Proofs.YtgimbkfahfnplaaDoor.Pu
