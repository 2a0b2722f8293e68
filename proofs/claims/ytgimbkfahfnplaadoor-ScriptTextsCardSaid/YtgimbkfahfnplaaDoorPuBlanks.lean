/- The law of the blanks, plain: no program in sight. -/
import Derived.Test.YtgimbkfahfnplaaDoorPuParse
import Derived.Test.YtgimbkfahfnplaaDoorPuTexts
import Derived.Test.YtgimbkfahfnplaaDoorC5
namespace Scr
/-- Two readings that come to the same words, or to the same error. -/
def Alike (r r' : Res) : Prop := (∃ w, r = .ok w ∧ r' = .ok w) ∨ ∃ e q q', r = .bad e q ∧ r' = .bad e q'
theorem alike_end (sc : Int) (ws ws' : List Bs) (n n' : Nat) (cur cur' : Bs) (p p' : Nat) (h : flush ws n cur = flush ws' n' cur') : Alike (R sc ws n cur p []) (R sc ws' n' cur' p' []) := by
  rw [R_end, R_end, ← h]
  by_cases h0 : flush ws n cur = []
  · rw [if_pos h0, if_pos h0]; exact .inr ⟨_, _, _, rfl, rfl⟩
  · rw [if_neg h0, if_neg h0]; exact .inl ⟨_, rfl, rfl⟩
theorem alike_pos (sc : Int) : ∀ (m : Nat) (s : Bs) (ws : List Bs) (n : Nat) (cur : Bs) (p p' : Nat), s.length ≤ m → Alike (R sc ws n cur p s) (R sc ws n cur p' s) := by
  intro m
  induction m with
  | zero =>
    intro s ws n cur p p' hm
    obtain rfl : s = [] := List.eq_nil_of_length_eq_zero (by omega)
    exact alike_end _ _ _ _ _ _ _ _ _ rfl
  | succ m ih =>
    intro s ws n cur p p' hm
    by_cases hl : len sc s = 0
    · cases s with
      | nil => exact alike_end _ _ _ _ _ _ _ _ _ rfl
      | cons c r =>
        by_cases hc : c = 32
        · subst hc
          rw [R_blank, R_blank]
          exact ih r _ _ _ _ _ (by simp at hm; omega)
        · rw [R_bad _ _ _ _ _ _ _ hl hc, R_bad _ _ _ _ _ _ _ hl hc]
          exact .inr ⟨_, _, _, rfl, rfl⟩
    · have hle := len_le sc s
      by_cases hn : n = 12 ∨ ws.length = 6
      · rw [R_lim _ _ _ _ _ _ hl hn, R_lim _ _ _ _ _ _ hl hn]
        exact .inr ⟨_, _, _, rfl, rfl⟩
      · rw [R_letter _ _ _ _ _ _ hl hn, R_letter _ _ _ _ _ _ hl hn]
        exact ih _ _ _ _ _ _ (by rw [List.length_drop]; omega)
theorem flush_flush (ws n cur) : flush (flush ws n cur) 0 [] = flush ws n cur := rfl
theorem l2_zero {sc : Int} {a : UInt8} {ob oc : Option UInt8} (h : l2 sc a ob = 0) (hc : oc.any vowS.contains = false) : l2 sc a oc = 0 := by
  unfold l2 at h ⊢
  by_cases h1 : sc = 1
  · rw [if_pos h1] at h ⊢; exact h
  rw [if_neg h1] at h ⊢
  by_cases h2 : sc = 2
  · rw [if_pos h2] at h ⊢
    by_cases hs : (smallS ++ capS).contains a = true
    · rw [if_pos hs] at h; split at h <;> cases h
    · rw [if_neg hs]
  rw [if_neg h2] at h ⊢
  by_cases h3 : sc = 3
  · rw [if_pos h3] at h ⊢; exact h
  rw [if_neg h3] at h ⊢
  by_cases h4 : sc = 4
  · rw [if_pos h4] at h ⊢
    rw [hc, Bool.and_false, if_neg (by simp)]
    split at h
    · cases h
    · exact h
  · rw [if_neg h4]
theorem l2_blank (sc : Int) (a : UInt8) : l2 sc a (some 32) ≠ 2 := by
  have a1 : accS.contains (32 : UInt8) = false := by decide
  have a2 : vowS.contains (32 : UInt8) = false := by decide
  unfold l2
  rw [Option.any_some, Option.any_some, a1, a2, Bool.and_false]
  by_cases h1 : sc = 1
  · rw [if_pos h1]; split <;> decide
  rw [if_neg h1]
  by_cases h2 : sc = 2
  · rw [if_pos h2, if_neg (show ¬ false = true by decide)]; split <;> decide
  rw [if_neg h2]
  by_cases h3 : sc = 3
  · rw [if_pos h3]; split <;> decide
  rw [if_neg h3]
  by_cases h4 : sc = 4
  · rw [if_pos h4, if_neg (show ¬ false = true by decide)]; split <;> decide
  · rw [if_neg h4]; decide
/-- A blank behind a piece of a text that a letter does not cross: its letter stays. -/
theorem len_blanked {sc : Int} {s : Bs} {m : Nat} (hm : 0 < m) (hle : m ≤ s.length) (hb : m = s.length ∨ s[m]? = some 32) : len sc (s.take m ++ 32 :: s.drop m) = len sc s ∧ len sc s ≤ m := by
  match s, hle, hb with
  | [], hle, _ => simp at hle; omega
  | a :: r, hle, hb =>
    have h2 := len_two sc (a :: r)
    have hl2 := len_le sc (a :: r)
    have hcross : len sc (a :: r) ≤ m := by
      by_cases e : len sc (a :: r) ≤ m
      · exact e
      · exfalso
        have hm1 : m = 1 := by omega
        have e2 : len sc (a :: r) = 2 := by omega
        subst hm1
        rw [len_cons] at e2
        rcases hb with hb | hb
        · have : r = [] := List.eq_nil_of_length_eq_zero (by rw [List.length_cons] at hb; omega)
          subst this
          simp at hl2; omega
        · have hr : r.head? = some 32 := by
            cases r with
            | nil => simp at hb
            | cons b r => simpa using hb
          rw [hr] at e2
          exact l2_blank sc a e2
    refine ⟨?_, hcross⟩
    by_cases h0 : len sc (a :: r) = 0
    · obtain ⟨k, rfl⟩ : ∃ k, m = k + 1 := ⟨m - 1, by omega⟩
      rw [h0]
      rw [List.take_succ_cons, List.cons_append, len_cons]
      rw [len_cons] at h0
      cases k with
      | zero =>
        rw [List.take_zero]
        exact l2_zero h0 (show vowS.contains (32 : UInt8) = false by decide)
      | succ k =>
        cases r with
        | nil => simp at hle
        | cons b r => rw [List.take_succ_cons]; exact h0
    · have hp := len_prefix (sc := sc) (s := a :: r) (m := m) h0 hcross
      rw [len_mid sc _ (32 :: (a :: r).drop m) (by rw [hp]; exact h0) (fun _ => show accS.contains (32 : UInt8) = false by decide) (fun _ _ _ => show vowS.contains (32 : UInt8) = false by decide), hp]
theorem alike_blank (sc : Int) : ∀ (M : Nat) (s : Bs) (ws : List Bs) (n : Nat) (cur : Bs) (p p' m : Nat), s.length ≤ M → m ≤ s.length → (m = s.length ∨ s[m]? = some 32) →
    Alike (R sc ws n cur p s) (R sc ws n cur p' (s.take m ++ 32 :: s.drop m)) := by
  intro M
  induction M with
  | zero =>
    intro s ws n cur p p' m hM hle hb
    obtain rfl : s = [] := List.eq_nil_of_length_eq_zero (by omega)
    rw [List.take_nil, List.drop_nil, List.nil_append, R_blank]
    exact alike_end _ _ _ _ _ _ _ _ _ rfl
  | succ M ih =>
    intro s ws n cur p p' m hM hle hb
    by_cases hm : m = 0
    · subst hm
      rw [List.take_zero, List.drop_zero, List.nil_append, R_blank]
      cases s with
      | nil => exact alike_end _ _ _ _ _ _ _ _ _ rfl
      | cons c r =>
        have hc : c = 32 := by
          rcases hb with hb | hb
          · simp at hb
          · simpa using hb
        subst hc
        rw [R_blank, R_blank, flush_flush]
        exact alike_pos sc _ r _ _ _ _ _ (Nat.le_refl _)
    · obtain ⟨he, hcr⟩ := len_blanked (sc := sc) (s := s) (m := m) (by omega) hle hb
      by_cases hl : len sc s = 0
      · cases s with
        | nil => simp at hle; omega
        | cons c r =>
          obtain ⟨k, rfl⟩ : ∃ k, m = k + 1 := ⟨m - 1, by omega⟩
          rw [List.take_succ_cons, List.drop_succ_cons, List.cons_append] at he ⊢
          by_cases hc : c = 32
          · subst hc
            rw [R_blank, R_blank]
            refine ih r _ _ _ _ _ k (by simp at hM; omega) (by simp at hle; omega) ?_
            rcases hb with hb | hb
            · left; simp at hb; omega
            · right; simpa using hb
          · rw [R_bad _ _ _ _ _ _ _ hl hc, R_bad _ _ _ _ _ _ _ (he.trans hl) hc]
            exact .inr ⟨_, _, _, rfl, rfl⟩
      · have hls := len_le sc s
        by_cases hn : n = 12 ∨ ws.length = 6
        · rw [R_lim _ _ _ _ _ _ hl hn, R_lim _ _ _ _ _ _ (by rw [he]; exact hl) hn]
          exact .inr ⟨_, _, _, rfl, rfl⟩
        · rw [R_letter _ _ _ _ _ _ hl hn, R_letter _ _ _ _ p' _ (by rw [he]; exact hl) hn, he]
          have hlt : (s.take m).length = m := by rw [List.length_take]; omega
          have e1 : (s.take m ++ 32 :: s.drop m).take (len sc s) = s.take (len sc s) := by
            rw [List.take_append_of_le_length (by rw [hlt]; exact hcr), List.take_take, Nat.min_eq_left hcr]
          have e2 : (s.take m ++ 32 :: s.drop m).drop (len sc s) = (s.drop (len sc s)).take (m - len sc s) ++ 32 :: (s.drop (len sc s)).drop (m - len sc s) := by
            rw [List.drop_append_of_le_length (by rw [hlt]; exact hcr), List.drop_take, List.drop_drop]
            congr 3
            omega
          rw [e1, e2]
          refine ih _ _ _ _ _ _ (m - len sc s) (by rw [List.length_drop]; omega) (by rw [List.length_drop]; omega) ?_
          rcases hb with hb | hb
          · left; rw [List.length_drop]; omega
          · right; rw [List.getElem?_drop]; rw [← hb]; congr 1; omega
theorem R_few (sc : Int) : ∀ (M : Nat) (s : Bs) (ws : List Bs) (n : Nat) (cur : Bs) (p : Nat) (w : List Bs), s.length ≤ M → ws.length ≤ 6 → (0 < n → ws.length ≤ 5) → R sc ws n cur p s = .ok w → w.length ≤ 6 := by
  intro M
  have hfl : ∀ (ws : List Bs) (n : Nat) (cur : Bs), ws.length ≤ 6 → (0 < n → ws.length ≤ 5) → (flush ws n cur).length ≤ 6 := fun ws n cur h1 h2 => by
    unfold flush
    by_cases hn : n = 0
    · rw [if_pos hn]; exact h1
    · rw [if_neg hn, List.length_append]
      have := h2 (by omega)
      simp; omega
  induction M with
  | zero =>
    intro s ws n cur p w hM h1 h2 h
    obtain rfl : s = [] := List.eq_nil_of_length_eq_zero (by omega)
    rw [R_end] at h
    by_cases h0 : flush ws n cur = []
    · rw [if_pos h0] at h; cases h
    · rw [if_neg h0] at h; cases h; exact hfl ws n cur h1 h2
  | succ M ih =>
    intro s ws n cur p w hM h1 h2 h
    by_cases hl : len sc s = 0
    · cases s with
      | nil =>
        rw [R_end] at h
        by_cases h0 : flush ws n cur = []
        · rw [if_pos h0] at h; cases h
        · rw [if_neg h0] at h; cases h; exact hfl ws n cur h1 h2
      | cons c r =>
        by_cases hc : c = 32
        · subst hc
          rw [R_blank] at h
          exact ih r _ _ _ _ w (by simp at hM; omega) (hfl ws n cur h1 h2) (fun h => by omega) h
        · rw [R_bad _ _ _ _ _ _ _ hl hc] at h; cases h
    · have hle := len_le sc s
      by_cases hn : n = 12 ∨ ws.length = 6
      · rw [R_lim _ _ _ _ _ _ hl hn] at h; cases h
      · rw [R_letter _ _ _ _ _ _ hl hn] at h
        exact ih _ _ _ _ _ w (by rw [List.length_drop]; omega) h1 (fun _ => by omega) h
end Scr
namespace Go.Proofs.YtgimbkfahfnplaaDoor.Pu
open Go.RowKit Go.Lib Go.Proofs.YtgimbkfahfnplaaDoorW.PrintWords Go.Proofs.YtgimbkfahfnplaaDoor.X1 Go.Proofs.YtgimbkfahfnplaaDoor.X2 Go.Proofs.YtgimbkfahfnplaaDoor.X3 Go.Proofs.YtgimbkfahfnplaaDoor.X4 Go.Proofs.YtgimbkfahfnplaaDoor.X5 Go.Proofs.YtgimbkfahfnplaaDoor.A Go.Proofs.YtgimbkfahfnplaaDoor.B Go.Proofs.YtgimbkfahfnplaaDoor.C

theorem same_f (k : Nat) (a b : Int) (l m : List ByteArray) (hl : l.length ≤ 1000000) (hk : l.length < k) : customhouseref09_Same.f k a l b m = some (decide (a = b) && decide (l = m)) := by
  unfold customhouseref09_Same.f
  by_cases h : a = b
  · rw [if_pos h, texts_f k l m hl hk, Option.bind_some, decide_eq_true h, Bool.true_and]
  · rw [if_neg h, decide_eq_false h, Bool.false_and]
theorem bt_at' (s : ByteArray) (i : Nat) (h : i < s.size) : bt s (i : Int) = (((s.data.toList[i]'(by simpa using h)).toNat : Nat) : Int) := by
  rw [← bt_at s (i : Int) (by simpa using h)]
  rfl
theorem blanks_loop (s : ByteArray) (hs : s.size ≤ 2000) : ∀ (d k i : Nat), i ≤ s.size → s.size - i = d → ∃ (m k' : Nat), m ≤ s.size ∧ (m = s.size ∨ s.data.toList[m]? = some 32) ∧ k ≤ k' ∧
    customhouselaw09_ScriptBlanks.l0 (k + d + 1) s true (i : Int) = customhouselaw09_ScriptBlanks.j1 k' s true (m : Int) := by
  intro d
  induction d with
  | zero =>
    intro k i hi hd
    have hie : i = s.size := by omega
    refine ⟨i, k, hi, .inl hie, Nat.le_refl _, ?_⟩
    show customhouselaw09_ScriptBlanks.l0 (k + 0 + 1) _ _ _ = _
    rw [Nat.add_zero]
    conv => lhs; unfold customhouselaw09_ScriptBlanks.l0
    rw [if_neg (by omega)]
  | succ d ih =>
    intro k i hi hd
    have hlt : i < s.size := by omega
    have hll : i < s.data.toList.length := by simpa using hlt
    have hw1 : wrap64 ((i : Int) + 1) = ((i + 1 : Nat) : Int) := by unfold wrap64; omega
    rw [show k + (d + 1) + 1 = (k + d + 1) + 1 by omega]
    by_cases hb : s.data.toList[i]'hll = 32
    · refine ⟨i, k + d + 1, hi, .inr (by rw [List.getElem?_eq_getElem hll, hb]), by omega, ?_⟩
      conv => lhs; unfold customhouselaw09_ScriptBlanks.l0
      rw [if_pos (by omega), if_pos (by omega), bt_at' s i hlt, hb, if_pos (by decide)]
    · obtain ⟨m, k', h1, h2, h3, h4⟩ := ih k (i + 1) (by omega) (by omega)
      refine ⟨m, k', h1, h2, h3, ?_⟩
      conv => lhs; unfold customhouselaw09_ScriptBlanks.l0
      rw [if_pos (by omega), if_pos (by omega), bt_at' s i hlt, if_neg ?_, hw1]
      · exact h4
      · intro e
        exact hb (UInt8.toNat_inj.1 (by show _ = 32; omega))
theorem no_blank {l : List UInt8} (h : known l ≠ 0) : ∀ i : Nat, l[i]? ≠ some 32 := by
  intro i hi
  have hm : (32 : UInt8) ∈ l := List.mem_of_getElem? hi
  unfold known at h
  by_cases h1 : l = title 1
  · rw [h1] at hm; exact absurd hm (by decide)
  by_cases h2 : l = title 2
  · rw [h2] at hm; exact absurd hm (by decide)
  by_cases h3 : l = title 3
  · rw [h3] at hm; exact absurd hm (by decide)
  by_cases h4 : l = title 4
  · rw [h4] at hm; exact absurd hm (by decide)
  rw [if_neg h1, if_neg h2, if_neg h3, if_neg h4] at h
  exact absurd rfl h
theorem index_before : ∀ (l t : List UInt8) (c : UInt8) (j : Nat), Lib.indexByte l c = j → Lib.indexByte (l.take (j + 1) ++ t) c = j := by
  intro l
  induction l with
  | nil => intro t c j h; have h' : (-1 : Int) = j := h; omega
  | cons b l ih =>
    intro t c j h
    rw [List.take_succ_cons, List.cons_append]
    unfold Lib.indexByte at h ⊢
    by_cases hb : (b == c) = true
    · rw [if_pos hb] at h ⊢; exact h
    · rw [if_neg hb] at h ⊢
      by_cases h1 : (Lib.indexByte l c == -1) = true
      · rw [if_pos h1] at h; omega
      · rw [if_neg h1] at h
        have hj0 : 0 < j := by
          have := Lib.indexByte_ge l c
          have h3 : Lib.indexByte l c ≠ -1 := fun e => h1 (by rw [e]; rfl)
          omega
        have := ih t c (j - 1) (by omega)
        rw [show j - 1 + 1 = j by omega] at this
        rw [this]
        have h2 : ¬ ((((j - 1 : Nat) : Int)) == -1) = true := by
          intro e
          have := beq_iff_eq.1 e
          omega
        rw [if_neg h2]
        omega
/-- What Parse answers of a text with a blank more. -/
theorem parse_blank (s t : ByteArray) (hs : s.size ≤ 2000) (m : Nat) (hm : m ≤ s.size) (hb : m = s.size ∨ s.data.toList[m]? = some 32) (ht : t.data.toList = s.data.toList.take m ++ 32 :: s.data.toList.drop m) :
    script_Parse.f s = some (0, [], 5, 0) ∨ ∃ a b c c' : Int, ∃ l, script_Parse.f s = some (a, l, b, c) ∧ script_Parse.f t = some (a, l, b, c') ∧ l.length ≤ 6 := by
  have htz : t.size = s.size + 1 := by
    rw [size_len t, ht, List.length_append, List.length_cons, List.length_take, List.length_drop, ← size_len]; omega
  rcases parse_cases s (by omega) with h | ⟨j, hj, hjl, hk, h⟩
  · exact .inl h
  · have hjm : j + 1 ≤ m := by
      rcases hb with hb | hb
      · omega
      · by_cases e : j + 1 ≤ m
        · exact e
        · exfalso
          by_cases e2 : m = j
          · subst e2
            have := (Lib.indexByte_some hj).1
            rw [hb] at this
            exact absurd (Option.some.inj this) (by decide)
          · refine no_blank hk m ?_
            rw [List.getElem?_take_of_lt (by omega)]
            exact hb
    have htp : t.data.toList = s.data.toList.take (j + 1) ++ ((s.data.toList.drop (j + 1)).take (m - (j + 1)) ++ 32 :: (s.data.toList.drop (j + 1)).drop (m - (j + 1))) := by
      rw [ht, ← List.append_assoc, List.drop_drop, show j + 1 + (m - (j + 1)) = m by omega]
      congr 1
      conv => lhs; rw [← List.take_append_drop (j + 1) (s.data.toList.take m)]
      rw [List.take_take, Nat.min_eq_left hjm, List.drop_take]
    have hjt : Lib.indexByte t.data.toList 58 = j := by rw [htp]; exact index_before _ _ _ _ hj
    have hlen1 : (s.data.toList.take (j + 1)).length = j + 1 := by rw [List.length_take, ← size_len]; omega
    have htk : t.data.toList.take j = s.data.toList.take j := by
      rw [htp, List.take_append_of_le_length (by omega), List.take_take, Nat.min_eq_left (by omega)]
    have htd : t.data.toList.drop (j + 1) = (s.data.toList.drop (j + 1)).take (m - (j + 1)) ++ 32 :: (s.data.toList.drop (j + 1)).drop (m - (j + 1)) := by
      rw [htp, List.drop_append_of_le_length (by omega), List.drop_eq_nil_of_le (by omega), List.nil_append]
    have hpt : script_Parse.f t = some (parseRes (known (s.data.toList.take j)) (Scr.R (known (s.data.toList.take j)) [] 0 [] (j + 1) ((s.data.toList.drop (j + 1)).take (m - (j + 1)) ++ 32 :: (s.data.toList.drop (j + 1)).drop (m - (j + 1))))) := by
      unfold script_Parse.f parseL
      rw [if_neg (by omega), hjt, Int.toNat_natCast, htk, if_neg (by rintro (h | h); omega; exact hk h), htd]
    refine .inr ?_
    rcases Scr.alike_blank (known (s.data.toList.take j)) _ (s.data.toList.drop (j + 1)) [] 0 [] (j + 1) (j + 1) (m - (j + 1)) (Nat.le_refl _) (by rw [List.length_drop, ← size_len]; omega) (by
      rcases hb with hb | hb
      · left; rw [List.length_drop, ← size_len]; omega
      · right; rw [List.getElem?_drop, ← hb]; congr 1; omega) with ⟨w, e1, e2⟩ | ⟨e, q, q', e1, e2⟩
    · rw [e1] at h
      rw [e2] at hpt
      refine ⟨_, 0, 0, 0, w.map bs, h, hpt, ?_⟩
      rw [List.length_map]
      exact Scr.R_few _ _ _ [] 0 [] _ w (Nat.le_refl _) (by simp) (by simp) e1
    · rw [e1] at h
      rw [e2] at hpt
      exact ⟨0, e, _, _, [], h, hpt, by simp⟩
theorem blanks_end (s : ByteArray) (hs : s.size ≤ 2000) (m k : Nat) (hm : m ≤ s.size) (hb : m = s.size ∨ s.data.toList[m]? = some 32) (hk : 20 ≤ k) : customhouselaw09_ScriptBlanks.j1 k s true (m : Int) = some true := by
  obtain ⟨k, rfl⟩ : ∃ n, k = n + 1 := ⟨k - 1, by omega⟩
  simp only [customhouselaw09_ScriptBlanks.j1]
  rw [Int.toNat_natCast]
  have d1 : (s.extract 0 m).data.toList = s.data.toList.take m := take_list s m
  have d2 : (s.extract m s.size).data.toList = s.data.toList.drop m := Lt.toList_extract s m
  have d3 : ((s.extract 0 m ++ (⟨#[32]⟩ : ByteArray)) ++ s.extract m s.size).data.toList = s.data.toList.take m ++ 32 :: s.data.toList.drop m := by
    rw [ByteArray.data_append, Array.toList_append, ByteArray.data_append, Array.toList_append, d1, d2, List.append_assoc]
    rfl
  have z1 : (s.extract 0 m).size ≤ 2000 := by simp; omega
  have z2 : (s.extract m s.size).size ≤ 2000 := by simp; omega
  have z3 : (s.extract 0 m ++ (⟨#[32]⟩ : ByteArray)).size ≤ 2001 := by rw [ByteArray.size_append]; exact Nat.add_le_add z1 (Nat.le_refl 1)
  rcases parse_blank s _ hs m hm hb d3 with h | ⟨a, b, c, c', l, h1, h2, h3⟩
  · rw [h, Option.bind_some, if_pos rfl]
  · rw [h1, Option.bind_some]
    by_cases h5 : b = 5
    · rw [if_pos h5]
    · rw [if_neg h5, if_pos (by omega), if_pos (by omega), if_pos (by omega), if_pos (by omega), h2, Option.bind_some, if_pos trivial, if_pos rfl]
      have hs' := same_f k a a l l (by omega) (by omega)
      exact (congrArg (fun o : Option Bool => o.bind fun t => some t) hs').trans (by simp)
theorem u16_of {x : Int} (h : (Lit.int .u16 x).wf = true) : 0 ≤ x ∧ x < 65536 := by
  simp only [Lit.wf, Bool.and_eq_true, decide_eq_true_eq] at h
  have h1 : IntKind.u16.min = 0 := by decide
  have h2 : IntKind.u16.max = 65535 := by decide
  omega
theorem blanksLaw (s : ByteArray) (x : Int) (hx : 0 ≤ x ∧ x < 65536) : customhouselaw09_ScriptBlanks.f 2100 s x = some true := by
  unfold customhouselaw09_ScriptBlanks.f
  rw [head_f, Option.bind_some]
  by_cases hs : s.size ≤ 2000
  · have w1 : wrap64 x = x := by unfold wrap64; omega
    have w2 : wrap64 ((s.size : Int) + 1) = ((s.size + 1 : Nat) : Int) := by unfold wrap64; omega
    rw [if_neg (by omega), w1, w2, if_neg (by omega)]
    obtain ⟨n, rfl⟩ : ∃ n : Nat, x = n := ⟨x.toNat, by omega⟩
    have hmod : Int.tmod (n : Int) ((s.size + 1 : Nat) : Int) = ((n % (s.size + 1) : Nat) : Int) := by rw [Int.tmod_eq_emod_of_nonneg (by omega)]; rfl
    rw [hmod]
    have hlt : n % (s.size + 1) < s.size + 1 := Nat.mod_lt _ (by omega)
    obtain ⟨m, k', h1, h2, h3, h4⟩ := blanks_loop s hs (s.size - n % (s.size + 1)) (2099 - (s.size - n % (s.size + 1))) (n % (s.size + 1)) (by omega) rfl
    rw [show 2099 - (s.size - n % (s.size + 1)) + (s.size - n % (s.size + 1)) + 1 = 2100 by omega] at h4
    rw [h4]
    exact blanks_end s hs m k' h1 h2 (by omega)
  · rw [if_pos (by omega)]
end Go.Proofs.YtgimbkfahfnplaaDoor.Pu
