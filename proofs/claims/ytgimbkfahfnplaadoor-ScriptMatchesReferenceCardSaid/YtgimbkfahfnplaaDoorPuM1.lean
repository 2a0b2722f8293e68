/- The law of the names' texts, plain: no program in sight. -/
import Derived.Test.YtgimbkfahfnplaaDoorPu
import Derived.Test.YtgimbkfahfnplaaDoorB
namespace Go.Proofs.YtgimbkfahfnplaaDoor.Pu
open Go.RowKit Go.Lib Go.Proofs.YtgimbkfahfnplaaDoorW.PrintWords Go.Proofs.YtgimbkfahfnplaaDoor.X1 Go.Proofs.YtgimbkfahfnplaaDoor.X2 Go.Proofs.YtgimbkfahfnplaaDoor.X3 Go.Proofs.YtgimbkfahfnplaaDoor.X5 Go.Proofs.YtgimbkfahfnplaaDoor.A Go.Proofs.YtgimbkfahfnplaaDoor.B

theorem dec_cons (a : ByteArray) (x y : List ByteArray) : decide (a :: x = a :: y) = decide (x = y) := by
  by_cases h : x = y
  · rw [h]; simp
  · rw [decide_eq_false h, decide_eq_false (fun e => h (List.cons.inj e).2)]
theorem texts_l (l0 l1 : List ByteArray) (hl : l0.length ≤ 1000000) (he : l0.length = l1.length) : ∀ (d k i : Nat), i ≤ l0.length → l0.length - i = d → d < k → customhouseref09_Texts.l0 k l0 l1 (i : Int) = some (decide (l0.drop i = l1.drop i)) := by
  intro d
  induction d with
  | zero =>
    intro k i hi hd hk
    obtain ⟨k, rfl⟩ : ∃ m, k = m + 1 := ⟨k - 1, by omega⟩
    simp only [customhouseref09_Texts.l0]
    rw [if_neg (by omega), List.drop_eq_nil_of_le (by omega), List.drop_eq_nil_of_le (by omega)]
    simp
  | succ d ih =>
    intro k i hi hd hk
    obtain ⟨k, rfl⟩ : ∃ m, k = m + 1 := ⟨k - 1, by omega⟩
    have hlt : i < l0.length := by omega
    have hlt1 : i < l1.length := by omega
    have hw1 : wrap64 ((i : Int) + 1) = ((i + 1 : Nat) : Int) := by unfold wrap64; omega
    simp only [customhouseref09_Texts.l0]
    rw [if_pos (by omega), if_pos (by omega), if_pos (by omega), rd_lt l0 i hlt, rd_lt l1 i hlt1, hw1, List.drop_eq_getElem_cons hlt, List.drop_eq_getElem_cons hlt1]
    by_cases h : l0[i] = l1[i]
    · rw [if_pos (by rw [h]), ih k (i + 1) (by omega) (by omega) (by omega), h, dec_cons]
    · rw [if_neg (fun e => h (bs_ext (list_inj.1 e))), decide_eq_false (fun e => h (List.cons.inj e).1)]
theorem texts_f (k : Nat) (l0 l1 : List ByteArray) (hl : l0.length ≤ 1000000) (hk : l0.length < k) : customhouseref09_Texts.f k l0 l1 = some (decide (l0 = l1)) := by
  unfold customhouseref09_Texts.f
  by_cases h : l0.length = l1.length
  · rw [if_pos (by omega)]
    have := texts_l l0 l1 hl h l0.length k 0 (by omega) (by omega) hk
    simpa using this
  · rw [if_neg (by omega), decide_eq_false (fun e => h (by rw [e]))]
end Go.Proofs.YtgimbkfahfnplaaDoor.Pu

namespace Scr
theorem len_prefix {sc : Int} {s : Bs} {m : Nat} (h : len sc s ≠ 0) (hm : len sc s ≤ m) : len sc (s.take m) = len sc s := by
  match s, h, hm with
  | [], h, _ => exact absurd (len_nil sc) h
  | a :: r, h, hm =>
    obtain ⟨m, rfl⟩ : ∃ k, m = k + 1 := ⟨m - 1, by omega⟩
    rw [List.take_succ_cons, len_cons, len_cons] at *
    cases m with
    | zero =>
      rw [List.take_zero]
      have h1 : l2 sc a r.head? = 1 := by omega
      rw [h1]
      exact l2_one sc a _ _ h1 (fun _ => rfl) (fun _ _ => rfl)
    | succ m =>
      have : (r.take (m + 1)).head? = r.head? := by cases r <;> simp
      rw [this]
/-- Where an error stands, and what the text before it gives. -/
def Tells (sc : Int) (ws : List Bs) (n : Nat) (cur : Bs) (p : Nat) (s : Bs) : Prop :=
  (∃ ws', R sc ws n cur p s = .ok ws') ∨ R sc ws n cur p s = .bad 6 (p + s.length) ∨
  ∃ e q, (e = 3 ∨ e = 2) ∧ R sc ws n cur p s = .bad e q ∧ p ≤ q ∧ q < p + s.length ∧ ((∃ ws', R sc ws n cur p (s.take (q - p)) = .ok ws') ∨ R sc ws n cur p (s.take (q - p)) = .bad 6 q)
theorem tells_nil (sc ws n cur p) : (∃ ws', R sc ws n cur p [] = .ok ws') ∨ R sc ws n cur p [] = .bad 6 p := by
  rw [R_end]
  by_cases h : flush ws n cur = []
  · rw [if_pos h]; exact .inr rfl
  · rw [if_neg h]; exact .inl ⟨_, rfl⟩
theorem tells (sc : Int) : ∀ (m : Nat) (s : Bs) (ws : List Bs) (n : Nat) (cur : Bs) (p : Nat), s.length ≤ m → Tells sc ws n cur p s := by
  intro m
  induction m with
  | zero =>
    intro s ws n cur p hm
    obtain rfl : s = [] := List.eq_nil_of_length_eq_zero (by omega)
    rcases tells_nil sc ws n cur p with h | h
    · exact .inl h
    · exact .inr (.inl h)
  | succ m ih =>
    intro s ws n cur p hm
    by_cases hl : len sc s = 0
    · cases s with
      | nil =>
        rcases tells_nil sc ws n cur p with h | h
        · exact .inl h
        · exact .inr (.inl h)
      | cons c r =>
        have hr : r.length ≤ m := by simp at hm; omega
        by_cases hc : c = 32
        · subst hc
          have hR := R_blank sc ws n cur p r
          rcases ih r (flush ws n cur) 0 [] (p + 1) hr with ⟨w, h⟩ | h | ⟨e, q, he, h, h1, h2, h3⟩
          · exact .inl ⟨w, hR.trans h⟩
          · exact .inr (.inl (by rw [hR, h, List.length_cons]; congr 1; omega))
          · refine .inr (.inr ⟨e, q, he, hR.trans h, by omega, by rw [List.length_cons]; omega, ?_⟩)
            obtain ⟨k, hk⟩ : ∃ k, q - p = k + 1 := ⟨q - p - 1, by omega⟩
            rw [hk, List.take_succ_cons, R_blank]
            rw [show q - (p + 1) = k by omega] at h3
            exact h3
        · have hR := R_bad sc ws n cur p c r hl hc
          refine .inr (.inr ⟨3, p, .inl rfl, hR, by omega, by rw [List.length_cons]; omega, ?_⟩)
          rw [Nat.sub_self, List.take_zero]
          exact tells_nil sc ws n cur p
    · have hle := len_le sc s
      by_cases hn : n = 12 ∨ ws.length = 6
      · refine .inr (.inr ⟨2, p, .inr rfl, R_lim sc ws n cur p s hl hn, by omega, by omega, ?_⟩)
        rw [Nat.sub_self, List.take_zero]
        exact tells_nil sc ws n cur p
      · have hR := R_letter sc ws n cur p s hl hn
        have hd : (s.drop (len sc s)).length = s.length - len sc s := List.length_drop
        rcases ih (s.drop (len sc s)) ws (n + 1) (cur ++ s.take (len sc s)) (p + len sc s) (by omega) with ⟨w, h⟩ | h | ⟨e, q, he, h, h1, h2, h3⟩
        · exact .inl ⟨w, hR.trans h⟩
        · exact .inr (.inl (by rw [hR, h, hd]; congr 1; omega))
        · refine .inr (.inr ⟨e, q, he, hR.trans h, by omega, by omega, ?_⟩)
          have hp := len_prefix (sc := sc) (s := s) (m := q - p) hl (by omega)
          rw [R_letter sc ws n cur p (s.take (q - p)) (by rw [hp]; exact hl) hn, hp, List.take_take, Nat.min_eq_left (by omega), List.drop_take]
          rw [show q - p - len sc s = q - (p + len sc s) by omega]
          exact h3
theorem index_take : ∀ (l : Bs) (c : UInt8) (j q : Nat), Go.Lib.indexByte l c = j → j < q → Go.Lib.indexByte (l.take q) c = j := by
  intro l
  induction l with
  | nil => intro c j q h hq; have h' : (-1 : Int) = j := h; omega
  | cons b l ih =>
    intro c j q h hq
    obtain ⟨q, rfl⟩ : ∃ m, q = m + 1 := ⟨q - 1, by omega⟩
    rw [List.take_succ_cons]
    unfold Go.Lib.indexByte at h ⊢
    by_cases hb : (b == c) = true
    · rw [if_pos hb] at h ⊢; exact h
    · rw [if_neg hb] at h ⊢
      by_cases h1 : (Go.Lib.indexByte l c == -1) = true
      · rw [if_pos h1] at h; omega
      · rw [if_neg h1] at h
        have hj0 : 0 < j := by
          have := Go.Lib.indexByte_ge l c
          have h3 : Go.Lib.indexByte l c ≠ -1 := fun e => h1 (by rw [e]; rfl)
          omega
        have := ih c (j - 1) q (by omega) (by omega)
        rw [this]
        have h2 : ¬ ((((j - 1 : Nat) : Int)) == -1) = true := by
          intro e
          have := beq_iff_eq.1 e
          omega
        rw [if_neg h2]
        omega
end Scr
namespace Go.Proofs.YtgimbkfahfnplaaDoor.Pu
open Go.RowKit Go.Lib Go.Proofs.YtgimbkfahfnplaaDoorW.PrintWords Go.Proofs.YtgimbkfahfnplaaDoor.X1 Go.Proofs.YtgimbkfahfnplaaDoor.X2 Go.Proofs.YtgimbkfahfnplaaDoor.X3 Go.Proofs.YtgimbkfahfnplaaDoor.X4 Go.Proofs.YtgimbkfahfnplaaDoor.X5 Go.Proofs.YtgimbkfahfnplaaDoor.A Go.Proofs.YtgimbkfahfnplaaDoor.B

theorem known_len {l : List UInt8} (h : known l ≠ 0) : 5 ≤ l.length := by
  unfold known at h
  by_cases h1 : l = title 1
  · rw [h1]; decide
  by_cases h2 : l = title 2
  · rw [h2]; decide
  by_cases h3 : l = title 3
  · rw [h3]; decide
  by_cases h4 : l = title 4
  · rw [h4]; decide
  rw [if_neg h1, if_neg h2, if_neg h3, if_neg h4] at h
  exact absurd rfl h
/-- What Parse answers: no script's word, or what the reading machine says of the rest. -/
theorem parse_cases (s : ByteArray) (hs : s.size ≤ 20000) : script_Parse.f s = some (0, [], 5, 0) ∨
    ∃ j : Nat, Lib.indexByte s.data.toList 58 = j ∧ j < s.size ∧ known (s.data.toList.take j) ≠ 0 ∧ script_Parse.f s = some (parseRes (known (s.data.toList.take j)) (Scr.R (known (s.data.toList.take j)) [] 0 [] (j + 1) (s.data.toList.drop (j + 1)))) := by
  by_cases h : Lib.indexByte s.data.toList 58 < 0 ∨ known (s.data.toList.take (Lib.indexByte s.data.toList 58).toNat) = 0
  · exact .inl (parse_syn hs h)
  · refine .inr ⟨(Lib.indexByte s.data.toList 58).toNat, by omega, ?_, fun e => h (.inr e), ?_⟩
    · have h1 := (Lib.indexByte_some (l := s.data.toList) (c := 58) (o := (Lib.indexByte s.data.toList 58).toNat) (by omega)).1
      have h2 := (List.getElem?_eq_some_iff.1 h1).1
      simpa using h2
    · unfold script_Parse.f parseL
      rw [if_neg (by omega), if_neg h]
theorem parse_take (s : ByteArray) (hs : s.size ≤ 20000) {j q : Nat} (hj : Lib.indexByte s.data.toList 58 = j) (hk : known (s.data.toList.take j) ≠ 0) (hq : j + 1 ≤ q) :
    script_Parse.f (s.extract 0 q) = some (parseRes (known (s.data.toList.take j)) (Scr.R (known (s.data.toList.take j)) [] 0 [] (j + 1) ((s.data.toList.drop (j + 1)).take (q - (j + 1))))) := by
  have hsz : (s.extract 0 q).size ≤ 20000 := by simp; omega
  have hl := take_list s q
  have hi := Scr.index_take s.data.toList 58 j q hj (by omega)
  have ht : (s.data.toList.take q).take j = s.data.toList.take j := by rw [List.take_take, Nat.min_eq_left (by omega)]
  unfold script_Parse.f parseL
  rw [if_neg (by omega), hl, hi, Int.toNat_natCast, ht, if_neg (by rintro (h | h); omega; exact hk h), List.drop_take]
end Go.Proofs.YtgimbkfahfnplaaDoor.Pu

namespace Scr
/-- Two readings that come to the same words, or to the same error. -/
def Alike (r r' : Res) : Prop := (∃ w, r = .ok w ∧ r' = .ok w) ∨ ∃ e q q', r = .bad e q ∧ r' = .bad e q'
theorem alike_end (sc : Int) (ws ws' : List Bs) (n n' : Nat) (cur cur' : Bs) (p p' : Nat) (h : flush ws n cur = flush ws' n' cur') : Alike (R sc ws n cur p []) (R sc ws' n' cur' p' []) := by
  rw [R_end, R_end, ← h]
  by_cases h0 : flush ws n cur = []
  · rw [if_pos h0, if_pos h0]; exact .inr ⟨_, _, _, rfl, rfl⟩
  · rw [if_neg h0, if_neg h0]; exact .inl ⟨_, rfl, rfl⟩
theorem alike_pos (sc : Int) : ∀ (m : Nat) (s : Bs) (ws : List Bs) (n : Nat) (cur : Bs) (p p' : Nat), s.length ≤ m → Alike (R sc ws n cur p s) (R sc ws n cur p' s) := by
  intro m
  induction m with
  | zero =>
    intro s ws n cur p p' hm
    obtain rfl : s = [] := List.eq_nil_of_length_eq_zero (by omega)
    exact alike_end _ _ _ _ _ _ _ _ _ rfl
  | succ m ih =>
    intro s ws n cur p p' hm
    by_cases hl : len sc s = 0
    · cases s with
      | nil => exact alike_end _ _ _ _ _ _ _ _ _ rfl
      | cons c r =>
        by_cases hc : c = 32
        · subst hc
          rw [R_blank, R_blank]
          exact ih r _ _ _ _ _ (by simp at hm; omega)
        · rw [R_bad _ _ _ _ _ _ _ hl hc, R_bad _ _ _ _ _ _ _ hl hc]
          exact .inr ⟨_, _, _, rfl, rfl⟩
    · have hle := len_le sc s
      by_cases hn : n = 12 ∨ ws.length = 6
      · rw [R_lim _ _ _ _ _ _ hl hn, R_lim _ _ _ _ _ _ hl hn]
        exact .inr ⟨_, _, _, rfl, rfl⟩
      · rw [R_letter _ _ _ _ _ _ hl hn, R_letter _ _ _ _ _ _ hl hn]
        exact ih _ _ _ _ _ _ (by rw [List.length_drop]; omega)
theorem flush_flush (ws n cur) : flush (flush ws n cur) 0 [] = flush ws n cur := rfl
theorem l2_zero {sc : Int} {a : UInt8} {ob oc : Option UInt8} (h : l2 sc a ob = 0) (hc : oc.any vowS.contains = false) : l2 sc a oc = 0 := by
  unfold l2 at h ⊢
  by_cases h1 : sc = 1
  · rw [if_pos h1] at h ⊢; exact h
  rw [if_neg h1] at h ⊢
  by_cases h2 : sc = 2
  · rw [if_pos h2] at h ⊢
    by_cases hs : (smallS ++ capS).contains a = true
    · rw [if_pos hs] at h; split at h <;> cases h
    · rw [if_neg hs]
  rw [if_neg h2] at h ⊢
  by_cases h3 : sc = 3
  · rw [if_pos h3] at h ⊢; exact h
  rw [if_neg h3] at h ⊢
  by_cases h4 : sc = 4
  · rw [if_pos h4] at h ⊢
    rw [hc, Bool.and_false, if_neg (by simp)]
    split at h
    · cases h
    · exact h
  · rw [if_neg h4]
theorem l2_blank (sc : Int) (a : UInt8) : l2 sc a (some 32) ≠ 2 := by
  have a1 : accS.contains (32 : UInt8) = false := by decide
  have a2 : vowS.contains (32 : UInt8) = false := by decide
  unfold l2
  rw [Option.any_some, Option.any_some, a1, a2, Bool.and_false]
  by_cases h1 : sc = 1
  · rw [if_pos h1]; split <;> decide
  rw [if_neg h1]
  by_cases h2 : sc = 2
  · rw [if_pos h2, if_neg (show ¬ false = true by decide)]; split <;> decide
  rw [if_neg h2]
  by_cases h3 : sc = 3
  · rw [if_pos h3]; split <;> decide
  rw [if_neg h3]
  by_cases h4 : sc = 4
  · rw [if_pos h4, if_neg (show ¬ false = true by decide)]; split <;> decide
  · rw [if_neg h4]; decide
/-- A blank behind a piece of a text that a letter does not cross: its letter stays. -/
theorem len_blanked {sc : Int} {s : Bs} {m : Nat} (hm : 0 < m) (hle : m ≤ s.length) (hb : m = s.length ∨ s[m]? = some 32) : len sc (s.take m ++ 32 :: s.drop m) = len sc s ∧ len sc s ≤ m := by
  match s, hle, hb with
  | [], hle, _ => simp at hle; omega
  | a :: r, hle, hb =>
    have h2 := len_two sc (a :: r)
    have hl2 := len_le sc (a :: r)
    have hcross : len sc (a :: r) ≤ m := by
      by_cases e : len sc (a :: r) ≤ m
      · exact e
      · exfalso
        have hm1 : m = 1 := by omega
        have e2 : len sc (a :: r) = 2 := by omega
        subst hm1
        rw [len_cons] at e2
        rcases hb with hb | hb
        · have : r = [] := List.eq_nil_of_length_eq_zero (by rw [List.length_cons] at hb; omega)
          subst this
          simp at hl2; omega
        · have hr : r.head? = some 32 := by
            cases r with
            | nil => simp at hb
            | cons b r => simpa using hb
          rw [hr] at e2
          exact l2_blank sc a e2
    refine ⟨?_, hcross⟩
    by_cases h0 : len sc (a :: r) = 0
    · obtain ⟨k, rfl⟩ : ∃ k, m = k + 1 := ⟨m - 1, by omega⟩
      rw [h0]
      rw [List.take_succ_cons, List.cons_append, len_cons]
      rw [len_cons] at h0
      cases k with
      | zero =>
        rw [List.take_zero]
        exact l2_zero h0 (show vowS.contains (32 : UInt8) = false by decide)
      | succ k =>
        cases r with
        | nil => simp at hle
        | cons b r => rw [List.take_succ_cons]; exact h0
    · have hp := len_prefix (sc := sc) (s := a :: r) (m := m) h0 hcross
      rw [len_mid sc _ (32 :: (a :: r).drop m) (by rw [hp]; exact h0) (fun _ => show accS.contains (32 : UInt8) = false by decide) (fun _ _ _ => show vowS.contains (32 : UInt8) = false by decide), hp]
theorem alike_blank (sc : Int) : ∀ (M : Nat) (s : Bs) (ws : List Bs) (n : Nat) (cur : Bs) (p p' m : Nat), s.length ≤ M → m ≤ s.length → (m = s.length ∨ s[m]? = some 32) →
    Alike (R sc ws n cur p s) (R sc ws n cur p' (s.take m ++ 32 :: s.drop m)) := by
  intro M
  induction M with
  | zero =>
    intro s ws n cur p p' m hM hle hb
    obtain rfl : s = [] := List.eq_nil_of_length_eq_zero (by omega)
    rw [List.take_nil, List.drop_nil, List.nil_append, R_blank]
    exact alike_end _ _ _ _ _ _ _ _ _ rfl
  | succ M ih =>
    intro s ws n cur p p' m hM hle hb
    by_cases hm : m = 0
    · subst hm
      rw [List.take_zero, List.drop_zero, List.nil_append, R_blank]
      cases s with
      | nil => exact alike_end _ _ _ _ _ _ _ _ _ rfl
      | cons c r =>
        have hc : c = 32 := by
          rcases hb with hb | hb
          · simp at hb
          · simpa using hb
        subst hc
        rw [R_blank, R_blank, flush_flush]
        exact alike_pos sc _ r _ _ _ _ _ (Nat.le_refl _)
    · obtain ⟨he, hcr⟩ := len_blanked (sc := sc) (s := s) (m := m) (by omega) hle hb
      by_cases hl : len sc s = 0
      · cases s with
        | nil => simp at hle; omega
        | cons c r =>
          obtain ⟨k, rfl⟩ : ∃ k, m = k + 1 := ⟨m - 1, by omega⟩
          rw [List.take_succ_cons, List.drop_succ_cons, List.cons_append] at he ⊢
          by_cases hc : c = 32
          · subst hc
            rw [R_blank, R_blank]
            refine ih r _ _ _ _ _ k (by simp at hM; omega) (by simp at hle; omega) ?_
            rcases hb with hb | hb
            · left; simp at hb; omega
            · right; simpa using hb
          · rw [R_bad _ _ _ _ _ _ _ hl hc, R_bad _ _ _ _ _ _ _ (he.trans hl) hc]
            exact .inr ⟨_, _, _, rfl, rfl⟩
      · have hls := len_le sc s
        by_cases hn : n = 12 ∨ ws.length = 6
        · rw [R_lim _ _ _ _ _ _ hl hn, R_lim _ _ _ _ _ _ (by rw [he]; exact hl) hn]
          exact .inr ⟨_, _, _, rfl, rfl⟩
        · rw [R_letter _ _ _ _ _ _ hl hn, R_letter _ _ _ _ p' _ (by rw [he]; exact hl) hn, he]
          have hlt : (s.take m).length = m := by rw [List.length_take]; omega
          have e1 : (s.take m ++ 32 :: s.drop m).take (len sc s) = s.take (len sc s) := by
            rw [List.take_append_of_le_length (by rw [hlt]; exact hcr), List.take_take, Nat.min_eq_left hcr]
          have e2 : (s.take m ++ 32 :: s.drop m).drop (len sc s) = (s.drop (len sc s)).take (m - len sc s) ++ 32 :: (s.drop (len sc s)).drop (m - len sc s) := by
            rw [List.drop_append_of_le_length (by rw [hlt]; exact hcr), List.drop_take, List.drop_drop]
            congr 3
            omega
          rw [e1, e2]
          refine ih _ _ _ _ _ _ (m - len sc s) (by rw [List.length_drop]; omega) (by rw [List.length_drop]; omega) ?_
          rcases hb with hb | hb
          · left; rw [List.length_drop]; omega
          · right; rw [List.getElem?_drop]; rw [← hb]; congr 1; omega
theorem R_few (sc : Int) : ∀ (M : Nat) (s : Bs) (ws : List Bs) (n : Nat) (cur : Bs) (p : Nat) (w : List Bs), s.length ≤ M → ws.length ≤ 6 → (0 < n → ws.length ≤ 5) → R sc ws n cur p s = .ok w → w.length ≤ 6 := by
  intro M
  have hfl : ∀ (ws : List Bs) (n : Nat) (cur : Bs), ws.length ≤ 6 → (0 < n → ws.length ≤ 5) → (flush ws n cur).length ≤ 6 := fun ws n cur h1 h2 => by
    unfold flush
    by_cases hn : n = 0
    · rw [if_pos hn]; exact h1
    · rw [if_neg hn, List.length_append]
      have := h2 (by omega)
      simp; omega
  induction M with
  | zero =>
    intro s ws n cur p w hM h1 h2 h
    obtain rfl : s = [] := List.eq_nil_of_length_eq_zero (by omega)
    rw [R_end] at h
    by_cases h0 : flush ws n cur = []
    · rw [if_pos h0] at h; cases h
    · rw [if_neg h0] at h; cases h; exact hfl ws n cur h1 h2
  | succ M ih =>
    intro s ws n cur p w hM h1 h2 h
    by_cases hl : len sc s = 0
    · cases s with
      | nil =>
        rw [R_end] at h
        by_cases h0 : flush ws n cur = []
        · rw [if_pos h0] at h; cases h
        · rw [if_neg h0] at h; cases h; exact hfl ws n cur h1 h2
      | cons c r =>
        by_cases hc : c = 32
        · subst hc
          rw [R_blank] at h
          exact ih r _ _ _ _ w (by simp at hM; omega) (hfl ws n cur h1 h2) (fun h => by omega) h
        · rw [R_bad _ _ _ _ _ _ _ hl hc] at h; cases h
    · have hle := len_le sc s
      by_cases hn : n = 12 ∨ ws.length = 6
      · rw [R_lim _ _ _ _ _ _ hl hn] at h; cases h
      · rw [R_letter _ _ _ _ _ _ hl hn] at h
        exact ih _ _ _ _ _ w (by rw [List.length_drop]; omega) h1 (fun _ => by omega) h
end Scr
namespace Go.Proofs.YtgimbkfahfnplaaDoor.Pu
open Go.RowKit Go.Lib Go.Proofs.YtgimbkfahfnplaaDoorW.PrintWords Go.Proofs.YtgimbkfahfnplaaDoor.X1 Go.Proofs.YtgimbkfahfnplaaDoor.X2 Go.Proofs.YtgimbkfahfnplaaDoor.X3 Go.Proofs.YtgimbkfahfnplaaDoor.X4 Go.Proofs.YtgimbkfahfnplaaDoor.X5 Go.Proofs.YtgimbkfahfnplaaDoor.A Go.Proofs.YtgimbkfahfnplaaDoor.B

theorem same_f (k : Nat) (a b : Int) (l m : List ByteArray) (hl : l.length ≤ 1000000) (hk : l.length < k) : customhouseref09_Same.f k a l b m = some (decide (a = b) && decide (l = m)) := by
  unfold customhouseref09_Same.f
  by_cases h : a = b
  · rw [if_pos h, texts_f k l m hl hk, Option.bind_some, decide_eq_true h, Bool.true_and]
  · rw [if_neg h, decide_eq_false h, Bool.false_and]
theorem bt_at' (s : ByteArray) (i : Nat) (h : i < s.size) : bt s (i : Int) = (((s.data.toList[i]'(by simpa using h)).toNat : Nat) : Int) := by
  rw [← bt_at s (i : Int) (by simpa using h)]
  rfl
theorem no_blank {l : List UInt8} (h : known l ≠ 0) : ∀ i : Nat, l[i]? ≠ some 32 := by
  intro i hi
  have hm : (32 : UInt8) ∈ l := List.mem_of_getElem? hi
  unfold known at h
  by_cases h1 : l = title 1
  · rw [h1] at hm; exact absurd hm (by decide)
  by_cases h2 : l = title 2
  · rw [h2] at hm; exact absurd hm (by decide)
  by_cases h3 : l = title 3
  · rw [h3] at hm; exact absurd hm (by decide)
  by_cases h4 : l = title 4
  · rw [h4] at hm; exact absurd hm (by decide)
  rw [if_neg h1, if_neg h2, if_neg h3, if_neg h4] at h
  exact absurd rfl h
theorem index_before : ∀ (l t : List UInt8) (c : UInt8) (j : Nat), Lib.indexByte l c = j → Lib.indexByte (l.take (j + 1) ++ t) c = j := by
  intro l
  induction l with
  | nil => intro t c j h; have h' : (-1 : Int) = j := h; omega
  | cons b l ih =>
    intro t c j h
    rw [List.take_succ_cons, List.cons_append]
    unfold Lib.indexByte at h ⊢
    by_cases hb : (b == c) = true
    · rw [if_pos hb] at h ⊢; exact h
    · rw [if_neg hb] at h ⊢
      by_cases h1 : (Lib.indexByte l c == -1) = true
      · rw [if_pos h1] at h; omega
      · rw [if_neg h1] at h
        have hj0 : 0 < j := by
          have := Lib.indexByte_ge l c
          have h3 : Lib.indexByte l c ≠ -1 := fun e => h1 (by rw [e]; rfl)
          omega
        have := ih t c (j - 1) (by omega)
        rw [show j - 1 + 1 = j by omega] at this
        rw [this]
        have h2 : ¬ ((((j - 1 : Nat) : Int)) == -1) = true := by
          intro e
          have := beq_iff_eq.1 e
          omega
        rw [if_neg h2]
        omega
/-- What Parse answers of a text with a blank more. -/
theorem parse_blank (s t : ByteArray) (hs : s.size ≤ 2000) (m : Nat) (hm : m ≤ s.size) (hb : m = s.size ∨ s.data.toList[m]? = some 32) (ht : t.data.toList = s.data.toList.take m ++ 32 :: s.data.toList.drop m) :
    script_Parse.f s = some (0, [], 5, 0) ∨ ∃ a b c c' : Int, ∃ l, script_Parse.f s = some (a, l, b, c) ∧ script_Parse.f t = some (a, l, b, c') ∧ l.length ≤ 6 := by
  have htz : t.size = s.size + 1 := by
    rw [size_len t, ht, List.length_append, List.length_cons, List.length_take, List.length_drop, ← size_len]; omega
  rcases parse_cases s (by omega) with h | ⟨j, hj, hjl, hk, h⟩
  · exact .inl h
  · have hjm : j + 1 ≤ m := by
      rcases hb with hb | hb
      · omega
      · by_cases e : j + 1 ≤ m
        · exact e
        · exfalso
          by_cases e2 : m = j
          · subst e2
            have := (Lib.indexByte_some hj).1
            rw [hb] at this
            exact absurd (Option.some.inj this) (by decide)
          · refine no_blank hk m ?_
            rw [List.getElem?_take_of_lt (by omega)]
            exact hb
    have htp : t.data.toList = s.data.toList.take (j + 1) ++ ((s.data.toList.drop (j + 1)).take (m - (j + 1)) ++ 32 :: (s.data.toList.drop (j + 1)).drop (m - (j + 1))) := by
      rw [ht, ← List.append_assoc, List.drop_drop, show j + 1 + (m - (j + 1)) = m by omega]
      congr 1
      conv => lhs; rw [← List.take_append_drop (j + 1) (s.data.toList.take m)]
      rw [List.take_take, Nat.min_eq_left hjm, List.drop_take]
    have hjt : Lib.indexByte t.data.toList 58 = j := by rw [htp]; exact index_before _ _ _ _ hj
    have hlen1 : (s.data.toList.take (j + 1)).length = j + 1 := by rw [List.length_take, ← size_len]; omega
    have htk : t.data.toList.take j = s.data.toList.take j := by
      rw [htp, List.take_append_of_le_length (by omega), List.take_take, Nat.min_eq_left (by omega)]
    have htd : t.data.toList.drop (j + 1) = (s.data.toList.drop (j + 1)).take (m - (j + 1)) ++ 32 :: (s.data.toList.drop (j + 1)).drop (m - (j + 1)) := by
      rw [htp, List.drop_append_of_le_length (by omega), List.drop_eq_nil_of_le (by omega), List.nil_append]
    have hpt : script_Parse.f t = some (parseRes (known (s.data.toList.take j)) (Scr.R (known (s.data.toList.take j)) [] 0 [] (j + 1) ((s.data.toList.drop (j + 1)).take (m - (j + 1)) ++ 32 :: (s.data.toList.drop (j + 1)).drop (m - (j + 1))))) := by
      unfold script_Parse.f parseL
      rw [if_neg (by omega), hjt, Int.toNat_natCast, htk, if_neg (by rintro (h | h); omega; exact hk h), htd]
    refine .inr ?_
    rcases Scr.alike_blank (known (s.data.toList.take j)) _ (s.data.toList.drop (j + 1)) [] 0 [] (j + 1) (j + 1) (m - (j + 1)) (Nat.le_refl _) (by rw [List.length_drop, ← size_len]; omega) (by
      rcases hb with hb | hb
      · left; rw [List.length_drop, ← size_len]; omega
      · right; rw [List.getElem?_drop, ← hb]; congr 1; omega) with ⟨w, e1, e2⟩ | ⟨e, q, q', e1, e2⟩
    · rw [e1] at h
      rw [e2] at hpt
      refine ⟨_, 0, 0, 0, w.map bs, h, hpt, ?_⟩
      rw [List.length_map]
      exact Scr.R_few _ _ _ [] 0 [] _ w (Nat.le_refl _) (by simp) (by simp) e1
    · rw [e1] at h
      rw [e2] at hpt
      exact ⟨0, e, _, _, [], h, hpt, by simp⟩
theorem u16_of {x : Int} (h : (Lit.int .u16 x).wf = true) : 0 ≤ x ∧ x < 65536 := by
  simp only [Lit.wf, Bool.and_eq_true, decide_eq_true_eq] at h
  have h1 : IntKind.u16.min = 0 := by decide
  have h2 : IntKind.u16.max = 65535 := by decide
  omega
end Go.Proofs.YtgimbkfahfnplaaDoor.Pu

namespace Scr
theorem R_word (sc : Int) (ws : List Bs) (t : Bs) (hws : ws.length ≠ 6) (ht : t = [] ∨ t.head? = some 32) (w : Bs) : ∀ (n : Nat) (cur : Bs) (p : Nat), left sc w = [] → n + (letters sc w).length ≤ 12 →
    R sc ws n cur p (w ++ t) = R sc ws (n + (letters sc w).length) (cur ++ w) (p + w.length) t := by
  refine ind (sc := sc) (P := fun w => ∀ (n : Nat) (cur : Bs) (p : Nat), left sc w = [] → n + (letters sc w).length ≤ 12 → R sc ws n cur p (w ++ t) = R sc ws (n + (letters sc w).length) (cur ++ w) (p + w.length) t) ?_ ?_ w
  · intro s h n cur p hl _
    rw [(letters_zero h).2] at hl
    subst hl
    rw [(letters_nil sc).1]
    simp
  · intro s h ih n cur p hl hn
    obtain ⟨e1, e2⟩ := letters_step h
    rw [e2] at hl
    rw [e1, List.length_cons] at hn
    have hle := len_le sc s
    have hacc : t.head?.any accS.contains = false := by
      rcases ht with ht | ht
      · rw [ht]; rfl
      · rw [ht]; decide
    have hvow : t.head?.any vowS.contains = false := by
      rcases ht with ht | ht
      · rw [ht]; rfl
      · rw [ht]; decide
    have hm := len_mid sc s t h (fun _ => hacc) (fun _ _ _ => hvow)
    rw [R_letter sc ws n cur p (s ++ t) (by rw [hm]; exact h) (by omega), hm, List.take_append_of_le_length hle, List.drop_append_of_le_length hle]
    rw [ih (n + 1) _ _ hl (by omega), e1, List.length_cons, List.append_assoc, List.take_append_drop, List.length_drop]
    congr 1
    · omega
    · omega
theorem R_words (sc : Int) : ∀ (rest : List Bs) (ws : List Bs) (p : Nat), rest ≠ [] → ws.length + rest.length ≤ 6 → (∀ w ∈ rest, word sc w = true) → R sc ws 0 [] p (Go.Lib.join rest [32]) = .ok (ws ++ rest)
  | [], _, _, h, _, _ => absurd rfl h
  | [a], ws, p, _, hl, hw => by
    have wa := hw a List.mem_cons_self
    unfold word at wa
    simp only [Bool.and_eq_true, decide_eq_true_eq] at wa
    have e : Go.Lib.join [a] [32] = a ++ [] := by simp [Go.Lib.join]
    simp only [List.length_cons, List.length_nil] at hl
    rw [e, R_word sc ws [] (by omega) (.inl rfl) a 0 [] p wa.1.1 (by omega), R_end]
    have hf : flush ws (0 + (letters sc a).length) ([] ++ a) = ws ++ [a] := by unfold flush; rw [if_neg (by omega), List.nil_append]
    rw [hf, if_neg (by simp)]
  | a :: b :: r, ws, p, _, hl, hw => by
    have wa := hw a List.mem_cons_self
    unfold word at wa
    simp only [Bool.and_eq_true, decide_eq_true_eq] at wa
    have e : Go.Lib.join (a :: b :: r) [32] = a ++ 32 :: Go.Lib.join (b :: r) [32] := by simp [Go.Lib.join, List.intercalate_cons_cons]
    simp only [List.length_cons] at hl
    rw [e, R_word sc ws _ (by omega) (.inr rfl) a 0 [] p wa.1.1 (by omega), R_blank]
    have hf : flush ws (0 + (letters sc a).length) ([] ++ a) = ws ++ [a] := by unfold flush; rw [if_neg (by omega), List.nil_append]
    rw [hf, R_words sc (b :: r) (ws ++ [a]) _ (by simp) (by simp; omega) (fun w hm => hw w (List.mem_cons_of_mem _ hm)), List.append_assoc]
    rfl
def Jl (l : List Bs) : Nat := (l.map fun w => w.length + 1).sum
theorem Jl_append (l m : List Bs) : Jl (l ++ m) = Jl l + Jl m := by unfold Jl; rw [List.map_append, List.sum_append]
theorem join_J : ∀ l : List Bs, l ≠ [] → (Go.Lib.join l [32]).length + 1 = Jl l
  | [], h => absurd rfl h
  | [a], _ => by simp [Go.Lib.join, Jl]
  | a :: b :: r, _ => by
    have e : Go.Lib.join (a :: b :: r) [32] = a ++ 32 :: Go.Lib.join (b :: r) [32] := by simp [Go.Lib.join, List.intercalate_cons_cons]
    have ih := join_J (b :: r) (by simp)
    have hj : Jl (a :: b :: r) = a.length + 1 + Jl (b :: r) := by simp [Jl]
    rw [e, hj, ← ih, List.length_append, List.length_cons]
    omega
structure Good (sc : Int) (ws : List Bs) (n : Nat) (cur s : Bs) : Prop where
  words : ∀ w ∈ ws, word sc w = true
  left_ : left sc cur = []
  count : (letters sc cur).length = n
  few : n ≤ 12
  last : sc = 4 → (letters sc cur).getLast? = some [110] → s.head?.any vowS.contains = false
theorem Good.flush {sc ws n cur s} (h : Good sc ws n cur s) (t : Bs) : Good sc (flush ws n cur) 0 [] t := by
  refine ⟨fun w hw => ?_, (letters_nil sc).2, by rw [(letters_nil sc).1]; rfl, by omega, fun _ e => by rw [(letters_nil sc).1] at e; cases e⟩
  unfold Scr.flush at hw
  by_cases hn : n = 0
  · rw [if_pos hn] at hw; exact h.words w hw
  · rw [if_neg hn] at hw
    rcases List.mem_append.1 hw with hw | hw
    · exact h.words w hw
    · obtain rfl := List.mem_singleton.1 hw
      have h1 := h.count
      have h2 := h.few
      unfold word
      simp only [Bool.and_eq_true, decide_eq_true_eq]
      exact ⟨⟨h.left_, by omega⟩, by omega⟩
theorem head_take {s : Bs} {k : Nat} (hk : 0 < k) : (s.take k).head? = s.head? := by
  obtain ⟨k, rfl⟩ : ∃ m, k = m + 1 := ⟨k - 1, by omega⟩
  cases s <;> simp
theorem Good.letter {sc ws n cur s} (h : Good sc ws n cur s) (hl : len sc s ≠ 0) (hn : n ≠ 12) : Good sc ws (n + 1) (cur ++ s.take (len sc s)) (s.drop (len sc s)) := by
  have hle := len_le sc s
  have ht := len_take sc s
  have hx : letters sc (s.take (len sc s)) = [s.take (len sc s)] ∧ left sc (s.take (len sc s)) = [] := by
    obtain ⟨f1, f2⟩ := letters_step (sc := sc) (s := s.take (len sc s)) (by rw [ht]; exact hl)
    rw [ht] at f1 f2
    have : (s.take (len sc s)).drop (len sc s) = [] := by simp
    rw [this, (letters_nil sc).1] at f1
    rw [this, (letters_nil sc).2] at f2
    rw [f1, f2, List.take_take, Nat.min_self]; simp
  have hacc : sc = 2 → (s.take (len sc s)).head?.any accS.contains = false := by
    intro e
    rw [head_take (by omega)]
    cases s with
    | nil => rfl
    | cons c r =>
      rw [len_cons] at hl
      subst e
      unfold l2 at hl
      rw [if_neg (by decide), if_pos rfl] at hl
      by_cases hc : (smallS ++ capS).contains c = true
      · exact let_acc c hc
      · rw [if_neg hc] at hl; exact absurd rfl hl
  obtain ⟨a1, a2⟩ := letters_append sc (s.take (len sc s)) hacc cur h.left_ (fun e e' => by rw [head_take (by omega)]; exact h.last e e')
  have h1 := h.count
  have h2 := h.few
  refine ⟨h.words, by rw [a2, hx.2], by rw [a1, hx.1, List.length_append, h1]; rfl, by omega, fun e e' => ?_⟩
  rw [a1, hx.1, List.getLast?_append] at e'
  have e2 : s.take (len sc s) = [110] := by simpa using e'
  subst e
  match s, hl, e2 with
  | [], hl, _ => exact absurd (len_nil 4) hl
  | c :: r, hl, e2 =>
    have e3 : len 4 (c :: r) = 1 := by
      have := congrArg List.length e2
      rw [List.length_take] at this
      simp at this hle
      omega
    rw [e3] at e2 ⊢
    simp at e2
    subst e2
    rw [len_cons] at e3
    rw [List.drop_succ_cons, List.drop_zero]
    cases hv : r.head?.any vowS.contains with
    | false => rfl
    | true =>
      unfold l2 at e3
      rw [if_neg (by decide), if_neg (by decide), if_neg (by decide), if_pos rfl, hv] at e3
      exact absurd e3 (by decide)
theorem R_good (sc : Int) : ∀ (M : Nat) (s : Bs) (ws : List Bs) (n : Nat) (cur : Bs) (p : Nat) (w : List Bs), s.length ≤ M → Good sc ws n cur s → R sc ws n cur p s = .ok w →
    (∀ x ∈ w, word sc x = true) ∧ w ≠ [] ∧ Jl w ≤ Jl ws + cur.length + 1 + s.length := by
  intro M
  have hend : ∀ (ws : List Bs) (n : Nat) (cur : Bs) (p : Nat) (w : List Bs), Good sc ws n cur [] → R sc ws n cur p [] = .ok w → (∀ x ∈ w, word sc x = true) ∧ w ≠ [] ∧ Jl w ≤ Jl ws + cur.length + 1 + 0 := fun ws n cur p w hg h => by
    rw [R_end] at h
    by_cases h0 : flush ws n cur = []
    · rw [if_pos h0] at h; cases h
    · rw [if_neg h0] at h
      obtain rfl := Res.ok.inj h
      refine ⟨(hg.flush []).words, h0, ?_⟩
      unfold flush
      by_cases hn : n = 0
      · rw [if_pos hn]; omega
      · rw [if_neg hn, Jl_append]
        have : Jl [cur] = cur.length + 1 := by simp [Jl]
        omega
  induction M with
  | zero =>
    intro s ws n cur p w hM hg h
    obtain rfl : s = [] := List.eq_nil_of_length_eq_zero (by omega)
    exact hend ws n cur p w hg h
  | succ M ih =>
    intro s ws n cur p w hM hg h
    by_cases hl : len sc s = 0
    · cases s with
      | nil => exact hend ws n cur p w hg h
      | cons c r =>
        by_cases hc : c = 32
        · subst hc
          rw [R_blank] at h
          obtain ⟨h1, h2, h3⟩ := ih r _ _ _ _ w (by simp at hM; omega) (hg.flush r) h
          refine ⟨h1, h2, ?_⟩
          have : Jl (flush ws n cur) ≤ Jl ws + cur.length + 1 := by
            unfold flush
            by_cases hn : n = 0
            · rw [if_pos hn]; omega
            · rw [if_neg hn, Jl_append]
              have : Jl [cur] = cur.length + 1 := by simp [Jl]
              omega
          simp only [List.length_cons, List.length_nil] at h3 ⊢
          omega
        · rw [R_bad _ _ _ _ _ _ _ hl hc] at h; cases h
    · have hle := len_le sc s
      by_cases hn : n = 12 ∨ ws.length = 6
      · rw [R_lim _ _ _ _ _ _ hl hn] at h; cases h
      · rw [R_letter _ _ _ _ _ _ hl hn] at h
        obtain ⟨h1, h2, h3⟩ := ih _ _ _ _ _ w (by rw [List.length_drop]; omega) (hg.letter hl (fun e => hn (.inl e))) h
        refine ⟨h1, h2, ?_⟩
        rw [List.length_append, List.length_take, List.length_drop] at h3
        omega
end Scr
namespace Go.Proofs.YtgimbkfahfnplaaDoor.Pu
open Go.RowKit Go.Lib Go.Proofs.YtgimbkfahfnplaaDoorW.PrintWords Go.Proofs.YtgimbkfahfnplaaDoor.X1 Go.Proofs.YtgimbkfahfnplaaDoor.X2 Go.Proofs.YtgimbkfahfnplaaDoor.X3 Go.Proofs.YtgimbkfahfnplaaDoor.X4 Go.Proofs.YtgimbkfahfnplaaDoor.X5 Go.Proofs.YtgimbkfahfnplaaDoor.A Go.Proofs.YtgimbkfahfnplaaDoor.B

theorem known_title {l : List UInt8} (h : known l ≠ 0) : title (known l) = l := by
  unfold known at h ⊢
  by_cases h1 : l = title 1
  · rw [if_pos h1, h1]
  rw [if_neg h1] at h ⊢
  by_cases h2 : l = title 2
  · rw [if_pos h2, h2]
  rw [if_neg h2] at h ⊢
  by_cases h3 : l = title 3
  · rw [if_pos h3, h3]
  rw [if_neg h3] at h ⊢
  by_cases h4 : l = title 4
  · rw [if_pos h4, h4]
  rw [if_neg h4] at h
  exact absurd rfl h
theorem title_facts {sc : Int} (h1 : 1 ≤ sc) (h4 : sc ≤ 4) (t : List UInt8) : Lib.indexByte (title sc ++ 58 :: t) 58 = ((title sc).length : Int) ∧ known (title sc) = sc ∧ (title sc).length ≤ 6 := by
  have e : sc = 1 ∨ sc = 2 ∨ sc = 3 ∨ sc = 4 := by omega
  rcases e with rfl | rfl | rfl | rfl
  · exact ⟨rfl, by decide, by decide⟩
  · exact ⟨rfl, by decide, by decide⟩
  · exact ⟨rfl, by decide, by decide⟩
  · exact ⟨rfl, by decide, by decide⟩
theorem ok_parts {sc : Int} {l : List ByteArray} (h : nameOk sc l = true) : (∀ w ∈ l, Scr.word sc w.data.toList = true) ∧ 1 ≤ l.length ∧ l.length ≤ 6 ∧ 1 ≤ sc ∧ sc ≤ 4 := by
  unfold nameOk at h
  simp only [Bool.and_eq_true, decide_eq_true_eq, List.all_eq_true] at h
  refine ⟨h.1.1, h.1.2, h.2, ?_⟩
  match l, h with
  | [], h => exact absurd h.1.2 (by simp)
  | a :: r, h => exact (word_len sc _ (h.1.1 a List.mem_cons_self)).2
theorem parse_text {sc : Int} {l : List ByteArray} (h : nameOk sc l = true) : script_Parse.f (bs (textOf sc l)) = some (sc, l, 0, 0) := by
  obtain ⟨hw, h1, h6, s1, s4⟩ := ok_parts h
  have e0 : textOf sc l = title sc ++ 58 :: Lib.join (l.map (·.data.toList)) [32] := by unfold textOf; rw [List.append_assoc]; rfl
  obtain ⟨t1, t2, t3⟩ := title_facts s1 s4 (Lib.join (l.map (·.data.toList)) [32])
  have hjl := join_len (l.map (·.data.toList)) 24 (fun x hx => by
    obtain ⟨y, hy, rfl⟩ := List.mem_map.1 hx
    exact (word_len sc _ (hw y hy)).1)
  rw [List.length_map] at hjl
  have hsz : (bs (textOf sc l)).size ≤ 20000 := by
    rw [size_len, data_bs, e0, List.length_append, List.length_cons]; omega
  unfold script_Parse.f parseL
  rw [if_neg (by omega), data_bs, e0, t1, Int.toNat_natCast, List.take_left, t2, if_neg (by omega)]
  have hd : (title sc ++ 58 :: Lib.join (l.map (·.data.toList)) [32]).drop ((title sc).length + 1) = Lib.join (l.map (·.data.toList)) [32] := by
    rw [← List.drop_drop, List.drop_left]; rfl
  have hne : l.map (·.data.toList) ≠ [] := fun e => by
    have := congrArg List.length e
    rw [List.length_map] at this
    simp at this
    rw [this] at h1
    simp at h1
  rw [hd, Scr.R_words sc (l.map (·.data.toList)) [] _ hne (by rw [List.length_map]; simpa using h6) (fun w hm => by
    obtain ⟨y, hy, rfl⟩ := List.mem_map.1 hm
    exact hw y hy), List.nil_append]
  have := map_bs l
  unfold data at this
  simp only [parseRes, this]
theorem parse_ok {s : ByteArray} (hs : s.size ≤ 20000) {a : Int} {l : List ByteArray} {at_ : Int} (h : script_Parse.f s = some (a, l, 0, at_)) : nameOk a l = true ∧ at_ = 0 ∧ (textOf a l).length ≤ s.size := by
  rcases parse_cases s hs with h' | ⟨j, hj, hjl, hk, h'⟩
  · rw [h] at h'; cases h'
  · rw [h'] at h
    cases hR : Scr.R (known (s.data.toList.take j)) [] 0 [] (j + 1) (s.data.toList.drop (j + 1)) with
    | bad e q =>
      rw [hR] at h
      have h := Option.some.inj h
      simp only [parseRes, Prod.mk.injEq] at h
      have hb := Scr.tells (known (s.data.toList.take j)) _ (s.data.toList.drop (j + 1)) [] 0 [] (j + 1) (Nat.le_refl _)
      exfalso
      rcases hb with ⟨w, hb⟩ | hb | ⟨e', q', he, hb, _⟩
      · rw [hR] at hb; cases hb
      · rw [hR] at hb; cases hb; exact absurd h.2.2.1 (by decide)
      · rw [hR] at hb; cases hb
        rcases he with rfl | rfl
        · exact absurd h.2.2.1 (by decide)
        · exact absurd h.2.2.1 (by decide)
    | ok w =>
      rw [hR] at h
      have h := Option.some.inj h
      simp only [parseRes, Prod.mk.injEq] at h
      obtain ⟨rfl, rfl, _, h4⟩ := h
      have hg0 : Scr.Good (known (s.data.toList.take j)) [] 0 [] (s.data.toList.drop (j + 1)) :=
        ⟨fun w hw => absurd hw (by simp), (Scr.letters_nil _).2, by rw [(Scr.letters_nil _).1]; rfl, by omega, fun _ e => by rw [(Scr.letters_nil _).1] at e; simp at e⟩
      obtain ⟨g1, g2, g3⟩ := Scr.R_good _ _ (s.data.toList.drop (j + 1)) [] 0 [] (j + 1) w (Nat.le_refl _) hg0 hR
      have hlen6 := Scr.R_few _ _ (s.data.toList.drop (j + 1)) [] 0 [] (j + 1) w (Nat.le_refl _) (by simp) (by simp) hR
      have hw0 : 0 < w.length := List.length_pos_iff.2 g2
      have hmm : (w.map bs).map (fun x : ByteArray => x.data.toList) = w := by rw [List.map_map]; exact List.map_id _
      refine ⟨?_, h4.symm, ?_⟩
      · unfold nameOk
        simp only [Bool.and_eq_true, decide_eq_true_eq, List.all_eq_true, List.length_map]
        refine ⟨⟨fun x hx => ?_, hw0⟩, hlen6⟩
        obtain ⟨y, hy, rfl⟩ := List.mem_map.1 hx
        exact g1 y hy
      · unfold textOf
        rw [known_title hk, hmm, List.length_append, List.length_append]
        have hj2 := Scr.join_J w g2
        rw [List.length_drop, ← size_len] at g3
        have ht : (s.data.toList.take j).length = j := by rw [List.length_take, ← size_len]; omega
        rw [ht]
        simp only [Scr.Jl, List.map_nil, List.sum_nil, List.length_nil, List.length_cons] at g3 ⊢
        simp only [Scr.Jl] at hj2
        omega
theorem parse_bad {s : ByteArray} (hs : s.size ≤ 20000) {a : Int} {l : List ByteArray} {e at_ : Int} (h : script_Parse.f s = some (a, l, e, at_)) (he : e ≠ 0) : a = 0 ∧ l = [] ∧ -1 ≤ at_ ∧ at_ ≤ s.size := by
  rcases parse_cases s hs with h' | ⟨j, hj, hjl, hk, h'⟩
  · rw [h] at h'
    cases h'
    exact ⟨rfl, rfl, by omega, by omega⟩
  · rw [h'] at h
    have hlen : (s.data.toList.drop (j + 1)).length = s.size - (j + 1) := by rw [List.length_drop, ← size_len]
    rcases Scr.tells (known (s.data.toList.take j)) _ (s.data.toList.drop (j + 1)) [] 0 [] (j + 1) (Nat.le_refl _) with ⟨w, hb⟩ | hb | ⟨e', q', _, hb, _, hq, _⟩
    · rw [hb] at h
      have h := Option.some.inj h
      simp only [parseRes, Prod.mk.injEq] at h
      exact absurd h.2.2.1.symm he
    · rw [hb] at h
      have h := Option.some.inj h
      simp only [parseRes, Prod.mk.injEq] at h
      obtain ⟨rfl, rfl, _, rfl⟩ := h
      exact ⟨rfl, rfl, by omega, by omega⟩
    · rw [hb] at h
      have h := Option.some.inj h
      simp only [parseRes, Prod.mk.injEq] at h
      obtain ⟨rfl, rfl, _, rfl⟩ := h
      exact ⟨rfl, rfl, by omega, by omega⟩
theorem valid_k (sc : Int) (l : List ByteArray) (hs : small l) (k : Nat) (hk : l.length < k) : script_Valid.f k sc l = some (nameOk sc l) := by
  have := valid_l sc l hs l.length k 0 (by omega) (by omega) hk
  simpa [script_Valid.f, nameOk] using this
theorem few_l (l : List ByteArray) (a : Int) : ∀ (d k i : Nat), i ≤ l.length → i ≤ 20 → 20 - i = d → 2 * d + 3 < k → (customhouseref09_Few.l0 k (i : Int) a l = some true ∧ (∀ j, i ≤ j → ∀ h : j < l.length, l[j].size ≤ 100) ∧ l.length ≤ 20) ∨ customhouseref09_Few.l0 k (i : Int) a l = some false := by
  intro d
  induction d with
  | zero =>
    intro k i hi h20 hd hk
    obtain ⟨k, rfl⟩ : ∃ m, k = m + 2 := ⟨k - 2, by omega⟩
    have hi20 : i = 20 := by omega
    simp only [customhouseref09_Few.l0, customhouseref09_Few.j1]
    by_cases hl : l.length ≤ 20
    · left
      refine ⟨?_, fun j hj h => by omega, hl⟩
      rw [if_neg (by omega), if_neg (by simp), decide_eq_true (by omega)]
    · right
      rw [if_pos (by omega), if_neg (by simp; omega), decide_eq_false (by omega)]
  | succ d ih =>
    intro k i hi h20 hd hk
    obtain ⟨k, rfl⟩ : ∃ m, k = m + 2 := ⟨k - 2, by omega⟩
    have hw1 : wrap64 ((i : Int) + 1) = ((i + 1 : Nat) : Int) := by unfold wrap64; omega
    simp only [customhouseref09_Few.l0, customhouseref09_Few.j1]
    by_cases hlt : i < l.length
    · rw [if_pos (by omega), if_pos (by simp; omega), if_pos (by omega), if_pos (by omega), rd_lt l i hlt]
      by_cases hb : l[i].size ≤ 100
      · rw [if_neg (by omega), hw1]
        rcases ih k (i + 1) (by omega) (by omega) (by omega) (by omega) with ⟨h1, h2, h3⟩ | h1
        · left
          refine ⟨h1, fun j hj h => ?_, h3⟩
          by_cases e : j = i
          · subst e; exact hb
          · exact h2 j (by omega) h
        · right; exact h1
      · right
        rw [if_pos (by omega)]
    · left
      rw [if_neg (by omega), if_neg (by simp), decide_eq_true (by omega)]
      exact ⟨rfl, fun j hj h => by omega, by omega⟩
theorem few_f (k : Nat) (a : Int) (l : List ByteArray) (hk : 50 < k) : (customhouseref09_Few.f k a l = some true ∧ (∀ x ∈ l, x.size ≤ 100) ∧ l.length ≤ 20) ∨ customhouseref09_Few.f k a l = some false := by
  rcases few_l l a 20 k 0 (by omega) (by omega) (by omega) (by omega) with ⟨h1, h2, h3⟩ | h1
  · left
    refine ⟨h1, fun x hx => ?_, h3⟩
    obtain ⟨j, hj, rfl⟩ := List.getElem_of_mem hx
    exact h2 j (by omega) hj
  · right; exact h1
theorem small_of {l : List ByteArray} (h : ∀ x ∈ l, x.size ≤ 100) (hl : l.length ≤ 20) : small l := ⟨fun w hw => by have := h w hw; omega, by omega⟩
theorem small_ok {sc : Int} {l : List ByteArray} (h : nameOk sc l = true) : small l := by
  obtain ⟨hw, h1, h6, s1, s4⟩ := ok_parts h
  exact ⟨fun w hm => by have := (word_len sc _ (hw w hm)).1; rw [size_len]; omega, by omega⟩
end Go.Proofs.YtgimbkfahfnplaaDoor.Pu
