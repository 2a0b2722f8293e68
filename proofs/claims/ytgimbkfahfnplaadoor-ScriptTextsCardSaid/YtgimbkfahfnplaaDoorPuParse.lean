/- Plain laws of what Parse answers: errors and their offsets, a shorter text. -/
import Derived.Test.YtgimbkfahfnplaaDoorPu
namespace Scr
theorem len_prefix {sc : Int} {s : Bs} {m : Nat} (h : len sc s ≠ 0) (hm : len sc s ≤ m) : len sc (s.take m) = len sc s := by
  match s, h, hm with
  | [], h, _ => exact absurd (len_nil sc) h
  | a :: r, h, hm =>
    obtain ⟨m, rfl⟩ : ∃ k, m = k + 1 := ⟨m - 1, by omega⟩
    rw [List.take_succ_cons, len_cons, len_cons] at *
    cases m with
    | zero =>
      rw [List.take_zero]
      have h1 : l2 sc a r.head? = 1 := by omega
      rw [h1]
      exact l2_one sc a _ _ h1 (fun _ => rfl) (fun _ _ => rfl)
    | succ m =>
      have : (r.take (m + 1)).head? = r.head? := by cases r <;> simp
      rw [this]
/-- Where an error stands, and what the text before it gives. -/
def Tells (sc : Int) (ws : List Bs) (n : Nat) (cur : Bs) (p : Nat) (s : Bs) : Prop :=
  (∃ ws', R sc ws n cur p s = .ok ws') ∨ R sc ws n cur p s = .bad 6 (p + s.length) ∨
  ∃ e q, (e = 3 ∨ e = 2) ∧ R sc ws n cur p s = .bad e q ∧ p ≤ q ∧ q < p + s.length ∧ ((∃ ws', R sc ws n cur p (s.take (q - p)) = .ok ws') ∨ R sc ws n cur p (s.take (q - p)) = .bad 6 q)
theorem tells_nil (sc ws n cur p) : (∃ ws', R sc ws n cur p [] = .ok ws') ∨ R sc ws n cur p [] = .bad 6 p := by
  rw [R_end]
  by_cases h : flush ws n cur = []
  · rw [if_pos h]; exact .inr rfl
  · rw [if_neg h]; exact .inl ⟨_, rfl⟩
theorem tells (sc : Int) : ∀ (m : Nat) (s : Bs) (ws : List Bs) (n : Nat) (cur : Bs) (p : Nat), s.length ≤ m → Tells sc ws n cur p s := by
  intro m
  induction m with
  | zero =>
    intro s ws n cur p hm
    obtain rfl : s = [] := List.eq_nil_of_length_eq_zero (by omega)
    rcases tells_nil sc ws n cur p with h | h
    · exact .inl h
    · exact .inr (.inl h)
  | succ m ih =>
    intro s ws n cur p hm
    by_cases hl : len sc s = 0
    · cases s with
      | nil =>
        rcases tells_nil sc ws n cur p with h | h
        · exact .inl h
        · exact .inr (.inl h)
      | cons c r =>
        have hr : r.length ≤ m := by simp at hm; omega
        by_cases hc : c = 32
        · subst hc
          have hR := R_blank sc ws n cur p r
          rcases ih r (flush ws n cur) 0 [] (p + 1) hr with ⟨w, h⟩ | h | ⟨e, q, he, h, h1, h2, h3⟩
          · exact .inl ⟨w, hR.trans h⟩
          · exact .inr (.inl (by rw [hR, h, List.length_cons]; congr 1; omega))
          · refine .inr (.inr ⟨e, q, he, hR.trans h, by omega, by rw [List.length_cons]; omega, ?_⟩)
            obtain ⟨k, hk⟩ : ∃ k, q - p = k + 1 := ⟨q - p - 1, by omega⟩
            rw [hk, List.take_succ_cons, R_blank]
            rw [show q - (p + 1) = k by omega] at h3
            exact h3
        · have hR := R_bad sc ws n cur p c r hl hc
          refine .inr (.inr ⟨3, p, .inl rfl, hR, by omega, by rw [List.length_cons]; omega, ?_⟩)
          rw [Nat.sub_self, List.take_zero]
          exact tells_nil sc ws n cur p
    · have hle := len_le sc s
      by_cases hn : n = 12 ∨ ws.length = 6
      · refine .inr (.inr ⟨2, p, .inr rfl, R_lim sc ws n cur p s hl hn, by omega, by omega, ?_⟩)
        rw [Nat.sub_self, List.take_zero]
        exact tells_nil sc ws n cur p
      · have hR := R_letter sc ws n cur p s hl hn
        have hd : (s.drop (len sc s)).length = s.length - len sc s := List.length_drop
        rcases ih (s.drop (len sc s)) ws (n + 1) (cur ++ s.take (len sc s)) (p + len sc s) (by omega) with ⟨w, h⟩ | h | ⟨e, q, he, h, h1, h2, h3⟩
        · exact .inl ⟨w, hR.trans h⟩
        · exact .inr (.inl (by rw [hR, h, hd]; congr 1; omega))
        · refine .inr (.inr ⟨e, q, he, hR.trans h, by omega, by omega, ?_⟩)
          have hp := len_prefix (sc := sc) (s := s) (m := q - p) hl (by omega)
          rw [R_letter sc ws n cur p (s.take (q - p)) (by rw [hp]; exact hl) hn, hp, List.take_take, Nat.min_eq_left (by omega), List.drop_take]
          rw [show q - p - len sc s = q - (p + len sc s) by omega]
          exact h3
theorem index_take : ∀ (l : Bs) (c : UInt8) (j q : Nat), Go.Lib.indexByte l c = j → j < q → Go.Lib.indexByte (l.take q) c = j := by
  intro l
  induction l with
  | nil => intro c j q h hq; have h' : (-1 : Int) = j := h; omega
  | cons b l ih =>
    intro c j q h hq
    obtain ⟨q, rfl⟩ : ∃ m, q = m + 1 := ⟨q - 1, by omega⟩
    rw [List.take_succ_cons]
    unfold Go.Lib.indexByte at h ⊢
    by_cases hb : (b == c) = true
    · rw [if_pos hb] at h ⊢; exact h
    · rw [if_neg hb] at h ⊢
      by_cases h1 : (Go.Lib.indexByte l c == -1) = true
      · rw [if_pos h1] at h; omega
      · rw [if_neg h1] at h
        have hj0 : 0 < j := by
          have := Go.Lib.indexByte_ge l c
          have h3 : Go.Lib.indexByte l c ≠ -1 := fun e => h1 (by rw [e]; rfl)
          omega
        have := ih c (j - 1) q (by omega) (by omega)
        rw [this]
        have h2 : ¬ ((((j - 1 : Nat) : Int)) == -1) = true := by
          intro e
          have := beq_iff_eq.1 e
          omega
        rw [if_neg h2]
        omega
end Scr
namespace Go.Proofs.YtgimbkfahfnplaaDoor.Pu
open Go.RowKit Go.Lib Go.Proofs.YtgimbkfahfnplaaDoorW.PrintWords Go.Proofs.YtgimbkfahfnplaaDoor.X1 Go.Proofs.YtgimbkfahfnplaaDoor.X2 Go.Proofs.YtgimbkfahfnplaaDoor.X3 Go.Proofs.YtgimbkfahfnplaaDoor.X4 Go.Proofs.YtgimbkfahfnplaaDoor.X5 Go.Proofs.YtgimbkfahfnplaaDoor.A Go.Proofs.YtgimbkfahfnplaaDoor.B

theorem known_len {l : List UInt8} (h : known l ≠ 0) : 5 ≤ l.length := by
  unfold known at h
  by_cases h1 : l = title 1
  · rw [h1]; decide
  by_cases h2 : l = title 2
  · rw [h2]; decide
  by_cases h3 : l = title 3
  · rw [h3]; decide
  by_cases h4 : l = title 4
  · rw [h4]; decide
  rw [if_neg h1, if_neg h2, if_neg h3, if_neg h4] at h
  exact absurd rfl h
/-- What Parse answers: no script's word, or what the reading machine says of the rest. -/
theorem parse_cases (s : ByteArray) (hs : s.size ≤ 20000) : script_Parse.f s = some (0, [], 5, 0) ∨
    ∃ j : Nat, Lib.indexByte s.data.toList 58 = j ∧ j < s.size ∧ known (s.data.toList.take j) ≠ 0 ∧ script_Parse.f s = some (parseRes (known (s.data.toList.take j)) (Scr.R (known (s.data.toList.take j)) [] 0 [] (j + 1) (s.data.toList.drop (j + 1)))) := by
  by_cases h : Lib.indexByte s.data.toList 58 < 0 ∨ known (s.data.toList.take (Lib.indexByte s.data.toList 58).toNat) = 0
  · exact .inl (parse_syn hs h)
  · refine .inr ⟨(Lib.indexByte s.data.toList 58).toNat, by omega, ?_, fun e => h (.inr e), ?_⟩
    · have h1 := (Lib.indexByte_some (l := s.data.toList) (c := 58) (o := (Lib.indexByte s.data.toList 58).toNat) (by omega)).1
      have h2 := (List.getElem?_eq_some_iff.1 h1).1
      simpa using h2
    · unfold script_Parse.f parseL
      rw [if_neg (by omega), if_neg h]
theorem parse_take (s : ByteArray) (hs : s.size ≤ 20000) {j q : Nat} (hj : Lib.indexByte s.data.toList 58 = j) (hk : known (s.data.toList.take j) ≠ 0) (hq : j + 1 ≤ q) :
    script_Parse.f (s.extract 0 q) = some (parseRes (known (s.data.toList.take j)) (Scr.R (known (s.data.toList.take j)) [] 0 [] (j + 1) ((s.data.toList.drop (j + 1)).take (q - (j + 1))))) := by
  have hsz : (s.extract 0 q).size ≤ 20000 := by simp; omega
  have hl := take_list s q
  have hi := Scr.index_take s.data.toList 58 j q hj (by omega)
  have ht : (s.data.toList.take q).take j = s.data.toList.take j := by rw [List.take_take, Nat.min_eq_left (by omega)]
  unfold script_Parse.f parseL
  rw [if_neg (by omega), hl, hi, Int.toNat_natCast, ht, if_neg (by rintro (h | h); omega; exact hk h), List.drop_take]
end Go.Proofs.YtgimbkfahfnplaaDoor.Pu
