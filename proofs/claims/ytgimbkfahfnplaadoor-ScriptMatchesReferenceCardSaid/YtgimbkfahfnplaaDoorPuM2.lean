/- The statement ScriptMatchesReference holds at every name, script, word and text; conditions: that the world holds Go's tables. -/
import Derived.Test.YtgimbkfahfnplaaDoorPuM1
import Derived.Test.YtgimbkfahfnplaaDoorPuFo
import Derived.Test.YtgimbkfahfnplaaDoorA3
import Derived.Test.YtgimbkfahfnplaaDoorA4
import Derived.Test.YtgimbkfahfnplaaDoorX6
namespace Go.Proofs.YtgimbkfahfnplaaDoor.Pu
open Go.RowKit Go.Lib Go.Proofs.YtgimbkfahfnplaaDoorW.PrintWords Go.Proofs.YtgimbkfahfnplaaDoor.X1 Go.Proofs.YtgimbkfahfnplaaDoor.X2 Go.Proofs.YtgimbkfahfnplaaDoor.X3 Go.Proofs.YtgimbkfahfnplaaDoor.X4 Go.Proofs.YtgimbkfahfnplaaDoor.X5 Go.Proofs.YtgimbkfahfnplaaDoor.A Go.Proofs.YtgimbkfahfnplaaDoor.B

theorem among_l (s set : ByteArray) (i : Nat) (hi : i < s.size) (hset : set.size ≤ 1000) : ∀ (d k j : Nat), j ≤ set.size → set.size - j = d → d < k →
    customhouseref09_among.l0 k s (i : Int) set (j : Int) = some ((set.data.toList.drop j).contains (s.data.toList[i]'(by simpa using hi))) := by
  intro d
  induction d with
  | zero =>
    intro k j hj hd hk
    obtain ⟨k, rfl⟩ : ∃ m, k = m + 1 := ⟨k - 1, by omega⟩
    simp only [customhouseref09_among.l0]
    rw [if_neg (by omega), List.drop_eq_nil_of_le (by rw [← size_len]; omega)]
    rfl
  | succ d ih =>
    intro k j hj hd hk
    obtain ⟨k, rfl⟩ : ∃ m, k = m + 1 := ⟨k - 1, by omega⟩
    have hlt : j < set.size := by omega
    have hll : j < set.data.toList.length := by simpa using hlt
    have hw1 : wrap64 ((j : Int) + 1) = ((j + 1 : Nat) : Int) := by unfold wrap64; omega
    simp only [customhouseref09_among.l0]
    rw [if_pos (by omega), if_pos (by omega), if_pos (by omega), if_pos (by omega), bt_get' set j hlt, bt_get' s i hi, hw1, List.drop_eq_getElem_cons hll, List.contains_cons]
    generalize s.data.toList[i]'_ = c at ih ⊢
    generalize hb : set.data.toList[j]'hll = b
    by_cases h : b = c
    · rw [if_pos (by rw [h]), h]; simp
    · rw [if_neg (fun e => h (UInt8.toNat_inj.1 (by omega))), ih k (j + 1) (by omega) (by omega) (by omega)]
      have : (c == b) = false := by simpa using fun e : c = b => h e.symm
      rw [this, Bool.false_or]
theorem among_f (k : Nat) (s set : ByteArray) (i : Nat) (hset : set.size ≤ 1000) (hk : set.size < k) : customhouseref09_among.f k s (i : Int) set = some (Scr.hd (s.data.toList.drop i) set.data.toList) := by
  unfold customhouseref09_among.f
  by_cases hi : i < s.size
  · have hll : i < s.data.toList.length := by simpa using hi
    rw [if_neg (by omega), List.drop_eq_getElem_cons hll]
    have := among_l s set i hi hset set.size k 0 (by omega) (by omega) hk
    simpa [Scr.hd] using this
  · rw [if_pos (by omega), List.drop_eq_nil_of_le (by rw [← size_len]; omega)]
    rfl
theorem Length_f (k : Nat) (sc : Int) (s : ByteArray) (i : Nat) (hi : i ≤ s.size) (hs : s.size ≤ 1000000) (hk : 100 ≤ k) : customhouseref09_Length.f k sc s (i : Int) = some ((Scr.len sc (s.data.toList.drop i) : Nat) : Int) := by
  obtain ⟨k, rfl⟩ : ∃ m, k = m + 4 := ⟨k - 4, by omega⟩
  have hw : wrap64 ((i : Int) + 1) = ((i + 1 : Nat) : Int) := by unfold wrap64; omega
  have am : ∀ (n : Nat) (j : Nat) (set : ByteArray), 96 ≤ n → set.size ≤ 60 → customhouseref09_among.f n s (j : Int) set = some (Scr.hd (s.data.toList.drop j) set.data.toList) := fun n j set h1 h2 => among_f n s set j (by omega) (by omega)
  have ht : s.data.toList.drop (i + 1) = (s.data.toList.drop i).tail := by rw [List.tail_drop]
  unfold customhouseref09_Length.f
  unfold Scr.len
  by_cases h1 : sc = 1
  · subst h1
    rw [if_pos rfl, if_pos rfl, am _ i _ (by omega) (by decide), Option.bind_some]
    simp only [customhouseref09_Length.j0, customhouseref09_Length.j1, customhouseref09_Length.j2]
    show (if Scr.hd (s.data.toList.drop i) Scr.smallS = true then _ else _) = _
    cases Scr.hd (s.data.toList.drop i) Scr.smallS <;> simp
  rw [if_neg h1, if_neg h1]
  simp only [customhouseref09_Length.j0]
  rw [if_neg (by simp)]
  by_cases h2 : sc = 2
  · subst h2
    rw [if_pos rfl, if_pos rfl, am _ i _ (by omega) (by decide), Option.bind_some]
    simp only [customhouseref09_Length.j1, customhouseref09_Length.j2]
    rw [hw, am _ (i + 1) _ (by omega) (by decide), Option.bind_some, ht]
    show (if Scr.hd (s.data.toList.drop i) (Scr.smallS ++ Scr.capS) = true then _ else _) = _
    have hacc : ∀ l : List UInt8, Scr.hd l ([39, 96, 94] : List UInt8) = Scr.hd l Scr.accS := fun l => by
      cases l with
      | nil => rfl
      | cons c r => exact beq_iff_eq.1 (Scr.dec_all (fun c => ([39, 96, 94] : List UInt8).contains c == Scr.accS.contains c) (by decide +kernel) c)
    cases Scr.hd (s.data.toList.drop i) (Scr.smallS ++ Scr.capS) with
    | false => simp
    | true =>
      rw [if_pos rfl, if_pos rfl]
      show (if Scr.hd (s.data.toList.drop i).tail ([39, 96, 94] : List UInt8) = true then _ else _) = _
      rw [hacc]
      cases Scr.hd (s.data.toList.drop i).tail Scr.accS <;> simp
  rw [if_neg h2, if_neg h2]
  simp only [customhouseref09_Length.j1]
  rw [if_neg (by simp)]
  by_cases h3 : sc = 3
  · subst h3
    rw [if_pos rfl, if_pos rfl, am _ i _ (by omega) (by decide), Option.bind_some]
    simp only [customhouseref09_Length.j2]
    show (if Scr.hd (s.data.toList.drop i) Scr.abjS = true then _ else _) = _
    cases Scr.hd (s.data.toList.drop i) Scr.abjS <;> simp
  rw [if_neg h3, if_neg h3]
  simp only [customhouseref09_Length.j2]
  rw [if_neg (by simp)]
  by_cases h4 : sc = 4
  · subst h4
    rw [if_pos rfl, if_pos rfl, am _ i _ (by omega) (by decide), Option.bind_some, am _ i _ (by omega) (by decide), Option.bind_some, hw, am _ (i + 1) _ (by omega) (by decide), Option.bind_some, ht]
    simp only [customhouseref09_Length.j3]
    rw [am _ i _ (by omega) (by decide), Option.bind_some]
    show (if Scr.hd (s.data.toList.drop i) Scr.vowS = true then _ else (if Scr.hd (s.data.toList.drop i) Scr.onsS = true then (if Scr.hd (s.data.toList.drop i).tail Scr.vowS = true then _ else _) else _)) = _
    have hvo : Scr.hd (s.data.toList.drop i) Scr.vowS = true → Scr.hd (s.data.toList.drop i) Scr.onsS = false := by
      cases s.data.toList.drop i with
      | nil => intro h; rfl
      | cons c r => exact Scr.vow_ons c
    cases hv : Scr.hd (s.data.toList.drop i) Scr.vowS with
    | true => rw [hvo hv]; simp
    | false =>
      cases ho : Scr.hd (s.data.toList.drop i) Scr.onsS with
      | false =>
        show (if Scr.hd (s.data.toList.drop i) [110] = true then _ else _) = _
        cases Scr.hd (s.data.toList.drop i) [110] <;> simp
      | true =>
        cases ht2 : Scr.hd (s.data.toList.drop i).tail Scr.vowS with
        | true => simp
        | false =>
          show (if Scr.hd (s.data.toList.drop i) [110] = true then _ else _) = _
          cases Scr.hd (s.data.toList.drop i) [110] <;> simp
  · rw [if_neg h4, if_neg h4]; rfl
theorem ref_letters_l (sc : Int) (s : ByteArray) (hs : s.size ≤ 1000000) : ∀ (d k i : Nat) (out : List ByteArray), i ≤ s.size → s.size - i ≤ d → d + 101 < k → out.length ≤ 12 →
    customhouseref09_Letters.l0 k sc s out (i : Int) = if Scr.left sc (s.data.toList.drop i) = [] ∧ out.length + (Scr.letters sc (s.data.toList.drop i)).length ≤ 12 ∧ 1 ≤ out.length + (Scr.letters sc (s.data.toList.drop i)).length then some (out ++ (Scr.letters sc (s.data.toList.drop i)).map bs, 0) else some ([], 1) := by
  intro d
  have hend : ∀ (k i : Nat) (out : List ByteArray), i = s.size → 0 < k → out.length ≤ 12 → customhouseref09_Letters.l0 k sc s out (i : Int) = if Scr.left sc (s.data.toList.drop i) = [] ∧ out.length + (Scr.letters sc (s.data.toList.drop i)).length ≤ 12 ∧ 1 ≤ out.length + (Scr.letters sc (s.data.toList.drop i)).length then some (out ++ (Scr.letters sc (s.data.toList.drop i)).map bs, 0) else some ([], 1) := by
    intro k i out hi hk ho
    obtain ⟨k, rfl⟩ : ∃ m, k = m + 1 := ⟨k - 1, by omega⟩
    have hd0 : s.data.toList.drop i = [] := List.drop_eq_nil_of_le (by rw [← size_len]; omega)
    rw [hd0, (Scr.letters_nil sc).1, (Scr.letters_nil sc).2]
    simp only [customhouseref09_Letters.l0]
    rw [if_neg (by omega)]
    by_cases h0 : out.length = 0
    · rw [if_pos (by omega), if_neg (fun e => by have := e.2.2; rw [List.length_nil] at this; omega)]
    · rw [if_neg (by omega), if_pos (by refine ⟨?_, ?_, ?_⟩ <;> first | trivial | rfl | (rw [List.length_nil]; omega))]
      simp
  induction d with
  | zero =>
    intro k i out hi hd hk ho
    exact hend k i out (by omega) (by omega) ho
  | succ d ih =>
    intro k i out hi hd hk ho
    by_cases hie : i = s.size
    · exact hend k i out hie (by omega) ho
    obtain ⟨k, rfl⟩ : ∃ m, k = m + 1 := ⟨k - 1, by omega⟩
    have hlt : i < s.size := by omega
    have hle := Scr.len_le sc (s.data.toList.drop i)
    have hne : s.data.toList.drop i ≠ [] := fun e => by
      have := congrArg List.length e
      rw [List.length_drop, ← size_len] at this
      simp at this
      omega
    simp only [customhouseref09_Letters.l0]
    rw [if_pos (by omega), Length_f k sc s i hi hs (by omega), Option.bind_some]
    rw [List.length_drop, ← size_len] at hle
    by_cases h0 : Scr.len sc (s.data.toList.drop i) = 0
    · rw [h0, if_pos (show ((0 : Nat) : Int) = 0 from rfl), if_neg (fun e => hne ((Scr.letters_zero h0).2.symm.trans e.1))]
    · obtain ⟨e1, e2⟩ := Scr.letters_step h0
      rw [if_neg (by omega), e1, e2, List.length_cons, List.drop_drop]
      generalize Scr.len sc (s.data.toList.drop i) = n at h0 hle ⊢
      by_cases h12 : out.length = 12
      · rw [if_pos (by omega), if_neg (by omega)]
      · have hw : wrap64 ((i : Int) + (n : Int)) = ((i + n : Nat) : Int) := by unfold wrap64; omega
        have hx : s.extract i (i + n) = bs ((s.data.toList.drop i).take n) := bs_ext (by rw [Lt.extract_mid]; rfl)
        rw [if_neg (by omega), hw, if_pos (by omega), if_pos (by omega), if_pos (by omega), if_pos (by omega), Int.toNat_natCast, Int.toNat_natCast, ih k (i + n) _ (by omega) (by omega) (by omega) (by simp; omega), hx]
        simp only [List.length_append, List.length_cons, List.length_nil, List.map_cons, List.append_assoc, List.cons_append, List.nil_append]
        have ea : out.length + (0 + 1) + (Scr.letters sc (s.data.toList.drop (i + n))).length = out.length + ((Scr.letters sc (s.data.toList.drop (i + n))).length + 1) := by omega
        rw [ea]
theorem ref_Letters_f (k : Nat) (sc : Int) (s : ByteArray) (hs : s.size ≤ 1000000) (hk : s.size + 101 < k) : customhouseref09_Letters.f k sc s = if Scr.word sc s.data.toList = true then some ((Scr.letters sc s.data.toList).map bs, 0) else some ([], 1) := by
  unfold customhouseref09_Letters.f
  have := ref_letters_l sc s hs s.size k 0 [] (by omega) (by omega) hk (by simp)
  rw [show ((0 : Nat) : Int) = 0 from rfl] at this
  rw [this, List.drop_zero]
  by_cases hw : Scr.word sc s.data.toList = true
  · obtain ⟨w1, w2, w3⟩ := word_parts hw
    rw [if_pos hw, if_pos ⟨w1, by simpa using w3, by simpa using w2⟩, List.nil_append]
  · rw [if_neg hw, if_neg (fun e => hw (word_of ⟨e.1, by simpa using e.2.2, by simpa using e.2.1⟩))]
theorem ref_Word_f (k : Nat) (sc : Int) (s : ByteArray) (hs : s.size ≤ 1000000) (hk : s.size + 101 < k) : customhouseref09_Word.f k sc s = some (Scr.word sc s.data.toList) := by
  unfold customhouseref09_Word.f
  rw [ref_Letters_f k sc s hs hk]
  by_cases hw : Scr.word sc s.data.toList = true
  · rw [if_pos hw, Option.bind_some, hw]; rfl
  · rw [if_neg hw, Option.bind_some]
    have : Scr.word sc s.data.toList = false := by simpa using hw
    rw [this]; rfl
theorem ref_valid_l (sc : Int) (l : List ByteArray) (hs : ∀ x ∈ l, x.size ≤ 100) (hl : l.length ≤ 20) : ∀ (d k i : Nat), i ≤ l.length → l.length - i = d → d + 220 < k →
    customhouseref09_Valid.l0 k (i : Int) sc l = some ((l.drop i).all (fun w => Scr.word sc w.data.toList) && decide (1 ≤ l.length) && decide (l.length ≤ 6)) := by
  intro d
  induction d with
  | zero =>
    intro k i hi hd hk
    obtain ⟨k, rfl⟩ : ∃ m, k = m + 1 := ⟨k - 1, by omega⟩
    simp only [customhouseref09_Valid.l0]
    rw [if_neg (by omega), List.drop_eq_nil_of_le (by omega)]
    by_cases h0 : l.length = 0
    · rw [if_neg (by omega)]; simp [h0]
    · rw [if_pos (by omega)]
      have h1 : decide (1 ≤ l.length) = true := decide_eq_true (by omega)
      rw [h1]
      simp
      omega
  | succ d ih =>
    intro k i hi hd hk
    obtain ⟨k, rfl⟩ : ∃ m, k = m + 1 := ⟨k - 1, by omega⟩
    have hlt : i < l.length := by omega
    have hsz := hs l[i] (List.getElem_mem hlt)
    have hw1 : wrap64 ((i : Int) + 1) = ((i + 1 : Nat) : Int) := by unfold wrap64; omega
    simp only [customhouseref09_Valid.l0]
    rw [if_pos (by omega), if_pos (by omega), rd_lt l i hlt, ref_Word_f k sc l[i] (by omega) (by omega), Option.bind_some, List.drop_eq_getElem_cons hlt, List.all_cons]
    cases hw : Scr.word sc l[i].data.toList with
    | false => simp
    | true =>
      rw [if_pos rfl, hw1, ih k (i + 1) (by omega) (by omega) (by omega), Bool.true_and]
theorem ref_Valid_f (k : Nat) (sc : Int) (l : List ByteArray) (hs : ∀ x ∈ l, x.size ≤ 100) (hl : l.length ≤ 20) (hk : 300 ≤ k) : customhouseref09_Valid.f k sc l = some (nameOk sc l) := by
  have := ref_valid_l sc l hs hl l.length k 0 (by omega) (by omega) (by omega)
  simpa [customhouseref09_Valid.f, nameOk] using this
theorem ref_Title_f {sc : Int} (h1 : 1 ≤ sc) (h4 : sc ≤ 4) : customhouseref09_Title.f sc = some (bs (title sc ++ [58])) := by
  have e : sc = 1 ∨ sc = 2 ∨ sc = 3 ∨ sc = 4 := by omega
  rcases e with rfl | rfl | rfl | rfl <;> rfl
theorem join_snoc : ∀ (l : List (List UInt8)) (x : List UInt8), l ≠ [] → Lib.join (l ++ [x]) [32] = Lib.join l [32] ++ 32 :: x
  | [], _, h => absurd rfl h
  | [a], x, _ => by simp [Lib.join, List.intercalate_cons_cons]
  | a :: b :: r, x, _ => by
    have e : ∀ t : List (List UInt8), Lib.join (a :: b :: t) [32] = a ++ 32 :: Lib.join (b :: t) [32] := fun t => by simp [Lib.join, List.intercalate_cons_cons]
    have ih := join_snoc (b :: r) x (by simp)
    rw [List.cons_append, List.cons_append, e, e, ← List.cons_append, ih]
    simp
theorem ref_text_l (sc : Int) (l : List ByteArray) (hs : ∀ x ∈ l, x.size ≤ 100) (hl : l.length ≤ 20) (t : List UInt8) (ht : t.length ≤ 10) : ∀ (d k i : Nat) (x : ByteArray), i ≤ l.length → l.length - i = d → d < k →
    x.data.toList = t ++ Lib.join ((l.take i).map (·.data.toList)) [32] → x.size ≤ 10 + 101 * i → ∃ y, customhouseref09_Text.l0 k x (i : Int) sc l = some (y, 0) ∧ y.data.toList = t ++ Lib.join (l.map (·.data.toList)) [32] := by
  intro d
  induction d with
  | zero =>
    intro k i x hi hd hk hx hz
    obtain ⟨k, rfl⟩ : ∃ m, k = m + 1 := ⟨k - 1, by omega⟩
    simp only [customhouseref09_Text.l0]
    rw [if_neg (by omega)]
    exact ⟨x, rfl, by rw [hx, List.take_of_length_le (by omega)]⟩
  | succ d ih =>
    intro k i x hi hd hk hx hz
    obtain ⟨k, rfl⟩ : ∃ m, k = m + 1 := ⟨k - 1, by omega⟩
    have hlt : i < l.length := by omega
    have hsz := hs l[i] (List.getElem_mem hlt)
    have hw1 : wrap64 ((i : Int) + 1) = ((i + 1 : Nat) : Int) := by unfold wrap64; omega
    have h1 : (⟨#[32]⟩ : ByteArray).size = 1 := rfl
    have htk : (l.take (i + 1)).map (·.data.toList) = (l.take i).map (·.data.toList) ++ [l[i].data.toList] := by
      rw [List.take_add_one, List.getElem?_eq_getElem hlt, List.map_append]; rfl
    simp only [customhouseref09_Text.l0]
    rw [if_pos (by omega), rd_lt l i hlt, hw1]
    by_cases h0 : i = 0
    · subst h0
      rw [if_neg (by omega), if_pos (by omega), if_pos (by omega)]
      refine ih k 1 _ (by omega) (by omega) (by omega) ?_ (by rw [ByteArray.size_append]; omega)
      rw [ByteArray.data_append, Array.toList_append, hx, htk]
      simp [Lib.join]
    · rw [if_pos (by omega), if_pos (by omega), if_pos (by omega), if_pos (by rw [ByteArray.size_append, h1]; omega)]
      refine ih k (i + 1) _ (by omega) (by omega) (by omega) ?_ (by rw [ByteArray.size_append, ByteArray.size_append, h1]; omega)
      have hne : (l.take i).map (·.data.toList) ≠ [] := fun e => by
        have := congrArg List.length e
        rw [List.length_map, List.length_take, List.length_nil] at this
        omega
      rw [ByteArray.data_append, Array.toList_append, ByteArray.data_append, Array.toList_append, hx, htk, join_snoc _ _ hne]
      simp
theorem ref_Text_f (k : Nat) (sc : Int) (l : List ByteArray) (hs : ∀ x ∈ l, x.size ≤ 100) (hl : l.length ≤ 20) (hk : 300 ≤ k) : customhouseref09_Text.f k sc l = script_Text.f sc l := by
  unfold customhouseref09_Text.f script_Text.f
  rw [ref_Valid_f k sc l hs hl hk, Option.bind_some, if_pos (small_of hs hl)]
  by_cases h : nameOk sc l = true
  · obtain ⟨_, _, _, s1, s4⟩ := ok_parts h
    have t3 := (title_facts s1 s4 []).2.2
    rw [if_pos h, if_pos h, ref_Title_f s1 s4, Option.bind_some]
    obtain ⟨y, e1, e2⟩ := ref_text_l sc l hs hl (title sc ++ [58]) (by simp; omega) l.length k 0 (bs (title sc ++ [58])) (by omega) (by omega) (by omega) (by simp [Lib.join, data_bs]) (by rw [size_len, data_bs]; simp; omega)
    rw [show ((0 : Nat) : Int) = 0 from rfl] at e1
    rw [e1]
    congr 2
    exact bs_ext e2
  · rw [if_neg h, if_neg h]
    rfl
end Go.Proofs.YtgimbkfahfnplaaDoor.Pu

namespace Go.Proofs.YtgimbkfahfnplaaDoor.Pu
open Go.RowKit Go.Lib Go.Proofs.YtgimbkfahfnplaaDoorW.PrintWords Go.Proofs.YtgimbkfahfnplaaDoor.X1 Go.Proofs.YtgimbkfahfnplaaDoor.X2 Go.Proofs.YtgimbkfahfnplaaDoor.X3 Go.Proofs.YtgimbkfahfnplaaDoor.X4 Go.Proofs.YtgimbkfahfnplaaDoor.X5 Go.Proofs.YtgimbkfahfnplaaDoor.A Go.Proofs.YtgimbkfahfnplaaDoor.B

def lowI (c : UInt8) : Int := (((Scr.low c).toNat : Nat) : Int)
theorem ref_fold_l (s : ByteArray) (hs : s.size ≤ 1000000) : ∀ (d k i : Nat), i ≤ s.size → s.size - i = d → d < k →
    customhouseref09_Fold.l0 k s ((s.data.toList.take i).map lowI) (i : Int) = some (strOfNums (s.data.toList.map lowI), 0) := by
  intro d
  induction d with
  | zero =>
    intro k i hi hd hk
    obtain ⟨k, rfl⟩ : ∃ m, k = m + 1 := ⟨k - 1, by omega⟩
    simp only [customhouseref09_Fold.l0]
    rw [if_neg (by omega), List.take_of_length_le (by rw [← size_len]; omega)]
  | succ d ih =>
    intro k i hi hd hk
    obtain ⟨k, rfl⟩ : ∃ m, k = m + 1 := ⟨k - 1, by omega⟩
    have hlt : i < s.size := by omega
    have hll : i < s.data.toList.length := by simpa using hlt
    have hw1 : wrap64 ((i : Int) + 1) = ((i + 1 : Nat) : Int) := by unfold wrap64; omega
    have htl : ((s.data.toList.take i).map lowI).length < 140737488355328 := by rw [List.length_map, List.length_take]; omega
    have hstep : (s.data.toList.take (i + 1)).map lowI = (s.data.toList.take i).map lowI ++ [lowI (s.data.toList[i]'hll)] := by
      rw [List.take_add_one, List.getElem?_eq_getElem hll, List.map_append]; rfl
    have ih' := ih k (i + 1) (by omega) (by omega) (by omega)
    rw [hstep] at ih'
    simp only [customhouseref09_Fold.l0]
    rw [if_pos (by omega), if_pos (by omega), bt_get' s i hlt, hw1]
    generalize s.data.toList[i]'hll = c at ih' ⊢
    have h1 : 65 ≤ c.toNat → c.toNat ≤ 90 → (((c.toNat : Nat) : Int) + 32) % 256 = lowI c := fun h h' => by
      have := Scr.dec_all (fun c => !Scr.cap1 c || ((((c.toNat : Nat) : Int) + 32) % 256 == lowI c)) (by decide +kernel) c
      have hc : Scr.cap1 c = true := by unfold Scr.cap1; rw [decide_eq_true h, decide_eq_true h']; rfl
      rw [hc] at this
      simpa using this
    have h2 : Scr.cap1 c = false → ((c.toNat : Nat) : Int) = lowI c := fun h => by unfold lowI; rw [Scr.low_nocap c h]
    by_cases a : ((c.toNat : Nat) : Int) ≥ 65
    · rw [if_pos a]
      by_cases b : ((c.toNat : Nat) : Int) ≤ 90
      · rw [if_pos b, if_pos htl, h1 (by omega) (by omega)]; exact ih'
      · rw [if_neg b, if_pos htl, h2 (by unfold Scr.cap1; rw [decide_eq_false (show ¬ c.toNat ≤ 90 by omega), Bool.and_false])]; exact ih'
    · rw [if_neg a, if_pos htl, h2 (by unfold Scr.cap1; rw [decide_eq_false (show ¬ 65 ≤ c.toNat by omega), Bool.false_and])]; exact ih'
theorem ref_Fold_f (k : Nat) (sc : Int) (s : ByteArray) (hs : s.size ≤ 1000000) (hk : s.size + 101 < k) : customhouseref09_Fold.f k sc s = script_Fold.f sc s := by
  unfold customhouseref09_Fold.f
  rw [ref_Word_f k sc s hs hk, Option.bind_some, Fold_f sc s hs]
  by_cases h : Scr.word sc s.data.toList = true
  · rw [if_pos h, if_pos h]
    have := ref_fold_l s hs s.size k 0 (by omega) (by omega) (by omega)
    rw [List.take_zero, List.map_nil, show ((0 : Nat) : Int) = 0 from rfl] at this
    rw [this]
    congr 2
    refine bs_ext ?_
    rw [strOfNums_data, data_bs, List.map_map]
    unfold Scr.lower
    refine List.map_congr_left (fun c _ => ?_)
    show UInt8.ofNat (lowI c).toNat = Scr.low c
    unfold lowI
    rw [Int.toNat_natCast, UInt8.ofNat_toNat]
  · rw [if_neg h, if_neg h]

/-! ### Parse -/
set_option maxHeartbeats 1000000 in
/-- What the reference's reading of the rest answers, inside a word (n letters since beg) or outside. -/
theorem ref_parse_l1 (s : ByteArray) (hs : s.size ≤ 20000) (sc : Int) : ∀ (d k i beg n : Nat) (ins : Bool) (ws : List ByteArray), i ≤ s.size → s.size - i ≤ d → d + 101 < k →
    ws.length ≤ 6 → (ins = true → ws.length ≤ 5 ∧ 1 ≤ n ∧ n ≤ 12 ∧ beg ≤ i) →
    customhouseref09_Parse.l1 k s ins (n : Int) (beg : Int) (i : Int) sc ws = some (parseRes sc (Scr.R sc (X4.data ws) (if ins = true then n else 0) (if ins = true then (s.data.toList.drop beg).take (i - beg) else []) i (s.data.toList.drop i))) := by
  have hend : ∀ (k i beg n : Nat) (ins : Bool) (ws : List ByteArray), i = s.size → 0 < k → ws.length ≤ 6 → (ins = true → ws.length ≤ 5 ∧ 1 ≤ n ∧ n ≤ 12 ∧ beg ≤ i) →
      customhouseref09_Parse.l1 k s ins (n : Int) (beg : Int) (i : Int) sc ws = some (parseRes sc (Scr.R sc (X4.data ws) (if ins = true then n else 0) (if ins = true then (s.data.toList.drop beg).take (i - beg) else []) i (s.data.toList.drop i))) := by
    intro k i beg n ins ws hi hk hws hin
    obtain ⟨k, rfl⟩ : ∃ m, k = m + 1 := ⟨k - 1, by omega⟩
    have hd0 : s.data.toList.drop i = [] := List.drop_eq_nil_of_le (by rw [← size_len]; omega)
    rw [hd0, Scr.R_end]
    simp only [customhouseref09_Parse.l1]
    rw [if_neg (by omega)]
    cases ins with
    | false =>
      simp only [Bool.false_eq_true, if_false]
      have hf : Scr.flush (X4.data ws) 0 [] = X4.data ws := rfl
      by_cases h0 : ws.length = 0
      · rw [if_pos (by omega), hf, if_pos (data_nil.2 h0), hi]; rfl
      · rw [if_neg (by omega), hf, if_neg (fun e => h0 (data_nil.1 e))]
        simp [parseRes, map_bs]
    | true =>
      obtain ⟨h5, h1, h12, hb⟩ := hin rfl
      simp only [if_true]
      rw [if_pos (by omega), if_pos (by omega), if_pos (by omega), Option.bind_some, if_neg (by simp; omega)]
      have hx : (s.extract beg s.size).data.toList = (s.data.toList.drop beg).take (i - beg) := by
        rw [Lt.toList_extract, List.take_of_length_le (by rw [List.length_drop, ← size_len]; omega)]
      have hf : Scr.flush (X4.data ws) n ((s.data.toList.drop beg).take (i - beg)) = X4.data (ws ++ [s.extract beg s.size]) := by
        unfold Scr.flush; rw [if_neg (by omega), ← hx]; simp [X4.data]
      rw [hf, if_neg (fun e => by have := data_nil.1 e; simp at this), Int.toNat_natCast]
      simp [parseRes, map_bs]
  intro d
  induction d with
  | zero =>
    intro k i beg n ins ws hi hd hk hws hin
    exact hend k i beg n ins ws (by omega) (by omega) hws hin
  | succ d ih =>
    intro k i beg n ins ws hi hd hk hws hin
    by_cases hie : i = s.size
    · exact hend k i beg n ins ws hie (by omega) hws hin
    obtain ⟨k, rfl⟩ : ∃ m, k = m + 1 := ⟨k - 1, by omega⟩
    have hlt : i < s.size := by omega
    have hll : i < s.data.toList.length := by simpa using hlt
    have hw1 : wrap64 ((i : Int) + 1) = ((i + 1 : Nat) : Int) := by unfold wrap64; omega
    have hdr : s.data.toList.drop i = s.data.toList[i]'hll :: s.data.toList.drop (i + 1) := List.drop_eq_getElem_cons hll
    simp only [customhouseref09_Parse.l1]
    rw [if_pos (by omega), if_pos (by omega), bt_get' s i hlt]
    by_cases hb : s.data.toList[i]'hll = 32
    · rw [if_pos (by rw [hb]; decide), hdr, hb, Scr.R_blank]
      cases ins with
      | false =>
        rw [if_neg (by simp), hw1, ih k (i + 1) beg n false ws (by omega) (by omega) (by omega) hws (by simp)]
        simp only [Bool.false_eq_true, if_false]
        rfl
      | true =>
        obtain ⟨h5, h1, h12, hbg⟩ := hin rfl
        rw [if_pos rfl, if_pos (by omega), if_pos (by omega), if_pos (by omega), if_pos (by omega), hw1, Int.toNat_natCast, Int.toNat_natCast]
        rw [ih k (i + 1) beg n false _ (by omega) (by omega) (by omega) (by simp; omega) (by simp)]
        have hx : (s.extract beg i).data.toList = (s.data.toList.drop beg).take (i - beg) := by
          have := Lt.extract_mid s beg (i - beg)
          rw [show beg + (i - beg) = i by omega] at this
          exact this
        have hf : Scr.flush (X4.data ws) n ((s.data.toList.drop beg).take (i - beg)) = X4.data (ws ++ [s.extract beg i]) := by
          unfold Scr.flush; rw [if_neg (by omega), ← hx]; simp [X4.data]
        simp only [Bool.false_eq_true, if_false, if_true]
        rw [hf]
    · have hbn : ¬ (((s.data.toList[i]'hll).toNat : Nat) : Int) = 32 := fun e => hb (UInt8.toNat_inj.1 (by show _ = 32; omega))
      have hle := Scr.len_le sc (s.data.toList.drop i)
      have h2 := Scr.len_two sc (s.data.toList.drop i)
      rw [List.length_drop, ← size_len] at hle
      rw [if_neg hbn, Length_f k sc s i hi (by omega) (by omega), Option.bind_some]
      by_cases h0 : Scr.len sc (s.data.toList.drop i) = 0
      · rw [h0, if_pos (show ((0 : Nat) : Int) = 0 from rfl)]
        have hR : ∀ ws' n' cur', Scr.R sc ws' n' cur' i (s.data.toList.drop i) = .bad 3 i := fun ws' n' cur' => by
          have h0' := h0
          rw [hdr] at h0' ⊢
          exact Scr.R_bad _ _ _ _ _ _ _ h0' hb
        rw [hR]
        rfl
      · have hR1 : ∀ ws' n' cur', (n' = 12 ∨ ws'.length = 6) → parseRes sc (Scr.R sc ws' n' cur' i (s.data.toList.drop i)) = (0, [], 2, (i : Int)) := fun ws' n' cur' h => by
          rw [Scr.R_lim _ _ _ _ _ _ h0 h]
          simp only [parseRes]
        have hR2 : ∀ ws' n' cur', ¬ (n' = 12 ∨ ws'.length = 6) → Scr.R sc ws' n' cur' i (s.data.toList.drop i) = Scr.R sc ws' (n' + 1) (cur' ++ (s.data.toList.drop i).take (Scr.len sc (s.data.toList.drop i))) (i + Scr.len sc (s.data.toList.drop i)) (s.data.toList.drop (i + Scr.len sc (s.data.toList.drop i))) := fun ws' n' cur' h => by
          rw [Scr.R_letter _ _ _ _ _ _ h0 h, List.drop_drop]
        generalize Scr.len sc (s.data.toList.drop i) = m at hle h2 h0 hR2 ⊢
        have h0i : ¬ ((m : Nat) : Int) = 0 := by omega
        rw [if_neg h0i]
        have hw2 : wrap64 ((i : Int) + ((m : Nat) : Int)) = ((i + m : Nat) : Int) := by unfold wrap64; omega
        have hdl : (X4.data ws).length = ws.length := by simp [X4.data]
        rw [hw2]
        clear hw2 hw1
        cases ins with
        | true =>
          obtain ⟨h5, h1, h12, hbg⟩ := hin rfl
          have hwn : wrap64 ((n : Int) + 1) = ((n + 1 : Nat) : Int) := by unfold wrap64; omega
          simp only [if_true]
          rw [hwn]
          clear hwn
          by_cases hn : n = 12
          · have hc : (((n + 1 : Nat) : Int)) > 12 := by omega
            rw [if_pos hc, hR1 _ _ _ (.inl hn)]
          · have hc : ¬ (((n + 1 : Nat) : Int)) > 12 := by omega
            have hno : ¬ (n = 12 ∨ (X4.data ws).length = 6) := by
              rintro (h | h)
              · exact hn h
              · omega
            have hi' := ih k (i + m) beg (n + 1) true ws (by omega) (by omega) (by omega) hws (fun _ => ⟨h5, by omega, by omega, by omega⟩)
            simp only [if_true] at hi'
            rw [if_neg hc, hR2 _ _ _ hno, hi']
            have hcur : (s.data.toList.drop beg).take (i - beg) ++ (s.data.toList.drop i).take m = (s.data.toList.drop beg).take (i + m - beg) := by
              rw [show i + m - beg = (i - beg) + m by omega, List.take_add, List.drop_drop, show beg + (i - beg) = i by omega]
            rw [hcur]
        | false =>
          simp only [Bool.false_eq_true, if_false]
          by_cases h6 : ws.length = 6
          · have hc : ((ws.length : Nat) : Int) = 6 := by omega
            rw [if_pos hc, hR1 _ _ _ (.inr (by omega))]
          · have hc : ¬ ((ws.length : Nat) : Int) = 6 := by omega
            have hno : ¬ ((0 : Nat) = 12 ∨ (X4.data ws).length = 6) := by
              rintro (h | h)
              · omega
              · omega
            have hi' := ih k (i + m) i 1 true ws (by omega) (by omega) (by omega) hws (fun _ => ⟨by omega, by omega, by omega, by omega⟩)
            simp only [if_true] at hi'
            have hc1 : ¬ ((0 : Int) + 1) > 12 := by decide
            rw [if_neg hc, hR2 _ _ _ hno]
            have hx : (s.data.toList.drop i).take (i + m - i) = [] ++ (s.data.toList.drop i).take m := by
              rw [show i + m - i = m by omega, List.nil_append]
            rw [hx] at hi'
            first
              | (rw [if_neg hc1]; exact hi')
              | exact hi'
def pre (T : List UInt8) (sc : Int) : Prop := T.take (title sc ++ [58]).length = title sc ++ [58]
instance (T : List UInt8) (sc : Int) : Decidable (pre T sc) := by unfold pre; infer_instance
theorem ref_step (s : ByteArray) (k : Nat) (x y : Int) (i : Int) (h1 : 1 ≤ i) (h4 : i ≤ 4) :
    customhouseref09_Parse.l0 (k + 1) s x i y = customhouseref09_Parse.l0 k s (if pre s.data.toList i then (((title i ++ [58]).length : Nat) : Int) else x) (i + 1) (if pre s.data.toList i then i else y) := by
  have hw : wrap64 (i + 1) = i + 1 := by unfold wrap64; omega
  have hz : (bs (title i ++ [58])).size = (title i ++ [58]).length := by rw [size_len, data_bs]
  conv => lhs; unfold customhouseref09_Parse.l0
  rw [if_pos h4, ref_Title_f h1 h4, Option.bind_some, hw, hz]
  have he : (s.extract 0 (title i ++ [58]).length).toList = (bs (title i ++ [58])).toList ↔ pre s.data.toList i := by
    rw [list_inj, take_list, data_bs]; exact Iff.rfl
  by_cases hs : (title i ++ [58]).length ≤ s.size
  · rw [if_pos (by omega), if_pos (by omega), if_pos (by omega), Int.toNat_natCast]
    by_cases hp : pre s.data.toList i
    · rw [if_pos (he.2 hp), if_pos hp, if_pos hp]
    · rw [if_neg (fun e => hp (he.1 e)), if_neg hp, if_neg hp]
  · have hp : ¬ pre s.data.toList i := fun e => by
      have := congrArg List.length e
      rw [List.length_take, ← size_len] at this
      omega
    rw [if_neg (by omega), if_neg hp, if_neg hp]
theorem pre_head {T : List UInt8} {sc : Int} (h : pre T sc) (h1 : 1 ≤ sc) (h4 : sc ≤ 4) : T.head? = (title sc).head? := by
  have e : sc = 1 ∨ sc = 2 ∨ sc = 3 ∨ sc = 4 := by omega
  unfold pre at h
  cases T with
  | nil => rcases e with rfl | rfl | rfl | rfl <;> simp [title] at h
  | cons c r =>
    rcases e with rfl | rfl | rfl | rfl <;> simp [title] at h ⊢ <;> exact h.1
theorem pre_parse {s : ByteArray} {sc : Int} (hs : s.size ≤ 20000) (h : pre s.data.toList sc) (h1 : 1 ≤ sc) (h4 : sc ≤ 4) :
    script_Parse.f s = some (parseRes sc (Scr.R sc [] 0 [] (title sc ++ [58]).length (s.data.toList.drop (title sc ++ [58]).length))) := by
  have hT : s.data.toList = title sc ++ 58 :: s.data.toList.drop (title sc ++ [58]).length := by
    conv => lhs; rw [← List.take_append_drop (title sc ++ [58]).length s.data.toList, h, List.append_assoc]
    rfl
  generalize hr : s.data.toList.drop (title sc ++ [58]).length = rest at hT ⊢
  obtain ⟨t1, t2, t3⟩ := title_facts h1 h4 rest
  unfold script_Parse.f parseL
  rw [if_neg (by omega), hT, t1, Int.toNat_natCast, List.take_left, t2, if_neg (by omega)]
  have hd : (title sc ++ 58 :: rest).drop ((title sc).length + 1) = rest := by
    rw [← List.drop_drop, List.drop_left]; rfl
  rw [hd]
  simp
theorem pre_none {s : ByteArray} (hs : s.size ≤ 20000) (h : ∀ sc : Int, 1 ≤ sc → sc ≤ 4 → ¬ pre s.data.toList sc) : script_Parse.f s = some (0, [], 5, 0) := by
  rcases parse_cases s hs with h' | ⟨j, hj, hjl, hk, _⟩
  · exact h'
  · exfalso
    have hkt := known_title hk
    have hr : 1 ≤ known (s.data.toList.take j) ∧ known (s.data.toList.take j) ≤ 4 := by
      generalize s.data.toList.take j = l at hk
      unfold known at hk ⊢
      repeat' split
      all_goals first | omega | (exfalso; simp_all)
    refine h _ hr.1 hr.2 ?_
    unfold pre
    rw [hkt]
    have h58 := (Lib.indexByte_some hj).1
    have hl : (s.data.toList.take j ++ [58]).length = j + 1 := by
      rw [List.length_append, List.length_take, ← size_len]
      simp
      omega
    rw [hl, List.take_add_one, h58]
    rfl
theorem ref_Parse_f (k : Nat) (s : ByteArray) (hs : s.size ≤ 20000) (hk : s.size + 200 ≤ k) : customhouseref09_Parse.f k s = script_Parse.f s := by
  obtain ⟨k, rfl⟩ : ∃ m, k = m + 5 := ⟨k - 5, by omega⟩
  unfold customhouseref09_Parse.f
  rw [if_neg (by omega), ref_step s (k + 4) 0 0 1 (by omega) (by omega), show (1 : Int) + 1 = 2 from rfl, ref_step s (k + 3) _ _ 2 (by omega) (by omega), show (2 : Int) + 1 = 3 from rfl, ref_step s (k + 2) _ _ 3 (by omega) (by omega), show (3 : Int) + 1 = 4 from rfl, ref_step s (k + 1) _ _ 4 (by omega) (by omega), show (4 : Int) + 1 = 5 from rfl]
  have fin : ∀ sc : Int, 1 ≤ sc → sc ≤ 4 → pre s.data.toList sc → customhouseref09_Parse.l0 (k + 1) s (((title sc ++ [58]).length : Nat) : Int) 5 sc = script_Parse.f s := fun sc h1 h4 h => by
    have ht := (title_facts h1 h4 []).2.2
    have hle : (title sc ++ [58]).length ≤ s.size := by
      have := congrArg List.length h
      rw [List.length_take, ← size_len] at this
      omega
    rw [pre_parse hs h h1 h4]
    simp only [customhouseref09_Parse.l0]
    rw [if_neg (by omega), if_neg (by simp; omega)]
    have := ref_parse_l1 s hs sc (s.size - (title sc ++ [58]).length) k (title sc ++ [58]).length 0 0 false [] hle (by omega) (by omega) (by simp) (by simp)
    simpa [X4.data] using this
  have none_ : customhouseref09_Parse.l0 (k + 1) s 0 5 0 = some (0, [], 5, 0) := by
    simp only [customhouseref09_Parse.l0]
    rw [if_neg (by omega), if_pos trivial]
  have uniq : ∀ a b : Int, 1 ≤ a → a ≤ 4 → 1 ≤ b → b ≤ 4 → pre s.data.toList a → pre s.data.toList b → a = b := fun a b a1 a4 b1 b4 ha hb => by
    have e := (pre_head ha a1 a4).symm.trans (pre_head hb b1 b4)
    have ea : a = 1 ∨ a = 2 ∨ a = 3 ∨ a = 4 := by omega
    have eb : b = 1 ∨ b = 2 ∨ b = 3 ∨ b = 4 := by omega
    rcases ea with rfl | rfl | rfl | rfl <;> rcases eb with rfl | rfl | rfl | rfl <;> first | rfl | (exact absurd e (by decide))
  by_cases p1 : pre s.data.toList 1
  · have n2 : ¬ pre s.data.toList 2 := fun h => absurd (uniq 1 2 (by omega) (by omega) (by omega) (by omega) p1 h) (by decide)
    have n3 : ¬ pre s.data.toList 3 := fun h => absurd (uniq 1 3 (by omega) (by omega) (by omega) (by omega) p1 h) (by decide)
    have n4 : ¬ pre s.data.toList 4 := fun h => absurd (uniq 1 4 (by omega) (by omega) (by omega) (by omega) p1 h) (by decide)
    rw [if_neg n4, if_neg n3, if_neg n2, if_pos p1, if_neg n4, if_neg n3, if_neg n2, if_pos p1]
    exact fin 1 (by omega) (by omega) p1
  by_cases p2 : pre s.data.toList 2
  · have n3 : ¬ pre s.data.toList 3 := fun h => absurd (uniq 2 3 (by omega) (by omega) (by omega) (by omega) p2 h) (by decide)
    have n4 : ¬ pre s.data.toList 4 := fun h => absurd (uniq 2 4 (by omega) (by omega) (by omega) (by omega) p2 h) (by decide)
    rw [if_neg n4, if_neg n3, if_pos p2, if_neg n4, if_neg n3, if_pos p2]
    exact fin 2 (by omega) (by omega) p2
  by_cases p3 : pre s.data.toList 3
  · have n4 : ¬ pre s.data.toList 4 := fun h => absurd (uniq 3 4 (by omega) (by omega) (by omega) (by omega) p3 h) (by decide)
    rw [if_neg n4, if_pos p3, if_neg n4, if_pos p3]
    exact fin 3 (by omega) (by omega) p3
  by_cases p4 : pre s.data.toList 4
  · rw [if_pos p4, if_pos p4]
    exact fin 4 (by omega) (by omega) p4
  · rw [if_neg p4, if_neg p3, if_neg p2, if_neg p1, if_neg p4, if_neg p3, if_neg p2, if_neg p1, none_, pre_none hs (fun sc h1 h4 => by
      have e : sc = 1 ∨ sc = 2 ∨ sc = 3 ∨ sc = 4 := by omega
      rcases e with rfl | rfl | rfl | rfl <;> assumption)]
end Go.Proofs.YtgimbkfahfnplaaDoor.Pu

namespace Go.Proofs.YtgimbkfahfnplaaDoor.Pu
open Go.RowKit Go.Lib Go.Proofs.YtgimbkfahfnplaaDoorW.PrintWords Go.Proofs.YtgimbkfahfnplaaDoor.X1 Go.Proofs.YtgimbkfahfnplaaDoor.X2 Go.Proofs.YtgimbkfahfnplaaDoor.X3 Go.Proofs.YtgimbkfahfnplaaDoor.X4 Go.Proofs.YtgimbkfahfnplaaDoor.X5 Go.Proofs.YtgimbkfahfnplaaDoor.A Go.Proofs.YtgimbkfahfnplaaDoor.B
theorem match_letters (sc : Int) (s : ByteArray) (hs : s.size ≤ 200) : ∃ ls e, script_Letters.f sc s = some (ls, e) ∧ customhouseref09_Letters.f 2400 sc s = some (ls, e) ∧ ls.length ≤ 12 := by
  rw [Letters_f sc s (by omega), ref_Letters_f 2400 sc s (by omega) (by omega)]
  by_cases h : Scr.word sc s.data.toList = true
  · rw [if_pos h]
    refine ⟨_, _, rfl, rfl, ?_⟩
    rw [List.length_map]
    exact (word_parts h).2.2
  · rw [if_neg h]
    exact ⟨_, _, rfl, rfl, by simp⟩
theorem match_fold (sc : Int) (s : ByteArray) (hs : s.size ≤ 200) : ∃ t e, script_Fold.f sc s = some (t, e) ∧ customhouseref09_Fold.f 2400 sc s = some (t, e) := by
  rw [ref_Fold_f 2400 sc s (by omega) (by omega), Fold_f sc s (by omega)]
  by_cases h : Scr.word sc s.data.toList = true
  · rw [if_pos h]; exact ⟨_, _, rfl, rfl⟩
  · rw [if_neg h]; exact ⟨_, _, rfl, rfl⟩
theorem match_text (sc : Int) (l : List ByteArray) (h1 : ∀ x ∈ l, x.size ≤ 100) (h2 : l.length ≤ 20) : ∃ t e, script_Text.f sc l = some (t, e) ∧ customhouseref09_Text.f 2400 sc l = some (t, e) := by
  rw [ref_Text_f 2400 sc l h1 h2 (by omega)]
  unfold script_Text.f
  rw [if_pos (small_of h1 h2)]
  split <;> exact ⟨_, _, rfl, rfl⟩
theorem match_parse (s : ByteArray) (hs : s.size ≤ 2000) : ∃ a l e p, script_Parse.f s = some (a, l, e, p) ∧ customhouseref09_Parse.f 2400 s = some (a, l, e, p) ∧ l.length ≤ 6 := by
  rw [ref_Parse_f 2400 s (by omega) (by omega)]
  cases h : script_Parse.f s with
  | none => unfold script_Parse.f at h; cases h
  | some r =>
    obtain ⟨a, l, e, p⟩ := r
    refine ⟨a, l, e, p, rfl, rfl, ?_⟩
    by_cases he : e = 0
    · subst he
      exact (ok_parts (parse_ok (by omega) h).1).2.2.1
    · rw [(parse_bad (by omega) h he).2.1]; simp
theorem match_calls (a0 : Int) (A : Option Addr) (c : Nat) (l : List ByteArray) (kind : Int) (word text : ByteArray) (w : World) (hr : Kd.C Kd.string w A l.length l) (hc : l.length ≤ c) (hT : Tabs w) :
    Calls Tryd.prog 3 #[.agg #[.int .i64 a0, .slice A l.length c], .int .i64 kind, .string word, .string text] w fun e w' => e = .returned (.bool true) ∧ Below w.heap.size w w' := by
  rcases few_f 300 a0 l (by omega) with ⟨f1, f2, f3⟩ | f1
  · have hsh := short_f 300 [word] (by simp) (by simp)
    by_cases hw : word.size ≤ 200
    · have hsh' : customhouselaw09_short.f 300 [word] = some true := by rw [hsh]; simp [hw]
      by_cases ht : text.size ≤ 2000
      · obtain ⟨ls, le, l1, l2, l3⟩ := match_letters kind word hw
        obtain ⟨fs, fe, g1, g2⟩ := match_fold kind word hw
        obtain ⟨ts, te, x1, x2⟩ := match_text a0 l f2 f3
        obtain ⟨ps, pw, pe, pa, p1, p2, p3⟩ := match_parse text ht
        refine X6.inside a0 A c l kind word text w hr hc hT 300 300 2400 f1 hsh' (decide_eq_false (by omega)) ls le l1 l2 fs fe g1 g2 ts te x1 x2 ps pw pe pa p1 p2 (nameOk a0 l) (valid_k a0 l (small_of f2 f3) 2400 (by omega)) (ref_Valid_f 2400 a0 l f2 f3 (by omega)) ?_ ?_
        · rw [texts_f 2400 ls ls (by omega) (by omega), decide_eq_true rfl]
        · rw [same_f 2400 ps ps pw pw (by omega) (by omega), decide_eq_true rfl, decide_eq_true rfl, Bool.and_self]
      · exact X6.out_text a0 A c l kind word text w hr hc hT 300 300 f1 hsh' (decide_eq_true (by omega))
    · exact X6.out_short a0 A c l kind word text w hr hc hT 300 300 f1 (by rw [hsh]; simp [hw])
  · exact X6.out_few a0 A c l kind word text w hr hc hT 300 f1
end Go.Proofs.YtgimbkfahfnplaaDoor.Pu
