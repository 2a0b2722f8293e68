/- Plain laws of what several statements share: short, sum, the letters of a word as strings. -/
import Derived.Test.YtgimbkfahfnplaaDoorX3
import Derived.Test.YtgimbkfahfnplaaDoorX5
namespace Go.Proofs.YtgimbkfahfnplaaDoor.Pu
open Go.RowKit Go.Lib Go.Proofs.YtgimbkfahfnplaaDoorW.PrintWords Go.Proofs.YtgimbkfahfnplaaDoor.X1 Go.Proofs.YtgimbkfahfnplaaDoor.X2 Go.Proofs.YtgimbkfahfnplaaDoor.X3 Go.Proofs.YtgimbkfahfnplaaDoor.X5 Go.Proofs.YtgimbkfahfnplaaDoor.A Go.Proofs.YtgimbkfahfnplaaDoor.B

theorem head_f : customhouselaw09_head.f = some true := rfl
theorem rd_lt (l : List ByteArray) (i : Nat) (h : i < l.length) : rdOf ByteArray.empty l (i : Int) = l[i] := by unfold rdOf; simp [List.getD_eq_getElem?_getD, h]
theorem short_l (l : List ByteArray) (hl : l.length ≤ 1000) : ∀ (d k i : Nat), i ≤ l.length → l.length - i = d → d < k → customhouselaw09_short.l0 k l (i : Int) = some ((l.drop i).all fun s => decide (s.size ≤ 200)) := by
  intro d
  induction d with
  | zero =>
    intro k i hi hd hk
    obtain ⟨k, rfl⟩ : ∃ m, k = m + 1 := ⟨k - 1, by omega⟩
    simp only [customhouselaw09_short.l0]
    rw [if_neg (by omega), List.drop_eq_nil_of_le (by omega)]
    rfl
  | succ d ih =>
    intro k i hi hd hk
    obtain ⟨k, rfl⟩ : ∃ m, k = m + 1 := ⟨k - 1, by omega⟩
    have hlt : i < l.length := by omega
    have hw1 : wrap64 ((i : Int) + 1) = ((i + 1 : Nat) : Int) := by unfold wrap64; omega
    simp only [customhouselaw09_short.l0]
    rw [if_pos (by omega), if_pos (by omega), rd_lt l i hlt, List.drop_eq_getElem_cons hlt, List.all_cons, hw1]
    by_cases h : l[i].size ≤ 200
    · rw [if_neg (by omega), ih k (i + 1) (by omega) (by omega) (by omega), decide_eq_true h, Bool.true_and]
    · rw [if_pos (by omega), decide_eq_false h, Bool.false_and]
theorem short_f (k : Nat) (l : List ByteArray) (hl : l.length ≤ 1000) (hk : l.length < k) : customhouselaw09_short.f k l = some (l.all fun s => decide (s.size ≤ 200)) := by
  have := short_l l hl l.length k 0 (by omega) (by omega) hk
  simpa [customhouselaw09_short.f] using this
def joinAll (l : List ByteArray) : List UInt8 := (l.map fun s => s.data.toList).flatten
theorem bs_ext {a b : ByteArray} (h : a.data.toList = b.data.toList) : a = b := by
  obtain ⟨⟨a⟩⟩ := a; obtain ⟨⟨b⟩⟩ := b; simp only at h; rw [h]
theorem list_inj {a b : ByteArray} : a.toList = b.toList ↔ a.data.toList = b.data.toList := by rw [ByteArray.toList_eq, ByteArray.toList_eq]
theorem size_len (a : ByteArray) : a.size = a.data.toList.length := by simp
theorem sum_l (l : List ByteArray) (hl : l.length ≤ 1000) (hj : (joinAll l).length ≤ 1000000) : ∀ (d k i : Nat) (s : ByteArray), i ≤ l.length → l.length - i = d → d < k → s.data.toList = joinAll (l.take i) → ∃ t, customhouselaw09_sum.l0 k l s (i : Int) = some t ∧ t.data.toList = joinAll l := by
  intro d
  induction d with
  | zero =>
    intro k i s hi hd hk hs
    obtain ⟨k, rfl⟩ : ∃ m, k = m + 1 := ⟨k - 1, by omega⟩
    simp only [customhouselaw09_sum.l0]
    rw [if_neg (by omega)]
    exact ⟨s, rfl, by rw [hs, List.take_of_length_le (by omega)]⟩
  | succ d ih =>
    intro k i s hi hd hk hs
    obtain ⟨k, rfl⟩ : ∃ m, k = m + 1 := ⟨k - 1, by omega⟩
    have hlt : i < l.length := by omega
    have hw1 : wrap64 ((i : Int) + 1) = ((i + 1 : Nat) : Int) := by unfold wrap64; omega
    have hsn : (s ++ l[i]).data.toList = joinAll (l.take (i + 1)) := by
      rw [ByteArray.data_append, Array.toList_append, hs]
      unfold joinAll
      rw [List.take_add_one, List.getElem?_eq_getElem hlt, List.map_append, List.flatten_append]
      simp only [Option.toList_some, List.map_cons, List.map_nil, List.flatten_cons, List.flatten_nil, List.append_nil]
    have hpre : (joinAll (l.take (i + 1))).length ≤ (joinAll l).length := by
      conv => rhs; rw [← List.take_append_drop (i + 1) l]
      unfold joinAll
      rw [List.map_append, List.flatten_append, List.length_append]
      omega
    have hsz : s.size + l[i].size ≤ 1000000 := by
      have := congrArg List.length hsn
      rw [ByteArray.data_append, Array.toList_append, List.length_append, ← size_len, ← size_len] at this
      omega
    simp only [customhouselaw09_sum.l0]
    rw [if_pos (by omega), if_pos (by omega), rd_lt l i hlt, if_pos (by omega), hw1]
    exact ih k (i + 1) _ (by omega) (by omega) (by omega) hsn
theorem sum_f (k : Nat) (l : List ByteArray) (hl : l.length ≤ 1000) (hj : (joinAll l).length ≤ 1000000) (hk : l.length < k) : ∃ t, customhouselaw09_sum.f k l = some t ∧ t.data.toList = joinAll l :=
  sum_l l hl hj l.length k 0 _ (by omega) (by omega) hk rfl
/-- The letters, as strings. -/
theorem Letters_f (sc : Int) (s : ByteArray) (hs : s.size ≤ 1000000) : script_Letters.f sc s = if Scr.word sc s.data.toList = true then some ((Scr.letters sc s.data.toList).map bs, 0) else some ([], 1) := by
  unfold script_Letters.f Scr.lettersE
  rw [if_pos (by omega)]
  by_cases h : Scr.word sc s.data.toList = true
  · rw [if_pos h, if_pos h]
  · rw [if_neg h, if_neg h]; rfl
theorem word_parts {sc : Int} {s : Scr.Bs} (h : Scr.word sc s = true) : Scr.left sc s = [] ∧ 1 ≤ (Scr.letters sc s).length ∧ (Scr.letters sc s).length ≤ 12 := by
  unfold Scr.word at h
  simp only [Bool.and_eq_true, decide_eq_true_eq] at h
  exact ⟨h.1.1, h.1.2, h.2⟩
theorem word_of {sc : Int} {s : Scr.Bs} (h : Scr.left sc s = [] ∧ 1 ≤ (Scr.letters sc s).length ∧ (Scr.letters sc s).length ≤ 12) : Scr.word sc s = true := by
  unfold Scr.word
  simp only [Bool.and_eq_true, decide_eq_true_eq]
  exact ⟨⟨h.1, h.2.1⟩, h.2.2⟩
theorem joinAll_letters {sc : Int} {s : Scr.Bs} (h : Scr.word sc s = true) : joinAll ((Scr.letters sc s).map bs) = s := by
  have hj := Scr.joined sc s
  rw [(word_parts h).1, List.append_nil] at hj
  unfold joinAll
  rw [List.map_map]
  have : ((fun s : ByteArray => s.data.toList) ∘ bs) = id := rfl
  rw [this, List.map_id, hj]
end Go.Proofs.YtgimbkfahfnplaaDoor.Pu
