/- The law of the letters, plain: no program in sight. -/
import Derived.Test.YtgimbkfahfnplaaDoorPu
import Derived.Test.YtgimbkfahfnplaaDoorC1
namespace Go.Proofs.YtgimbkfahfnplaaDoor.Pu
open Go.RowKit Go.Lib Go.Proofs.YtgimbkfahfnplaaDoorW.PrintWords Go.Proofs.YtgimbkfahfnplaaDoor.X1 Go.Proofs.YtgimbkfahfnplaaDoor.X2 Go.Proofs.YtgimbkfahfnplaaDoor.X3 Go.Proofs.YtgimbkfahfnplaaDoor.X5 Go.Proofs.YtgimbkfahfnplaaDoor.A Go.Proofs.YtgimbkfahfnplaaDoor.B Go.Proofs.YtgimbkfahfnplaaDoor.C

theorem letters_loop (sc : Int) (l : List ByteArray) (hl : l.length ≤ 12) (hown : ∀ x ∈ l, script_Letters.f sc x = some ([x], 0)) : ∀ (d k i : Nat), i ≤ l.length → l.length - i = d → d < k → customhouselaw09_ScriptLetters.l0 k sc true l (i : Int) = some true := by
  intro d
  induction d with
  | zero =>
    intro k i hi hd hk
    obtain ⟨k, rfl⟩ : ∃ m, k = m + 1 := ⟨k - 1, by omega⟩
    simp only [customhouselaw09_ScriptLetters.l0]
    rw [if_neg (by omega)]
  | succ d ih =>
    intro k i hi hd hk
    obtain ⟨k, rfl⟩ : ∃ m, k = m + 1 := ⟨k - 1, by omega⟩
    have hlt : i < l.length := by omega
    have hw1 : wrap64 ((i : Int) + 1) = ((i + 1 : Nat) : Int) := by unfold wrap64; omega
    simp only [customhouselaw09_ScriptLetters.l0]
    rw [if_pos (by omega), if_pos (by omega), rd_lt l i hlt, hown _ (List.getElem_mem hlt), Option.bind_some, if_pos rfl, if_pos (by simp), if_pos (by simp), if_pos (by rfl), hw1]
    exact ih k (i + 1) (by omega) (by omega) (by omega)
theorem lettersLaw (sc : Int) (s : ByteArray) : customhouselaw09_ScriptLetters.f 300 sc s = some true := by
  unfold customhouselaw09_ScriptLetters.f
  rw [head_f, Option.bind_some, short_f 300 [s] (by simp) (by simp), Option.bind_some]
  by_cases hs : s.size ≤ 200
  · have h1 : ([s].all fun s => decide (s.size ≤ 200)) = true := by simpa using hs
    rw [if_pos h1, Letters_f sc s (by omega)]
    by_cases hw : Scr.word sc s.data.toList = true
    · obtain ⟨w1, w2, w3⟩ := word_parts hw
      have hj := joinAll_letters hw
      have hlen : ((Scr.letters sc s.data.toList).map bs).length = (Scr.letters sc s.data.toList).length := List.length_map _
      rw [if_pos hw, Option.bind_some]
      simp only
      rw [if_pos trivial, if_neg (by rw [hlen]; omega), if_neg (by rw [hlen]; omega)]
      obtain ⟨t, ht, htd⟩ := sum_f 300 ((Scr.letters sc s.data.toList).map bs) (by omega) (by rw [hj, ← size_len]; omega) (by omega)
      rw [ht, Option.bind_some]
      have he : (t.toList != s.toList) = false := by
        have : t.toList = s.toList := list_inj.2 (htd.trans hj)
        rw [this]; simp
      rw [he]
      show customhouselaw09_ScriptLetters.j0 (299 + 1) _ _ _ _ = _
      simp only [customhouselaw09_ScriptLetters.j0]
      rw [if_neg (by decide)]
      refine letters_loop sc _ (by omega) ?_ _ 299 0 (by omega) rfl (by omega)
      intro x hx
      obtain ⟨y, hy, rfl⟩ := List.mem_map.1 hx
      obtain ⟨o1, o2⟩ := Scr.letters_own sc _ y hy
      have hwy : Scr.word sc y = true := word_of ⟨o2, by rw [o1]; simp, by rw [o1]; simp⟩
      rw [Letters_f sc (bs y) ?_, if_pos (by rw [data_bs]; exact hwy), data_bs, o1]
      · rfl
      · have := (word_len sc y hwy).1
        rw [size_len, data_bs]; omega
    · rw [if_neg hw, Option.bind_some]
      simp
  · have h1 : ([s].all fun s => decide (s.size ≤ 200)) = false := by simpa using hs
    rw [if_neg (by rw [h1]; simp)]
end Go.Proofs.YtgimbkfahfnplaaDoor.Pu
