/- The reference's comparison of two lists of texts, plain: it answers whether they are equal. -/
import Derived.Test.YtgimbkfahfnplaaDoorPu
namespace Go.Proofs.YtgimbkfahfnplaaDoor.Pu
open Go.RowKit Go.Lib Go.Proofs.YtgimbkfahfnplaaDoorW.PrintWords Go.Proofs.YtgimbkfahfnplaaDoor.X1 Go.Proofs.YtgimbkfahfnplaaDoor.X2 Go.Proofs.YtgimbkfahfnplaaDoor.X3 Go.Proofs.YtgimbkfahfnplaaDoor.X5 Go.Proofs.YtgimbkfahfnplaaDoor.A Go.Proofs.YtgimbkfahfnplaaDoor.B

theorem dec_cons (a : ByteArray) (x y : List ByteArray) : decide (a :: x = a :: y) = decide (x = y) := by
  by_cases h : x = y
  · rw [h]; simp
  · rw [decide_eq_false h, decide_eq_false (fun e => h (List.cons.inj e).2)]
theorem texts_l (l0 l1 : List ByteArray) (hl : l0.length ≤ 1000000) (he : l0.length = l1.length) : ∀ (d k i : Nat), i ≤ l0.length → l0.length - i = d → d < k → customhouseref09_Texts.l0 k l0 l1 (i : Int) = some (decide (l0.drop i = l1.drop i)) := by
  intro d
  induction d with
  | zero =>
    intro k i hi hd hk
    obtain ⟨k, rfl⟩ : ∃ m, k = m + 1 := ⟨k - 1, by omega⟩
    simp only [customhouseref09_Texts.l0]
    rw [if_neg (by omega), List.drop_eq_nil_of_le (by omega), List.drop_eq_nil_of_le (by omega)]
    simp
  | succ d ih =>
    intro k i hi hd hk
    obtain ⟨k, rfl⟩ : ∃ m, k = m + 1 := ⟨k - 1, by omega⟩
    have hlt : i < l0.length := by omega
    have hlt1 : i < l1.length := by omega
    have hw1 : wrap64 ((i : Int) + 1) = ((i + 1 : Nat) : Int) := by unfold wrap64; omega
    simp only [customhouseref09_Texts.l0]
    rw [if_pos (by omega), if_pos (by omega), if_pos (by omega), rd_lt l0 i hlt, rd_lt l1 i hlt1, hw1, List.drop_eq_getElem_cons hlt, List.drop_eq_getElem_cons hlt1]
    by_cases h : l0[i] = l1[i]
    · rw [if_pos (by rw [h]), ih k (i + 1) (by omega) (by omega) (by omega), h, dec_cons]
    · rw [if_neg (fun e => h (bs_ext (list_inj.1 e))), decide_eq_false (fun e => h (List.cons.inj e).1)]
theorem texts_f (k : Nat) (l0 l1 : List ByteArray) (hl : l0.length ≤ 1000000) (hk : l0.length < k) : customhouseref09_Texts.f k l0 l1 = some (decide (l0 = l1)) := by
  unfold customhouseref09_Texts.f
  by_cases h : l0.length = l1.length
  · rw [if_pos (by omega)]
    have := texts_l l0 l1 hl h l0.length k 0 (by omega) (by omega) hk
    simpa using this
  · rw [if_neg (by omega), decide_eq_false (fun e => h (by rw [e]))]
end Go.Proofs.YtgimbkfahfnplaaDoor.Pu
