/- The law of texts in plain Lean: the printed statement answers true; no conditions. -/
import Derived.Test.YtfaibifilpfikaaGreatDoorX7
import Derived.Test.YtfaibifilpfikaaGreatDoorP6
import Derived.Test.YtfaibifilpfikaaGreatDoorE3
namespace Go.Proofs.YtfaibifilpfikaaGreatDoor.Pu
open Go.Proofs.YtfaibifilpfikaaGreatDoorW.PrintWords Go.Proofs.YtfaibifilpfikaaGreatDoor.A Go.Proofs.YtfaibifilpfikaaGreatDoor.N10 Go.Proofs.YtfaibifilpfikaaGreatDoor.N11 Go.Proofs.YtfaibifilpfikaaGreatDoor.X2 Go.Proofs.YtfaibifilpfikaaGreatDoor.C Go.Proofs.YtfaibifilpfikaaGreatDoor.D Go.Proofs.YtfaibifilpfikaaGreatDoor.E Go.Proofs.YtfaibifilpfikaaGreatDoor.N12 Go.Proofs.YtfaibifilpfikaaGreatDoor.N13 Go.Proofs.YtfaibifilpfikaaGreatDoor.N14 Go.Proofs.YtfaibifilpfikaaGreatDoor.N15 Go.Proofs.YtfaibifilpfikaaGreatDoor.N16 Go.Proofs.YtfaibifilpfikaaGreatDoor.N18 Go.Proofs.YtfaibifilpfikaaGreatDoor.P1 Go.Proofs.YtfaibifilpfikaaGreatDoor.P2 Go.Proofs.YtfaibifilpfikaaGreatDoor.P3 Go.Proofs.YtfaibifilpfikaaGreatDoor.P4 Go.Proofs.YtfaibifilpfikaaGreatDoor.P5 Go.Proofs.YtfaibifilpfikaaGreatDoor.P6 Go.Proofs.YtfaibifilpfikaaGreatDoor.Cp Go.Proofs.YtfaibifilpfikaaGreatDoor.Ct Go.Proofs.YtfaibifilpfikaaGreatDoor.X7
open Rq Go.RowKit
set_option linter.unusedVariables false
set_option linter.unusedSimpArgs false

theorem text_f3 {k : Nat} (hk : 0 < k) (s : Bool) (n d : ByteArray) : ratio_Text.f k s n d = some (if vld ⟨s, n, d⟩ = true then (txt ⟨s, n, d⟩, 0) else (⟨#[]⟩, 1)) := text_f hk ⟨s, n, d⟩
theorem txt_size {a : S23} (hv : vld a = true) : (txt a).size ≤ 602 := by
  obtain ⟨h1, h2, _⟩ := valid_parts hv
  have z1 := (isN_num h1).2
  have z2 := (isN_num h2).2
  have := sz_sgn a.f0 a.f1
  unfold txt
  split
  · omega
  · rw [ByteArray.size_append, sz1]; omega
theorem differ_self (a : S23) : ((!(a.f0 == a.f0)) || ((!(a.f1.toList == a.f1.toList)) || (!(a.f2.toList == a.f2.toList)))) = false := by simp
theorem texts_j1 {k : Nat} (hk : 0 < k) (t : ByteArray) (ht : t.size ≤ 620) : customhouselaw05_RatioTexts.j1 (k + 1) t true = some true := by
  rw [customhouselaw05_RatioTexts.j1, parse_f hk t (by omega), Option.bind_some]
  rcases txt_parse t with ⟨a, hv, e, h⟩ | e
  · rw [e]
    simp only
    rw [if_pos trivial, text_f3 hk, Option.bind_some, if_pos trivial, valid_f3 hk, Option.bind_some]
    have hv' : vld ⟨a.f0, a.f1, a.f2⟩ = true := hv
    rw [if_pos hv', if_pos hv']
    have h' : txt ⟨a.f0, a.f1, a.f2⟩ = t := h
    rw [h']
    simp
  · rw [e]
    unfold bad
    simp only
    rw [if_neg (by decide), if_pos trivial]
    rfl
theorem textsLaw (a b : S23) (t : ByteArray) : customhouselaw05_RatioTexts.f 300 a.f0 a.f1 a.f2 b.f0 b.f1 b.f2 t = some true := by
  unfold customhouselaw05_RatioTexts.f
  rw [show customhouselaw05_head.f = some true from rfl, Option.bind_some, short_two (by decide), Option.bind_some]
  have out : customhouselaw05_RatioTexts.j0 300 t true true a.f0 a.f1 a.f2 b.f0 b.f1 b.f2 = some true := by
    rw [customhouselaw05_RatioTexts.j0, if_pos rfl]
  split
  · by_cases ht : (t.size : Int) > 620
    · rw [decide_eq_true ht]; exact out
    · rw [decide_eq_false ht, customhouselaw05_RatioTexts.j0, if_neg (by decide), text_f (by decide) a, Option.bind_some, valid_f2 (by decide) a, Option.bind_some]
      by_cases hv : vld a = true
      · rw [hv, if_pos rfl]
        simp only
        rw [if_neg (by decide), if_pos trivial, parse_f (by decide) _ (Nat.le_trans (txt_size hv) (by decide)), Option.bind_some, parse_txt hv, text_f (by decide) b, Option.bind_some]
        simp only
        rw [if_pos trivial, differ_self, if_neg (by decide)]
        by_cases hb : vld b = true
        · rw [if_pos hb]
          simp only
          rw [if_pos trivial]
          by_cases he : (txt a).toList = (txt b).toList
          · rw [if_pos he]
            have e : txt a = txt b := Rq.ext (by rw [← toList_list, ← toList_list, he])
            have e1 := parse_txt hv
            rw [e, parse_txt hb] at e1
            simp only [Prod.mk.injEq] at e1
            obtain ⟨x1, x2, x3, _⟩ := e1
            rw [x1, x2, x3, differ_self, if_neg (by decide)]
            exact texts_j1 (by decide) t (by omega)
          · rw [if_neg he]
            exact texts_j1 (by decide) t (by omega)
        · rw [if_neg hb]
          simp only
          rw [if_neg (by decide)]
          exact texts_j1 (by decide) t (by omega)
      · rw [if_neg hv, Bool.eq_false_iff.2 hv]
        simp only
        rw [if_neg (by decide), if_neg (by decide)]
        exact texts_j1 (by decide) t (by omega)
  · exact out
end Go.Proofs.YtfaibifilpfikaaGreatDoor.Pu
