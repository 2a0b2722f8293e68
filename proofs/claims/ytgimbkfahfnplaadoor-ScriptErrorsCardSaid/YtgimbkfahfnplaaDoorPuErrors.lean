/- The law of the errors and their offsets, plain: no program in sight. -/
import Derived.Test.YtgimbkfahfnplaaDoorPuParse
import Derived.Test.YtgimbkfahfnplaaDoorC6
namespace Go.Proofs.YtgimbkfahfnplaaDoor.Pu
open Go.RowKit Go.Lib Go.Proofs.YtgimbkfahfnplaaDoorW.PrintWords Go.Proofs.YtgimbkfahfnplaaDoor.X1 Go.Proofs.YtgimbkfahfnplaaDoor.X2 Go.Proofs.YtgimbkfahfnplaaDoor.X3 Go.Proofs.YtgimbkfahfnplaaDoor.X4 Go.Proofs.YtgimbkfahfnplaaDoor.X5 Go.Proofs.YtgimbkfahfnplaaDoor.A Go.Proofs.YtgimbkfahfnplaaDoor.B Go.Proofs.YtgimbkfahfnplaaDoor.C

theorem errors_far (s : ByteArray) (q : Nat) (e : Int) (h6 : 6 ≤ q) (hq : q < s.size) (r : Int × List ByteArray × Int × Int) (hr : script_Parse.f (s.extract 0 q) = some r) (hg : (r.2.2.1 = 0 ∧ r.2.2.2 = 0) ∨ (r.2.2.1 = 6 ∧ r.2.2.2 = (q : Int))) :
    customhouselaw09_ScriptErrors.j0 300 s true e (q : Int) false = some true := by
  show customhouselaw09_ScriptErrors.j0 (299 + 1) _ _ _ _ _ = _
  simp only [customhouselaw09_ScriptErrors.j0]
  rw [if_neg (by simp), if_neg (by omega), if_neg (by omega), if_pos (by omega), if_pos (by omega), Int.toNat_natCast, hr, Option.bind_some, if_pos trivial]
  rcases hg with ⟨h1, h2⟩ | ⟨h1, h2⟩
  · rw [if_pos h1, if_pos h2]
  · rw [if_neg (by omega), if_pos h1, h2]
    simp
theorem errorsLaw (s : ByteArray) : customhouselaw09_ScriptErrors.f 300 s = some true := by
  unfold customhouselaw09_ScriptErrors.f
  rw [head_f, Option.bind_some]
  by_cases hs : s.size ≤ 2000
  · rw [if_neg (by omega)]
    rcases parse_cases s (by omega) with h | ⟨j, hj, hjl, hk, h⟩
    · rw [h, Option.bind_some, if_neg (by decide)]
      show customhouselaw09_ScriptErrors.j0 (299 + 1) _ _ _ _ _ = _
      simp only [customhouselaw09_ScriptErrors.j0]
      rw [if_pos (by decide), if_pos trivial, if_neg (by decide), if_pos trivial, if_pos trivial]
    · have hlen : (s.data.toList.drop (j + 1)).length = s.size - (j + 1) := by rw [List.length_drop, ← size_len]
      have h5 := known_len hk
      rw [List.length_take] at h5
      rcases Scr.tells (known (s.data.toList.take j)) _ (s.data.toList.drop (j + 1)) [] 0 [] (j + 1) (Nat.le_refl _) with ⟨w, hR⟩ | hR | ⟨e, q, he, hR, h1, h2, h3⟩
      · rw [hR] at h
        have h' : script_Parse.f s = some (known (s.data.toList.take j), w.map bs, 0, 0) := h
        rw [h', Option.bind_some, if_neg (fun e => absurd e (by simp))]
        show customhouselaw09_ScriptErrors.j0 (299 + 1) _ _ _ _ _ = _
        simp only [customhouselaw09_ScriptErrors.j0]
        rw [if_pos (by decide), if_pos trivial, if_pos trivial, if_pos trivial]
      · rw [hR] at h
        have h' : script_Parse.f s = some (0, [], 6, ((j + 1 + (s.data.toList.drop (j + 1)).length : Nat) : Int)) := h
        rw [h', Option.bind_some, if_neg (fun e => absurd e (by simp))]
        show customhouselaw09_ScriptErrors.j0 (299 + 1) _ _ _ _ _ = _
        simp only [customhouselaw09_ScriptErrors.j0]
        rw [if_pos (by decide), if_pos trivial, if_neg (by decide), if_neg (by decide), if_pos trivial, hlen]
        have : ((j + 1 + (s.size - (j + 1)) : Nat) : Int) = (s.size : Int) := by omega
        rw [this]
        simp
      · rw [hlen] at h2
        have hp := parse_take s (by omega) hj hk h1
        have hfar := errors_far s q e (by omega) (by omega) _ hp (by
          rcases h3 with ⟨w, h3⟩ | h3
          · rw [h3]; exact .inl ⟨rfl, rfl⟩
          · rw [h3]; exact .inr ⟨rfl, rfl⟩)
        rw [hR] at h
        have h' : script_Parse.f s = some (0, [], e, (q : Int)) := h
        rw [h', Option.bind_some]
        rcases he with rfl | rfl
        · rw [if_pos rfl]; exact hfar
        · rw [if_neg (fun e => absurd e (by simp))]; exact hfar
  · rw [if_pos (by omega)]
end Go.Proofs.YtgimbkfahfnplaaDoor.Pu
