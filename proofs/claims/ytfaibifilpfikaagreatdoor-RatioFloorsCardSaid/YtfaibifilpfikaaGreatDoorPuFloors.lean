/- The law of floors in plain Lean: the printed statement answers true; conditions: an integer of Go's int. -/
import Derived.Test.YtfaibifilpfikaaGreatDoorX7
import Derived.Test.YtfaibifilpfikaaGreatDoorMg
import Derived.Test.YtfaibifilpfikaaGreatDoorE2
namespace Go.Proofs.YtfaibifilpfikaaGreatDoor.Pu
open Go.Proofs.YtfaibifilpfikaaGreatDoorW.PrintWords Go.Proofs.YtfaibifilpfikaaGreatDoor.A Go.Proofs.YtfaibifilpfikaaGreatDoor.N10 Go.Proofs.YtfaibifilpfikaaGreatDoor.N11 Go.Proofs.YtfaibifilpfikaaGreatDoor.X2 Go.Proofs.YtfaibifilpfikaaGreatDoor.C Go.Proofs.YtfaibifilpfikaaGreatDoor.D Go.Proofs.YtfaibifilpfikaaGreatDoor.E Go.Proofs.YtfaibifilpfikaaGreatDoor.N12 Go.Proofs.YtfaibifilpfikaaGreatDoor.N13 Go.Proofs.YtfaibifilpfikaaGreatDoor.N14 Go.Proofs.YtfaibifilpfikaaGreatDoor.N15 Go.Proofs.YtfaibifilpfikaaGreatDoor.N16 Go.Proofs.YtfaibifilpfikaaGreatDoor.N18 Go.Proofs.YtfaibifilpfikaaGreatDoor.P1 Go.Proofs.YtfaibifilpfikaaGreatDoor.P2 Go.Proofs.YtfaibifilpfikaaGreatDoor.P3 Go.Proofs.YtfaibifilpfikaaGreatDoor.P4 Go.Proofs.YtfaibifilpfikaaGreatDoor.P5 Go.Proofs.YtfaibifilpfikaaGreatDoor.X7
open Rq Go.RowKit
set_option linter.unusedVariables false
set_option linter.unusedSimpArgs false

theorem cmpQ_nonneg (p q : Rat) : cmpQ p q ≥ 0 ↔ q ≤ p := by
  unfold cmpQ
  rw [← Rat.not_lt]
  by_cases h : p < q
  · rw [if_pos h]; simp [h]
  · rw [if_neg h]; split <;> simp [h]
theorem cmpQ_neg (p q : Rat) : cmpQ p q < 0 ↔ p < q := by
  unfold cmpQ
  by_cases h : p < q
  · rw [if_pos h]; simp [h]
  · rw [if_neg h]; split <;> simp [h]
theorem int64_of {n : Int} (h : (Lit.int .i64 n).wf = true) : int64 n := by
  simp only [Lit.wf, Bool.and_eq_true, decide_eq_true_eq] at h
  have h1 : IntKind.i64.min = -9223372036854775808 := by decide
  have h2 : IntKind.i64.max = 9223372036854775807 := by decide
  rw [h1, h2] at h
  exact h
theorem floorsLaw (a : S23) (m : Int) (hm : int64 m) : customhouselaw05_RatioFloors.f 300 a.f0 a.f1 a.f2 m = some true := by
  unfold customhouselaw05_RatioFloors.f
  have hfl : ratio_Floor.f (eS (m : Rat)) (eN (m : Rat)) (eD (m : Rat)) = some (m, 0) := by
    have := floorR_int hm
    unfold ratio_Floor.f
    exact congrArg some this
  rw [show customhouselaw05_head.f = some true from rfl, Option.bind_some, of_one hm, Option.bind_some]
  unfold enc
  simp only
  rw [hfl, Option.bind_some]
  simp only
  rw [if_pos trivial, if_pos trivial, show (m != m) = false by simp, customhouselaw05_RatioFloors.j0, if_neg (by decide), short_one (by decide)]
  rw [Option.bind_some]
  by_cases hs : isShort (100 : Int) a = true
  · rw [show isShort 100 ⟨a.f0, a.f1, a.f2⟩ = isShort 100 a from rfl, if_pos hs, valid_f2 (by decide), Option.bind_some]
    by_cases hv : vld a = true
    · rw [hv, customhouselaw05_RatioFloors.j1, if_neg (by decide)]
      have hsz := isShort_iff (m := 100).1 hs
      have hq : Sz (q23 a) 100 := sz_q23 hv hsz.1 hsz.2
      have sa : sm a = true := sm_iff.2 ⟨by omega, by omega⟩
      have hF : ratio_Floor.f a.f0 a.f1 a.f2 = some (floorR a) := rfl
      rw [hF, Option.bind_some]
      unfold floorR
      rw [if_pos hv]
      have hle := Rat.floor_le (q23 a)
      have hlt := Rat.lt_floor_add_one (q23 a)
      generalize (q23 a).floor = k at *
      by_cases hi : inInt k = true
      · rw [if_pos hi]
        have hk := inInt_iff.1 hi
        simp only
        rw [if_pos trivial]
        by_cases hw : wrap64 (k + 1) < k
        · rw [if_pos hw]
        · rw [if_neg hw]
          have hk1 : wrap64 (k + 1) = k + 1 := by
            unfold int64 at hk
            unfold wrap64 at hw ⊢
            omega
          have hk2 : int64 (k + 1) := by
            unfold int64 at hk ⊢
            unfold wrap64 at hw
            omega
          rw [hk1, lawof_one hk, Option.bind_some, lawof_one hk2, Option.bind_some]
          have c1 := compare_f a (encS (k : Rat))
          have c2 := compare_f a (encS ((k + 1 : Int) : Rat))
          rw [cmpR2_eq hv (vld_sz (sz_int64 hk) (by decide)) sa (sm_sz (sz_int64 hk) (by decide)), q23_encS] at c1
          rw [cmpR2_eq hv (vld_sz (sz_int64 hk2) (by decide)) sa (sm_sz (sz_int64 hk2) (by decide)), q23_encS] at c2
          rw [show ratio_Compare.f a.f0 a.f1 a.f2 (eS (k : Rat)) (eN (k : Rat)) (eD (k : Rat)) = _ from c1, Option.bind_some]
          rw [show ratio_Compare.f a.f0 a.f1 a.f2 (eS ((k + 1 : Int) : Rat)) (eN ((k + 1 : Int) : Rat)) (eD ((k + 1 : Int) : Rat)) = _ from c2, Option.bind_some]
          simp only
          rw [if_pos trivial, if_pos trivial, if_pos trivial, if_pos ((cmpQ_nonneg _ _).2 hle), decide_eq_true ((cmpQ_neg _ _).2 hlt)]
      · rw [if_neg hi]
        rfl
    · rw [Bool.eq_false_iff.2 hv]; rfl
  · rw [show isShort 100 ⟨a.f0, a.f1, a.f2⟩ = isShort 100 a from rfl, if_neg hs]; rfl
end Go.Proofs.YtfaibifilpfikaaGreatDoor.Pu
