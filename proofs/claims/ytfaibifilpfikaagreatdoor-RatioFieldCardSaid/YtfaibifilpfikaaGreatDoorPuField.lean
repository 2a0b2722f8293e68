/- The law of the field: the statement's call answers true; conditions: Go's tables. -/
import Derived.Test.YtfaibifilpfikaaGreatDoorX7
import Derived.Test.YtfaibifilpfikaaGreatDoorMg
import Derived.Test.YtfaibifilpfikaaGreatDoorF5
namespace Go.Proofs.YtfaibifilpfikaaGreatDoor.Pu
open Go.Proofs.YtfaibifilpfikaaGreatDoorW.PrintWords Go.Proofs.YtfaibifilpfikaaGreatDoor.A Go.Proofs.YtfaibifilpfikaaGreatDoor.N11 Go.Proofs.YtfaibifilpfikaaGreatDoor.X2 Go.Proofs.YtfaibifilpfikaaGreatDoor.C Go.Proofs.YtfaibifilpfikaaGreatDoor.D Go.Proofs.YtfaibifilpfikaaGreatDoor.N13 Go.Proofs.YtfaibifilpfikaaGreatDoor.N14 Go.Proofs.YtfaibifilpfikaaGreatDoor.N15 Go.Proofs.YtfaibifilpfikaaGreatDoor.N16 Go.Proofs.YtfaibifilpfikaaGreatDoor.P1 Go.Proofs.YtfaibifilpfikaaGreatDoor.P3 Go.Proofs.YtfaibifilpfikaaGreatDoor.P4 Go.Proofs.YtfaibifilpfikaaGreatDoor.P5 Go.Proofs.YtfaibifilpfikaaGreatDoor.P7 Go.Proofs.YtfaibifilpfikaaGreatDoor.X7 Go.Proofs.YtfaibifilpfikaaGreatDoor.F5
open Rq Go.RowKit
set_option linter.unusedVariables false
set_option linter.unusedSimpArgs false

theorem field_calls (a b c : S23) (W : World) (hT : Tabs W) :
    Calls Tryz.prog 5 #[.agg #[.bool a.f0, .string a.f1, .string a.f2], .agg #[.bool b.f0, .string b.f1, .string b.f2], .agg #[.bool c.f0, .string c.f1, .string c.f2]] W fun e w' => e = .returned (.bool true) ∧ Below W.heap.size W w' := by
  have hH : customhouselaw05_head.f = some true := rfl
  have hS : customhouselaw05_short.f 200 40 [⟨a.f0, a.f1, a.f2⟩, ⟨b.f0, b.f1, b.f2⟩, ⟨c.f0, c.f1, c.f2⟩] = some (isShort 40 a && isShort 40 b && isShort 40 c) := short_three (by decide) 40 a b c
  have hV : ∀ x : S23, ratio_Valid.f 1 x.f0 x.f1 x.f2 = some (vld x) := fun x => valid_f2 (by decide) x
  by_cases hs : (isShort 40 a && isShort 40 b && isShort 40 c) = true
  · rw [hs] at hS
    rw [Bool.and_eq_true, Bool.and_eq_true] at hs
    obtain ⟨⟨s1, s2⟩, s3⟩ := hs
    have h1 := hV a
    have h2 := hV b
    have h3 := hV c
    by_cases v1 : vld a = true
    · rw [v1] at h1
      by_cases v2 : vld b = true
      · rw [v2] at h2
        by_cases v3 : vld c = true
        · obtain ⟨p, hp, rfl⟩ := of_short (k := 40) v1 s1
          obtain ⟨q, hq, rfl⟩ := of_short (k := 40) v2 s2
          obtain ⟨r, hr, rfl⟩ := of_short (k := 40) v3 s3
          have p1 : Sz p 140 := hp.le (by decide)
          have q1 : Sz q 140 := hq.le (by decide)
          have r1 : Sz r 140 := hr.le (by decide)
          have pq : Sz (p + q) 140 := (sz_add hp hq).le (by decide)
          have qr : Sz (q + r) 140 := (sz_add hq hr).le (by decide)
          have pmq : Sz (p * q) 140 := (sz_mul hp hq).le (by decide)
          have pmr : Sz (p * r) 140 := (sz_mul hp hr).le (by decide)
          have psq : Sz (p - q) 140 := (sz_sub hp hq).le (by decide)
          have c0 := add_q p1 q1
          have c1 := add_q q1 p1
          rw [Rat.add_comm q p] at c1
          have c2 := add_q q1 r1
          have c3 := add_q pq r1
          have c4 := add_q p1 qr
          rw [← Rat.add_assoc] at c4
          have c5 := mul_q p1 q1
          have c6 := mul_q q1 p1
          rw [Rat.mul_comm q p] at c6
          have c7 := mul_q p1 r1
          have c8 := mul_q p1 qr
          have c9 := add_q pmq pmr
          rw [← Rat.mul_add] at c9
          have c10 := sub_q p1 q1
          have c11 := add_q psq q1
          rw [Rat.sub_add_cancel] at c11
          have v1 := valid_q (hp.le (show 40 ≤ 300 by decide))
          have v2 := valid_q (hq.le (show 40 ≤ 300 by decide))
          have v3 := valid_q (hr.le (show 40 ≤ 300 by decide))
          by_cases h0 : q = 0
          · subst h0
            have c12 := div_q0 p1
            obtain ⟨z1, z2, z3⟩ := enc_zero
            simp only [encS] at hS ⊢
            rw [z1, z2, z3] at c0 c1 c2 c5 c6 c10 c11 c12 v2 hS ⊢
            exact field_zero _ _ _ _ _ _ _ _ _ _ _ _ _ _ _ _ _ _ _ _ _ _ _ _ _ _ _ hH hS v1 v2 v3 c0 c1 c2 c3 c4 c5 c6 c7 c8 c9 c10 c11 c12 W hT
          · have pdq : Sz (p / q) 140 := (sz_div h0 hp hq).le (by decide)
            have c12 := div_q p1 q1 h0
            have c13 := mul_q pdq q1
            rw [Rat.div_mul_cancel h0] at c13
            exact field_all _ _ _ _ _ _ _ _ _ _ _ _ _ _ _ _ _ _ _ _ _ _ _ _ _ _ _ _ _ _ _ _ _ hH hS v1 v2 v3 c0 c1 c2 c3 c4 c5 c6 c7 c8 c9 c10 c11 c12 c13 (zero_enc.2 h0) W hT
        · rw [Bool.eq_false_iff.2 v3] at h3
          exact field_bad2 _ _ _ _ _ _ _ _ _ hH hS h1 h2 h3 W hT
      · rw [Bool.eq_false_iff.2 v2] at h2
        exact field_bad1 _ _ _ _ _ _ _ _ _ hH hS h1 h2 W hT
    · rw [Bool.eq_false_iff.2 v1] at h1
      exact field_bad0 _ _ _ _ _ _ _ _ _ hH hS h1 W hT
  · rw [Bool.eq_false_iff.2 hs] at hS
    exact field_long _ _ _ _ _ _ _ _ _ hH hS W hT
end Go.Proofs.YtfaibifilpfikaaGreatDoor.Pu
