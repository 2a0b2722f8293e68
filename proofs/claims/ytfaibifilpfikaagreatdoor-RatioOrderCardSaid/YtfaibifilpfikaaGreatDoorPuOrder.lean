/- The law of order: the statement's call answers true; conditions: Go's tables. -/
import Derived.Test.YtfaibifilpfikaaGreatDoorX7
import Derived.Test.YtfaibifilpfikaaGreatDoorMg
import Derived.Test.YtfaibifilpfikaaGreatDoorF6a
import Derived.Test.YtfaibifilpfikaaGreatDoorF6n
import Derived.Test.YtfaibifilpfikaaGreatDoorF6z
import Derived.Test.YtfaibifilpfikaaGreatDoorF6p
namespace Go.Proofs.YtfaibifilpfikaaGreatDoor.Pu
open Go.Proofs.YtfaibifilpfikaaGreatDoorW.PrintWords Go.Proofs.YtfaibifilpfikaaGreatDoor.A Go.Proofs.YtfaibifilpfikaaGreatDoor.N11 Go.Proofs.YtfaibifilpfikaaGreatDoor.X2 Go.Proofs.YtfaibifilpfikaaGreatDoor.C Go.Proofs.YtfaibifilpfikaaGreatDoor.D Go.Proofs.YtfaibifilpfikaaGreatDoor.N13 Go.Proofs.YtfaibifilpfikaaGreatDoor.N14 Go.Proofs.YtfaibifilpfikaaGreatDoor.N15 Go.Proofs.YtfaibifilpfikaaGreatDoor.N16 Go.Proofs.YtfaibifilpfikaaGreatDoor.P1 Go.Proofs.YtfaibifilpfikaaGreatDoor.P3 Go.Proofs.YtfaibifilpfikaaGreatDoor.P4 Go.Proofs.YtfaibifilpfikaaGreatDoor.P5 Go.Proofs.YtfaibifilpfikaaGreatDoor.P7 Go.Proofs.YtfaibifilpfikaaGreatDoor.X7
open Rq Go.RowKit
set_option linter.unusedVariables false
set_option linter.unusedSimpArgs false

theorem cmp_lt {p q : Rat} (h : p < q) : cmpQ p q = -1 := if_pos h
theorem not_lt_of {p q : Rat} (h : p < q) : ¬ q < p := by
  rw [Rat.not_lt]; exact Rat.le_of_lt h
theorem cmp_gt {p q : Rat} (h : q < p) : cmpQ p q = 1 := by
  unfold cmpQ
  rw [if_neg (not_lt_of h), if_neg (fun e => by subst e; exact Rat.lt_irrefl h)]
theorem cmp_eq (p : Rat) : cmpQ p p = 0 := by
  unfold cmpQ
  rw [if_neg Rat.lt_irrefl, if_pos rfl]
theorem cmp_le {p q : Rat} : cmpQ p q ≤ 0 ↔ p ≤ q := by
  unfold cmpQ
  by_cases h : p < q
  · rw [if_pos h]; simp [Rat.le_of_lt h]
  · rw [if_neg h]
    by_cases e : p = q
    · rw [if_pos e]; subst e; simp [Rat.le_refl]
    · rw [if_neg e]
      have : ¬ p ≤ q := fun hle => h (Rat.lt_of_le_of_ne hle e)
      simp [this]
theorem tri (p q : Rat) : p < q ∨ p = q ∨ q < p := by
  by_cases h : p < q
  · exact .inl h
  · rw [Rat.not_lt] at h
    by_cases e : p = q
    · exact .inr (.inl e)
    · exact .inr (.inr (Rat.lt_of_le_of_ne h (fun k => e k.symm)))
theorem enc_differ {p q : Rat} (h : p ≠ q) : (eS p == eS q && ((eN p).toList == (eN q).toList && (eD p).toList == (eD q).toList)) = false := by
  rw [Bool.eq_false_iff]
  intro e
  rw [Bool.and_eq_true, Bool.and_eq_true, beq_iff_eq, beq_iff_eq, beq_iff_eq] at e
  obtain ⟨e1, e2, e3⟩ := e
  refine h ?_
  have x2 : eN p = eN q := Rq.ext (by rw [← ByteArray.toList_eq, ← ByteArray.toList_eq, e2])
  have x3 : eD p = eD q := Rq.ext (by rw [← ByteArray.toList_eq, ← ByteArray.toList_eq, e3])
  rw [← rat_enc p, ← rat_enc q, e1, x2, x3]
theorem eS_neg {q : Rat} : eS q = true ↔ q < 0 := by
  unfold eS
  rw [decide_eq_true_eq, ← Rat.not_le, ← Rat.num_nonneg]; omega
set_option maxHeartbeats 8000000 in
theorem order_calls (a b c : S23) (W : World) (hT : Tabs W) :
    Calls Tryz.prog 6 #[.agg #[.bool a.f0, .string a.f1, .string a.f2], .agg #[.bool b.f0, .string b.f1, .string b.f2], .agg #[.bool c.f0, .string c.f1, .string c.f2]] W fun e w' => e = .returned (.bool true) ∧ Below W.heap.size W w' := by
  have hH : customhouselaw05_head.f = some true := rfl
  have hS : customhouselaw05_short.f 200 40 [⟨a.f0, a.f1, a.f2⟩, ⟨b.f0, b.f1, b.f2⟩, ⟨c.f0, c.f1, c.f2⟩] = some (isShort 40 a && isShort 40 b && isShort 40 c) := short_three (by decide) 40 a b c
  have hV : ∀ x : S23, ratio_Valid.f 1 x.f0 x.f1 x.f2 = some (vld x) := fun x => valid_f2 (by decide) x
  by_cases hs : (isShort 40 a && isShort 40 b && isShort 40 c) = true
  · rw [hs] at hS
    rw [Bool.and_eq_true, Bool.and_eq_true] at hs
    obtain ⟨⟨s1, s2⟩, s3⟩ := hs
    have h1 := hV a
    have h2 := hV b
    have h3 := hV c
    by_cases v1 : vld a = true
    · rw [v1] at h1
      by_cases v2 : vld b = true
      · rw [v2] at h2
        by_cases v3 : vld c = true
        · obtain ⟨p, hp, rfl⟩ := of_short (k := 40) v1 s1
          obtain ⟨q, hq, rfl⟩ := of_short (k := 40) v2 s2
          obtain ⟨r, hr, rfl⟩ := of_short (k := 40) v3 s3
          have p1 : Sz p 140 := hp.le (by decide)
          have q1 : Sz q 140 := hq.le (by decide)
          have r1 : Sz r 140 := hr.le (by decide)
          have pr : Sz (p + r) 140 := (sz_add hp hr).le (by decide)
          have qr : Sz (q + r) 140 := (sz_add hq hr).le (by decide)
          have pmr : Sz (p * r) 140 := (sz_mul hp hr).le (by decide)
          have qmr : Sz (q * r) 140 := (sz_mul hq hr).le (by decide)
          have v1 := valid_q (hp.le (show 40 ≤ 300 by decide))
          have v2 := valid_q (hq.le (show 40 ≤ 300 by decide))
          have v3 := valid_q (hr.le (show 40 ≤ 300 by decide))
          have c0 := cmp_q p1 q1
          have c1 := cmp_q q1 p1
          have c2 := cmp_q q1 r1
          have c3 := cmp_q p1 r1
          have c4 := add_q p1 r1
          have c5 := add_q q1 r1
          have c6 := cmp_q pr qr
          have c7 := mul_q p1 r1
          have c8 := mul_q q1 r1
          have c9 := cmp_q pmr qmr
          simp only [encS] at hS ⊢
          rcases tri p q with hlt | heq | hgt
          · rw [cmp_lt hlt] at c0
            rw [cmp_gt hlt] at c1
            rw [cmp_lt (Rat.add_lt_add_right.2 hlt)] at c6
            have hab := enc_differ (p := p) (q := q) (fun e => by subst e; exact Rat.lt_irrefl hlt)
            by_cases hz : cmpQ q r ≤ 0
            · have hu : decide (0 < cmpQ p r) = false := decide_eq_false (by
                have := cmp_le.2 (Rat.le_trans (Rat.le_of_lt hlt) (cmp_le.1 hz)); omega)
              have hz := decide_eq_true hz
              by_cases r0 : r < 0
              · have e := eS_neg.2 r0
                rw [e] at hS v3 c2 c3 c4 c5 c7 c8 ⊢
                exact F6n.order_ly _ _ _ _ _ _ _ _ _ _ _ _ _ _ _ _ hH hS v1 v2 v3 c0 c1 c2 c3 c4 c5 c6 hab hz hu W hT
              · have e : eS r = false := Bool.eq_false_iff.2 (fun h => r0 (eS_neg.1 h))
                by_cases rz : r = 0
                · have e2 := (eN_zero r).2 rz
                  rw [e] at hS v3 c2 c3 c4 c5 c7 c8 ⊢
                  rw [show eN r = ⟨#[48]⟩ from e2] at hS v3 c2 c3 c4 c5 c7 c8 ⊢
                  exact F6z.order_ly _ _ _ _ _ _ _ _ _ _ _ _ _ _ _ hH hS v1 v2 v3 c0 c1 c2 c3 c4 c5 c6 hab hz hu W hT
                · have hpos : 0 < r := by
                    rcases tri r 0 with h | h | h
                    · exact absurd h r0
                    · exact absurd h rz
                    · exact h
                  have e2 : ((eN r).toList == [48]) = false := beq_eq_false_iff_ne.2 (fun h => rz (list_eN.1 h))
                  rw [cmp_lt ((Rat.mul_lt_mul_right hpos).2 hlt)] at c9
                  rw [e] at hS v3 c2 c3 c4 c5 c7 c8 ⊢
                  exact F6p.order_ly _ _ _ _ _ _ _ _ _ _ _ _ _ _ _ _ _ _ _ _ _ _ hH hS v1 v2 v3 c0 c1 c2 c3 c4 c5 c6 c7 c8 c9 hab hz hu e2 W hT
            · have hz := decide_eq_false hz
              by_cases r0 : r < 0
              · have e := eS_neg.2 r0
                rw [e] at hS v3 c2 c3 c4 c5 c7 c8 ⊢
                exact F6n.order_ln _ _ _ _ _ _ _ _ _ _ _ _ _ _ _ _ hH hS v1 v2 v3 c0 c1 c2 c3 c4 c5 c6 hab hz W hT
              · have e : eS r = false := Bool.eq_false_iff.2 (fun h => r0 (eS_neg.1 h))
                by_cases rz : r = 0
                · have e2 := (eN_zero r).2 rz
                  rw [e] at hS v3 c2 c3 c4 c5 c7 c8 ⊢
                  rw [show eN r = ⟨#[48]⟩ from e2] at hS v3 c2 c3 c4 c5 c7 c8 ⊢
                  exact F6z.order_ln _ _ _ _ _ _ _ _ _ _ _ _ _ _ _ hH hS v1 v2 v3 c0 c1 c2 c3 c4 c5 c6 hab hz W hT
                · have hpos : 0 < r := by
                    rcases tri r 0 with h | h | h
                    · exact absurd h r0
                    · exact absurd h rz
                    · exact h
                  have e2 : ((eN r).toList == [48]) = false := beq_eq_false_iff_ne.2 (fun h => rz (list_eN.1 h))
                  rw [cmp_lt ((Rat.mul_lt_mul_right hpos).2 hlt)] at c9
                  rw [e] at hS v3 c2 c3 c4 c5 c7 c8 ⊢
                  exact F6p.order_ln _ _ _ _ _ _ _ _ _ _ _ _ _ _ _ _ _ _ _ _ _ _ hH hS v1 v2 v3 c0 c1 c2 c3 c4 c5 c6 c7 c8 c9 hab hz e2 W hT
          · subst heq
            rw [cmp_eq] at c0 c1 c6 c9
            by_cases hz : cmpQ p r ≤ 0
            · have hu : decide (0 < cmpQ p r) = false := decide_eq_false (by omega)
              have hz := decide_eq_true hz
              by_cases r0 : r < 0
              · have e := eS_neg.2 r0
                rw [e] at hS v3 c2 c3 c4 c5 c7 c8 ⊢
                exact F6n.order_ey _ _ _ _ _ _ _ _ _ hH hS v1 v2 v3 c0 c1 c2 c3 c4 c5 c6 hz hu W hT
              · have e : eS r = false := Bool.eq_false_iff.2 (fun h => r0 (eS_neg.1 h))
                by_cases rz : r = 0
                · have e2 := (eN_zero r).2 rz
                  rw [e] at hS v3 c2 c3 c4 c5 c7 c8 ⊢
                  rw [show eN r = ⟨#[48]⟩ from e2] at hS v3 c2 c3 c4 c5 c7 c8 ⊢
                  exact F6z.order_ey _ _ _ _ _ _ _ _ hH hS v1 v2 v3 c0 c1 c2 c3 c4 c5 c6 hz hu W hT
                · have e2 : ((eN r).toList == [48]) = false := beq_eq_false_iff_ne.2 (fun h => rz (list_eN.1 h))
                  rw [e] at hS v3 c2 c3 c4 c5 c7 c8 ⊢
                  exact F6p.order_ey _ _ _ _ _ _ _ _ _ _ _ _ hH hS v1 v2 v3 c0 c1 c2 c3 c4 c5 c6 c7 c8 c9 hz hu e2 W hT
            · have hz := decide_eq_false hz
              by_cases r0 : r < 0
              · have e := eS_neg.2 r0
                rw [e] at hS v3 c2 c3 c4 c5 c7 c8 ⊢
                exact F6n.order_en _ _ _ _ _ _ _ _ _ hH hS v1 v2 v3 c0 c1 c2 c3 c4 c5 c6 hz W hT
              · have e : eS r = false := Bool.eq_false_iff.2 (fun h => r0 (eS_neg.1 h))
                by_cases rz : r = 0
                · have e2 := (eN_zero r).2 rz
                  rw [e] at hS v3 c2 c3 c4 c5 c7 c8 ⊢
                  rw [show eN r = ⟨#[48]⟩ from e2] at hS v3 c2 c3 c4 c5 c7 c8 ⊢
                  exact F6z.order_en _ _ _ _ _ _ _ _ hH hS v1 v2 v3 c0 c1 c2 c3 c4 c5 c6 hz W hT
                · have e2 : ((eN r).toList == [48]) = false := beq_eq_false_iff_ne.2 (fun h => rz (list_eN.1 h))
                  rw [e] at hS v3 c2 c3 c4 c5 c7 c8 ⊢
                  exact F6p.order_en _ _ _ _ _ _ _ _ _ _ _ _ hH hS v1 v2 v3 c0 c1 c2 c3 c4 c5 c6 c7 c8 c9 hz e2 W hT
          · rw [cmp_gt hgt] at c0
            rw [cmp_lt hgt] at c1
            rw [cmp_gt (Rat.add_lt_add_right.2 hgt)] at c6
            have hab := enc_differ (p := p) (q := q) (fun e => by subst e; exact Rat.lt_irrefl hgt)
            by_cases r0 : r < 0
            · have e := eS_neg.2 r0
              rw [e] at hS v3 c2 c3 c4 c5 c7 c8 ⊢
              exact F6n.order_g _ _ _ _ _ _ _ _ _ _ _ _ _ _ _ _ hH hS v1 v2 v3 c0 c1 c2 c3 c4 c5 c6 hab W hT
            · have e : eS r = false := Bool.eq_false_iff.2 (fun h => r0 (eS_neg.1 h))
              by_cases rz : r = 0
              · have e2 := (eN_zero r).2 rz
                rw [e] at hS v3 c2 c3 c4 c5 c7 c8 ⊢
                rw [show eN r = ⟨#[48]⟩ from e2] at hS v3 c2 c3 c4 c5 c7 c8 ⊢
                exact F6z.order_g _ _ _ _ _ _ _ _ _ _ _ _ _ _ _ hH hS v1 v2 v3 c0 c1 c2 c3 c4 c5 c6 hab W hT
              · have hpos : 0 < r := by
                  rcases tri r 0 with h | h | h
                  · exact absurd h r0
                  · exact absurd h rz
                  · exact h
                have e2 : ((eN r).toList == [48]) = false := beq_eq_false_iff_ne.2 (fun h => rz (list_eN.1 h))
                rw [cmp_gt ((Rat.mul_lt_mul_right hpos).2 hgt)] at c9
                rw [e] at hS v3 c2 c3 c4 c5 c7 c8 ⊢
                exact F6p.order_g _ _ _ _ _ _ _ _ _ _ _ _ _ _ _ _ _ _ _ _ _ _ hH hS v1 v2 v3 c0 c1 c2 c3 c4 c5 c6 c7 c8 c9 hab e2 W hT
        · rw [Bool.eq_false_iff.2 v3] at h3
          exact F6a.order_bad2 _ _ _ _ _ _ _ _ _ hH hS h1 h2 h3 W hT
      · rw [Bool.eq_false_iff.2 v2] at h2
        exact F6a.order_bad1 _ _ _ _ _ _ _ _ _ hH hS h1 h2 W hT
    · rw [Bool.eq_false_iff.2 v1] at h1
      exact F6a.order_bad0 _ _ _ _ _ _ _ _ _ hH hS h1 W hT
  · rw [Bool.eq_false_iff.2 hs] at hS
    exact F6a.order_long _ _ _ _ _ _ _ _ _ hH hS W hT
end Go.Proofs.YtfaibifilpfikaaGreatDoor.Pu
