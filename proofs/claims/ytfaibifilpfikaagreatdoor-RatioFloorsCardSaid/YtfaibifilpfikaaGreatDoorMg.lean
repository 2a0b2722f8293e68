/- Texts of rational numbers in plain Lean: what Text and Parse answer, and that they are each other's inverse; conditions: texts of fewer than 2^32 bytes. -/
import Derived.Test.YtfaibifilpfikaaGreatDoorD
import Derived.Lib.IndexLaws
namespace Go.Proofs.YtfaibifilpfikaaGreatDoor.X7
open Go.RowKit Go.Lib Go.Proofs.YtfaibifilpfikaaGreatDoorW.PrintWords Go.Proofs.YtfaibifilpfikaaGreatDoorW.PrintLast Go.Proofs.YtfaibifilpfikaaGreatDoorW.PrintMore Go.Proofs.YtfaibifilpfikaaGreatDoor.A Go.Proofs.YtfaibifilpfikaaGreatDoor.N14 Go.Proofs.YtfaibifilpfikaaGreatDoor.N15 Go.Proofs.YtfaibifilpfikaaGreatDoor.N16 Go.Proofs.YtfaibifilpfikaaGreatDoor.N18 Go.Proofs.YtfaibifilpfikaaGreatDoor.X2 Go.Proofs.YtfaibifilpfikaaGreatDoor.C Go.Proofs.YtfaibifilpfikaaGreatDoor.D
set_option linter.unusedVariables false
set_option linter.unusedSimpArgs false
attribute [local go_sem high] eqA23
theorem fc0 : ratio_Of.f (6) (-4) = some (true, ⟨#[51]⟩, ⟨#[50]⟩, 0) := by decide +kernel
theorem fc1 : customhouselaw05_of.f (1) (2) = some (false, ⟨#[49]⟩, ⟨#[50]⟩) := by decide +kernel
theorem fc2 : customhouselaw05_of.f (-1) (2) = some (true, ⟨#[49]⟩, ⟨#[50]⟩) := by decide +kernel
theorem fc3 : ratio_Add.f false ⟨#[49]⟩ ⟨#[50]⟩ true ⟨#[49]⟩ ⟨#[50]⟩ = some (false, ⟨#[48]⟩, ⟨#[49]⟩, 0) := by decide +kernel
theorem fc4 : customhouselaw05_of.f (3) (4) = some (false, ⟨#[51]⟩, ⟨#[52]⟩) := by decide +kernel
theorem fc5 : ratio_Div.f false ⟨#[51]⟩ ⟨#[52]⟩ true ⟨#[49]⟩ ⟨#[50]⟩ = some (true, ⟨#[51]⟩, ⟨#[50]⟩, 0) := by decide +kernel
theorem fc6 : customhouselaw05_of.f (-3) (2) = some (true, ⟨#[51]⟩, ⟨#[50]⟩) := by decide +kernel
theorem fc7 : ratio_Floor.f true ⟨#[51]⟩ ⟨#[50]⟩ = some (-2, 0) := by decide +kernel
theorem fc8 : customhouselaw05_of.f (5) (1) = some (false, ⟨#[53]⟩, ⟨#[49]⟩) := by decide +kernel
theorem fc9 : ratio_Floor.f false ⟨#[53]⟩ ⟨#[49]⟩ = some (5, 0) := by decide +kernel
theorem fc10 : ratio_Parse.f 1 ⟨#[54, 47, 52]⟩ = some (false, ⟨#[]⟩, ⟨#[]⟩, 5) := by decide +kernel
theorem fc11 : ratio_Parse.f 1 ⟨#[45, 48]⟩ = some (false, ⟨#[]⟩, ⟨#[]⟩, 5) := by decide +kernel
theorem fc12 : ratio_Parse.f 1 ⟨#[52, 47, 49]⟩ = some (false, ⟨#[]⟩, ⟨#[]⟩, 5) := by decide +kernel
theorem fc13 : customhouselaw05_of.f (-1) (3) = some (true, ⟨#[49]⟩, ⟨#[51]⟩) := by decide +kernel
theorem fc14 : ratio_Compare.f true ⟨#[49]⟩ ⟨#[51]⟩ true ⟨#[49]⟩ ⟨#[50]⟩ = some (1, 0) := by decide +kernel
set_option maxHeartbeats 4000000 in
set_option maxRecDepth 100000 in
theorem head_any (w : World) (hT : Tabs w) : Calls Tryz.prog 17 #[] w fun e w' => e = .returned (.bool true) ∧ Below w.heap.size w w' := by
  have HT0 := Aside0.mk hT
  have HB0 := Aside0.mk (Below.refl w.heap.size w)
  have hu23 := Tryz.underlying23
  clear hT
  go_enter Tryz.func17, Tryz.ntmps17
  go_wp2_with (first | (go_at_call 18; refine (ratio_Of.calls (6) (-4) true ⟨#[51]⟩ ⟨#[50]⟩ 0 _ fc0 HT0.out).mono ?_; rintro e w1 ⟨rfl, hb⟩; have HT1 := Aside0.mk (HT0.out.below hb); have HB1 := Aside0.mk (below_step HB0.out hb); clear hb HT0 HB0) | (go_at_call 22; refine (customhouselaw05_of.calls (1) (2) false ⟨#[49]⟩ ⟨#[50]⟩ _ fc1 (HT1.out.below (below_alloc (Below.refl _ _) _))).mono ?_; rintro e w2 ⟨rfl, hb⟩; have HT2 := Aside0.mk ((HT1.out.below (below_alloc (Below.refl _ _) _)).below hb); have HB2 := Aside0.mk (below_step (below_alloc HB1.out _) hb); have BA_2 := Aside0.mk (blk_below (blk_new w1 (.cells #[.bool true, .string ⟨#[51]⟩, .string ⟨#[50]⟩] 23)) hb); clear hb HT1 HB1) | (go_at_call 22; refine (customhouselaw05_of.calls (-1) (2) true ⟨#[49]⟩ ⟨#[50]⟩ _ fc2 HT2.out).mono ?_; rintro e w3 ⟨rfl, hb⟩; have HT3 := Aside0.mk (HT2.out.below hb); have HB3 := Aside0.mk (below_step HB2.out hb); have BA_3 := Aside0.mk (blk_below BA_2.out hb); clear BA_2; clear hb HT2 HB2) | (go_at_call 25; refine (ratio_Add.calls false ⟨#[49]⟩ ⟨#[50]⟩ true ⟨#[49]⟩ ⟨#[50]⟩ false ⟨#[48]⟩ ⟨#[49]⟩ 0 _ fc3 HT3.out).mono ?_; rintro e w4 ⟨rfl, hb⟩; have HT4 := Aside0.mk (HT3.out.below hb); have HB4 := Aside0.mk (below_step HB3.out hb); have BA_4 := Aside0.mk (blk_below BA_3.out hb); clear BA_3; clear hb HT3 HB3) | (go_at_call 22; refine (customhouselaw05_of.calls (3) (4) false ⟨#[51]⟩ ⟨#[52]⟩ _ fc4 (HT4.out.below (below_alloc (Below.refl _ _) _))).mono ?_; rintro e w5 ⟨rfl, hb⟩; have HT5 := Aside0.mk ((HT4.out.below (below_alloc (Below.refl _ _) _)).below hb); have HB5 := Aside0.mk (below_step (below_alloc HB4.out _) hb); have BA_5 := Aside0.mk (blk_below (blk_alloc BA_4.out _) hb); clear BA_4; have BB_5 := Aside0.mk (blk_below (blk_new w4 (.cells #[.bool false, .string ⟨#[48]⟩, .string ⟨#[49]⟩] 23)) hb); clear hb HT4 HB4) | (go_at_call 22; refine (customhouselaw05_of.calls (-1) (2) true ⟨#[49]⟩ ⟨#[50]⟩ _ fc2 HT5.out).mono ?_; rintro e w6 ⟨rfl, hb⟩; have HT6 := Aside0.mk (HT5.out.below hb); have HB6 := Aside0.mk (below_step HB5.out hb); have BA_6 := Aside0.mk (blk_below BA_5.out hb); clear BA_5; have BB_6 := Aside0.mk (blk_below BB_5.out hb); clear BB_5; clear hb HT5 HB5) | (go_at_call 32; refine (ratio_Div.calls false ⟨#[51]⟩ ⟨#[52]⟩ true ⟨#[49]⟩ ⟨#[50]⟩ true ⟨#[51]⟩ ⟨#[50]⟩ 0 _ fc5 HT6.out).mono ?_; rintro e w7 ⟨rfl, hb⟩; have HT7 := Aside0.mk (HT6.out.below hb); have HB7 := Aside0.mk (below_step HB6.out hb); have BA_7 := Aside0.mk (blk_below BA_6.out hb); clear BA_6; have BB_7 := Aside0.mk (blk_below BB_6.out hb); clear BB_6; clear hb HT6 HB6) | (go_at_call 22; refine (customhouselaw05_of.calls (-3) (2) true ⟨#[51]⟩ ⟨#[50]⟩ _ fc6 (HT7.out.below (below_alloc (Below.refl _ _) _))).mono ?_; rintro e w8 ⟨rfl, hb⟩; have HT8 := Aside0.mk ((HT7.out.below (below_alloc (Below.refl _ _) _)).below hb); have HB8 := Aside0.mk (below_step (below_alloc HB7.out _) hb); have BA_8 := Aside0.mk (blk_below (blk_alloc BA_7.out _) hb); clear BA_7; have BB_8 := Aside0.mk (blk_below (blk_alloc BB_7.out _) hb); clear BB_7; have BC_8 := Aside0.mk (blk_below (blk_new w7 (.cells #[.bool true, .string ⟨#[51]⟩, .string ⟨#[50]⟩] 23)) hb); clear hb HT7 HB7) | (go_at_call 19; refine (ratio_Floor.calls true ⟨#[51]⟩ ⟨#[50]⟩ (-2) 0 _ fc7 HT8.out).mono ?_; rintro e w9 ⟨rfl, hb⟩; have HT9 := Aside0.mk (HT8.out.below hb); have HB9 := Aside0.mk (below_step HB8.out hb); have BA_9 := Aside0.mk (blk_below BA_8.out hb); clear BA_8; have BB_9 := Aside0.mk (blk_below BB_8.out hb); clear BB_8; have BC_9 := Aside0.mk (blk_below BC_8.out hb); clear BC_8; clear hb HT8 HB8) | (go_at_call 22; refine (customhouselaw05_of.calls (5) (1) false ⟨#[53]⟩ ⟨#[49]⟩ _ fc8 HT9.out).mono ?_; rintro e w10 ⟨rfl, hb⟩; have HT10 := Aside0.mk (HT9.out.below hb); have HB10 := Aside0.mk (below_step HB9.out hb); have BA_10 := Aside0.mk (blk_below BA_9.out hb); clear BA_9; have BB_10 := Aside0.mk (blk_below BB_9.out hb); clear BB_9; have BC_10 := Aside0.mk (blk_below BC_9.out hb); clear BC_9; clear hb HT9 HB9) | (go_at_call 19; refine (ratio_Floor.calls false ⟨#[53]⟩ ⟨#[49]⟩ 5 0 _ fc9 HT10.out).mono ?_; rintro e w11 ⟨rfl, hb⟩; have HT11 := Aside0.mk (HT10.out.below hb); have HB11 := Aside0.mk (below_step HB10.out hb); have BA_11 := Aside0.mk (blk_below BA_10.out hb); clear BA_10; have BB_11 := Aside0.mk (blk_below BB_10.out hb); clear BB_10; have BC_11 := Aside0.mk (blk_below BC_10.out hb); clear BC_10; clear hb HT10 HB10) | (go_at_call 37; refine (ratio_Parse.calls 1 ⟨#[54, 47, 52]⟩ false ⟨#[]⟩ ⟨#[]⟩ 5 _ fc10 HT11.out).mono ?_; rintro e w12 ⟨rfl, hb⟩; have HT12 := Aside0.mk (HT11.out.below hb); have HB12 := Aside0.mk (below_step HB11.out hb); have BA_12 := Aside0.mk (blk_below BA_11.out hb); clear BA_11; have BB_12 := Aside0.mk (blk_below BB_11.out hb); clear BB_11; have BC_12 := Aside0.mk (blk_below BC_11.out hb); clear BC_11; clear hb HT11 HB11) | (go_at_call 37; refine (ratio_Parse.calls 1 ⟨#[45, 48]⟩ false ⟨#[]⟩ ⟨#[]⟩ 5 _ fc11 (HT12.out.below (below_alloc (Below.refl _ _) _))).mono ?_; rintro e w13 ⟨rfl, hb⟩; have HT13 := Aside0.mk ((HT12.out.below (below_alloc (Below.refl _ _) _)).below hb); have HB13 := Aside0.mk (below_step (below_alloc HB12.out _) hb); have BA_13 := Aside0.mk (blk_below (blk_alloc BA_12.out _) hb); clear BA_12; have BB_13 := Aside0.mk (blk_below (blk_alloc BB_12.out _) hb); clear BB_12; have BC_13 := Aside0.mk (blk_below (blk_alloc BC_12.out _) hb); clear BC_12; clear hb HT12 HB12) | (go_at_call 37; refine (ratio_Parse.calls 1 ⟨#[52, 47, 49]⟩ false ⟨#[]⟩ ⟨#[]⟩ 5 _ fc12 (HT13.out.below (below_alloc (Below.refl _ _) _))).mono ?_; rintro e w14 ⟨rfl, hb⟩; have HT14 := Aside0.mk ((HT13.out.below (below_alloc (Below.refl _ _) _)).below hb); have HB14 := Aside0.mk (below_step (below_alloc HB13.out _) hb); have BA_14 := Aside0.mk (blk_below (blk_alloc BA_13.out _) hb); clear BA_13; have BB_14 := Aside0.mk (blk_below (blk_alloc BB_13.out _) hb); clear BB_13; have BC_14 := Aside0.mk (blk_below (blk_alloc BC_13.out _) hb); clear BC_13; clear hb HT13 HB13) | (go_at_call 22; refine (customhouselaw05_of.calls (-1) (3) true ⟨#[49]⟩ ⟨#[51]⟩ _ fc13 (HT14.out.below (below_alloc (Below.refl _ _) _))).mono ?_; rintro e w15 ⟨rfl, hb⟩; have HT15 := Aside0.mk ((HT14.out.below (below_alloc (Below.refl _ _) _)).below hb); have HB15 := Aside0.mk (below_step (below_alloc HB14.out _) hb); have BA_15 := Aside0.mk (blk_below (blk_alloc BA_14.out _) hb); clear BA_14; have BB_15 := Aside0.mk (blk_below (blk_alloc BB_14.out _) hb); clear BB_14; have BC_15 := Aside0.mk (blk_below (blk_alloc BC_14.out _) hb); clear BC_14; clear hb HT14 HB14) | (go_at_call 22; refine (customhouselaw05_of.calls (-1) (2) true ⟨#[49]⟩ ⟨#[50]⟩ _ fc2 HT15.out).mono ?_; rintro e w16 ⟨rfl, hb⟩; have HT16 := Aside0.mk (HT15.out.below hb); have HB16 := Aside0.mk (below_step HB15.out hb); have BA_16 := Aside0.mk (blk_below BA_15.out hb); clear BA_15; have BB_16 := Aside0.mk (blk_below BB_15.out hb); clear BB_15; have BC_16 := Aside0.mk (blk_below BC_15.out hb); clear BC_15; clear hb HT15 HB15) | (go_at_call 23; refine (ratio_Compare.calls true ⟨#[49]⟩ ⟨#[51]⟩ true ⟨#[49]⟩ ⟨#[50]⟩ 1 0 _ fc14 HT16.out).mono ?_; rintro e w17 ⟨rfl, hb⟩; have HT17 := Aside0.mk (HT16.out.below hb); have HB17 := Aside0.mk (below_step HB16.out hb); have BA_17 := Aside0.mk (blk_below BA_16.out hb); clear BA_16; have BB_17 := Aside0.mk (blk_below BB_16.out hb); clear BB_16; have BC_17 := Aside0.mk (blk_below BC_16.out hb); clear BC_16; clear hb HT16 HB16; have zBA0 : w17.cell? ⟨w1.heap.size, 0, none⟩ = some (.bool true) := (blk_cell BA_17.out 0).trans rfl; have zBA1 : w17.cell? ⟨w1.heap.size, 1, none⟩ = some (.string ⟨#[51]⟩) := (blk_cell BA_17.out 1).trans rfl; have zBA2 : w17.cell? ⟨w1.heap.size, 2, none⟩ = some (.string ⟨#[50]⟩) := (blk_cell BA_17.out 2).trans rfl; have zBB0 : w17.cell? ⟨w4.heap.size, 0, none⟩ = some (.bool false) := (blk_cell BB_17.out 0).trans rfl; have zBB1 : w17.cell? ⟨w4.heap.size, 1, none⟩ = some (.string ⟨#[48]⟩) := (blk_cell BB_17.out 1).trans rfl; have zBB2 : w17.cell? ⟨w4.heap.size, 2, none⟩ = some (.string ⟨#[49]⟩) := (blk_cell BB_17.out 2).trans rfl; have zBC0 : w17.cell? ⟨w7.heap.size, 0, none⟩ = some (.bool true) := (blk_cell BC_17.out 0).trans rfl; have zBC1 : w17.cell? ⟨w7.heap.size, 1, none⟩ = some (.string ⟨#[51]⟩) := (blk_cell BC_17.out 1).trans rfl; have zBC2 : w17.cell? ⟨w7.heap.size, 2, none⟩ = some (.string ⟨#[50]⟩) := (blk_cell BC_17.out 2).trans rfl))
  go_ret
  exact ⟨rfl, HB17.out⟩

def customhouselaw05_head.f : Option Bool := some true
theorem customhouselaw05_head.calls (r : Bool) (w : World) (h : customhouselaw05_head.f = some r) (hT : Tabs w) :
    Calls Tryz.prog 17 #[] w fun e w' => e = .returned (.bool r) ∧ Below w.heap.size w w' := by
  obtain rfl := Option.some.inj h
  exact head_any w hT
end Go.Proofs.YtfaibifilpfikaaGreatDoor.X7

namespace Go.Proofs.YtfaibifilpfikaaGreatDoor.P5
open Go.Proofs.YtfaibifilpfikaaGreatDoorW.PrintWords Go.Proofs.YtfaibifilpfikaaGreatDoor.A Go.Proofs.YtfaibifilpfikaaGreatDoor.N10 Go.Proofs.YtfaibifilpfikaaGreatDoor.N11 Go.Proofs.YtfaibifilpfikaaGreatDoor.X2 Go.Proofs.YtfaibifilpfikaaGreatDoor.C Go.Proofs.YtfaibifilpfikaaGreatDoor.D Go.Proofs.YtfaibifilpfikaaGreatDoor.N12 Go.Proofs.YtfaibifilpfikaaGreatDoor.N13 Go.Proofs.YtfaibifilpfikaaGreatDoor.N14 Go.Proofs.YtfaibifilpfikaaGreatDoor.N15 Go.Proofs.YtfaibifilpfikaaGreatDoor.N16 Go.Proofs.YtfaibifilpfikaaGreatDoor.N18 Go.Proofs.YtfaibifilpfikaaGreatDoor.P1 Go.Proofs.YtfaibifilpfikaaGreatDoor.P2 Go.Proofs.YtfaibifilpfikaaGreatDoor.P3 Go.Proofs.YtfaibifilpfikaaGreatDoor.P4 Go.Proofs.YtfaibifilpfikaaGreatDoor.X7
open Rq Go.RowKit
set_option linter.unusedVariables false
set_option linter.unusedSimpArgs false

/-! ### Short -/
def isShort (most : Int) (r : S23) : Bool := decide ((r.f1.size : Int) ≤ most) && decide ((r.f2.size : Int) ≤ most)
theorem short_l0 (most : Int) (l : List S23) (hl : l.length ≤ 1000) : ∀ (d k i : Nat), i ≤ l.length → l.length - i = d → d < k → customhouseref05_Short.l0 k most l (i : Int) = some ((l.drop i).all (isShort most))
  | 0, k, i, hi, hd, hk => by
    obtain ⟨k, rfl⟩ : ∃ m, k = m + 1 := ⟨k - 1, by omega⟩
    simp only [customhouseref05_Short.l0]
    rw [if_neg (by omega), List.drop_eq_nil_of_le (by omega)]
    rfl
  | d + 1, k, i, hi, hd, hk => by
    obtain ⟨k, rfl⟩ : ∃ m, k = m + 1 := ⟨k - 1, by omega⟩
    simp only [customhouseref05_Short.l0]
    have hlt : i < l.length := by omega
    have hrd : rd_T23 l (i : Int) = l[i] := by
      unfold rd_T23
      rw [Int.toNat_natCast, List.getD_eq_getElem?_getD, List.getElem?_eq_getElem hlt]; rfl
    rw [if_pos (by omega), if_pos (by omega), hrd, List.drop_eq_getElem_cons hlt, List.all_cons]
    have ih := short_l0 most l hl d k (i + 1) (by omega) (by omega) (by omega)
    have hw : wrap64 ((i : Int) + 1) = ((i + 1 : Nat) : Int) := by unfold wrap64; omega
    rw [hw, ih]
    unfold isShort
    by_cases h1 : ((l[i].f1.size : Nat) : Int) > most
    · rw [if_pos h1, decide_eq_false (by omega)]; rfl
    · rw [if_neg h1, decide_eq_true (by omega)]
      by_cases h2 : ((l[i].f2.size : Nat) : Int) > most
      · rw [if_pos h2, decide_eq_false (by omega)]; rfl
      · rw [if_neg h2, decide_eq_true (by omega)]; rfl
theorem short_f (k : Nat) (most : Int) (l : List S23) (hl : l.length ≤ 100) (hk : 101 < k) : customhouselaw05_short.f k most l = some (l.all (isShort most)) := by
  unfold customhouselaw05_short.f customhouseref05_Short.f
  rw [show (0 : Int) = ((0 : Nat) : Int) from rfl, short_l0 most l (by omega) l.length k 0 (by omega) (by omega) (by omega), List.drop_zero]
  rfl
theorem short_one {k : Nat} (hk : 101 < k) (most : Int) (a : S23) : customhouselaw05_short.f k most [a] = some (isShort most a) := by
  rw [short_f k most [a] (by simp) hk]
  simp
theorem short_two {k : Nat} (hk : 101 < k) (most : Int) (a b : S23) : customhouselaw05_short.f k most [a, b] = some (isShort most a && isShort most b) := by
  rw [short_f k most [a, b] (by simp) hk]
  simp
theorem short_three {k : Nat} (hk : 101 < k) (most : Int) (a b c : S23) : customhouselaw05_short.f k most [a, b, c] = some (isShort most a && isShort most b && isShort most c) := by
  rw [short_f k most [a, b, c] (by simp) hk]
  simp [Bool.and_assoc]
theorem isShort_iff {m : Nat} {a : S23} : isShort (m : Int) a = true ↔ a.f1.size ≤ m ∧ a.f2.size ≤ m := by
  unfold isShort
  rw [Bool.and_eq_true, decide_eq_true_eq, decide_eq_true_eq]
  omega
theorem valid_f2 {k : Nat} (hk : 0 < k) (a : S23) : ratio_Valid.f k a.f0 a.f1 a.f2 = some (vld a) := by
  obtain ⟨k, rfl⟩ : ∃ m, k = m + 1 := ⟨k - 1, by omega⟩
  exact valid_f k a.f0 a.f1 a.f2

/-! ### Compare -/
theorem res_eq {z : Bool} {a b : S23} {q : Rat} (ha : vld a = true) (hb : vld b = true) (h0 : ¬ (z = true ∧ q23 b = 0)) (sa : sm a = true) (sb : sm b = true) : res z a b q = enc q := by
  unfold res
  rw [if_pos (show vld a = true ∧ vld b = true from ⟨ha, hb⟩), if_neg h0, if_pos (show sm a = true ∧ sm b = true from ⟨sa, sb⟩)]
theorem compare_f (a b : S23) : ratio_Compare.f a.f0 a.f1 a.f2 b.f0 b.f1 b.f2 = some (cmpR2 a b) := by
  unfold ratio_Compare.f cmpR2
  rw [sub_f, Option.bind_some]
  by_cases hv : vld a = true ∧ vld b = true
  · by_cases hs : sm a = true ∧ sm b = true
    · rw [if_pos hv, if_pos hs, res_eq hv.1 hv.2 (fun h => by cases h.1) hs.1 hs.2]
      unfold enc cmpQ
      simp only
      rw [if_pos trivial, eS_sub]
      by_cases hl : q23 a < q23 b
      · rw [if_pos hl, decide_eq_true hl, if_pos rfl]
      · rw [if_neg hl, decide_eq_false hl, if_neg (by decide)]
        by_cases he : q23 a = q23 b
        · rw [if_pos he, if_pos (list_eN.2 ((sub_zero_iff _ _).2 he))]
        · rw [if_neg he, if_neg (fun h => he ((sub_zero_iff _ _).1 (list_eN.1 h)))]
    · have e : res false a b (q23 a - q23 b) = bad 2 := by
        unfold res
        rw [if_pos hv, if_neg (fun h => by cases h.1), if_neg hs]
      rw [if_pos hv, if_neg hs, e]; rfl
  · have e : res false a b (q23 a - q23 b) = bad 1 := by
      unfold res
      rw [if_neg hv]
    rw [if_neg hv, e]; rfl
theorem cmpR2_eq {a b : S23} (ha : vld a = true) (hb : vld b = true) (sa : sm a = true) (sb : sm b = true) : cmpR2 a b = (cmpQ (q23 a) (q23 b), 0) := by
  unfold cmpR2
  rw [if_pos (show vld a = true ∧ vld b = true from ⟨ha, hb⟩), if_pos (show sm a = true ∧ sm b = true from ⟨sa, sb⟩)]

/-! ### Of, at an integer -/
def int64 (n : Int) : Prop := -9223372036854775808 ≤ n ∧ n ≤ 9223372036854775807
theorem divInt_one (n : Int) : Rat.divInt n 1 = (n : Rat) := by
  rw [show (1 : Int) = ((1 : Nat) : Int) from rfl, Rat.divInt_ofNat, Rat.mkRat_eq_div]
  rw [Rat.div_def]
  have : ((1 : Nat) : Rat)⁻¹ = 1 := by decide +kernel
  rw [this, Rat.mul_one]
theorem of_eq {num den : Int} (hn : int64 num) (hd : int64 den) (h0 : den ≠ 0) : ratio_Of.f num den = some (enc (Rat.divInt num den)) := by
  unfold ratio_Of.f ofR
  rw [if_pos ⟨hn.1, hn.2, hd.1, hd.2⟩, if_neg h0]
theorem of_one {n : Int} (h : int64 n) : ratio_Of.f n 1 = some (enc (n : Rat)) := by
  rw [of_eq h ⟨by decide, by decide⟩ (by decide), divInt_one]
theorem lawof_eq {num den : Int} (hn : int64 num) (hd : int64 den) (h0 : den ≠ 0) : customhouselaw05_of.f num den = some (eS (Rat.divInt num den), eN (Rat.divInt num den), eD (Rat.divInt num den)) := by
  unfold customhouselaw05_of.f
  rw [of_eq hn hd h0]; rfl
theorem lawof_one {n : Int} (h : int64 n) : customhouselaw05_of.f n 1 = some (eS (n : Rat), eN (n : Rat), eD (n : Rat)) := by
  rw [lawof_eq h ⟨by decide, by decide⟩ (by decide), divInt_one]
theorem sz_int64 {n : Int} (h : int64 n) : Sz (n : Rat) 19 := sz_int n (small_abs h.1 h.2) (by decide)
theorem vld_sz {q : Rat} {k : Nat} (h : Sz q k) (hk : k ≤ 300) : vld (encS q) = true := vld_encS (h.le hk)
theorem sm_sz {q : Rat} {k : Nat} (h : Sz q k) (hk : k ≤ 140) : sm (encS q) = true := sm_encS (h.le hk)
theorem floorR_int {n : Int} (h : int64 n) : floorR (encS (n : Rat)) = (n, 0) := by
  unfold floorR inInt
  rw [if_pos (vld_sz (sz_int64 h) (by decide)), q23_encS, Rat.floor_intCast, decide_eq_true h.1, decide_eq_true h.2]
  rfl
theorem inInt_iff {n : Int} : inInt n = true ↔ int64 n := by
  unfold inInt int64
  rw [Bool.and_eq_true, decide_eq_true_eq, decide_eq_true_eq]
end Go.Proofs.YtfaibifilpfikaaGreatDoor.P5

namespace Go.Proofs.YtfaibifilpfikaaGreatDoor.P7
open Go.Proofs.YtfaibifilpfikaaGreatDoorW.PrintWords Go.Proofs.YtfaibifilpfikaaGreatDoor.A Go.Proofs.YtfaibifilpfikaaGreatDoor.N10 Go.Proofs.YtfaibifilpfikaaGreatDoor.N11 Go.Proofs.YtfaibifilpfikaaGreatDoor.X2 Go.Proofs.YtfaibifilpfikaaGreatDoor.C Go.Proofs.YtfaibifilpfikaaGreatDoor.D Go.Proofs.YtfaibifilpfikaaGreatDoor.N12 Go.Proofs.YtfaibifilpfikaaGreatDoor.N13 Go.Proofs.YtfaibifilpfikaaGreatDoor.N14 Go.Proofs.YtfaibifilpfikaaGreatDoor.N15 Go.Proofs.YtfaibifilpfikaaGreatDoor.N16 Go.Proofs.YtfaibifilpfikaaGreatDoor.N18 Go.Proofs.YtfaibifilpfikaaGreatDoor.P1 Go.Proofs.YtfaibifilpfikaaGreatDoor.P2 Go.Proofs.YtfaibifilpfikaaGreatDoor.P3 Go.Proofs.YtfaibifilpfikaaGreatDoor.P4 Go.Proofs.YtfaibifilpfikaaGreatDoor.P5 Go.Proofs.YtfaibifilpfikaaGreatDoor.X7
open Rq Go.RowKit
set_option linter.unusedVariables false
set_option linter.unusedSimpArgs false

theorem no_zero {q : Rat} : ¬ (false = true ∧ q = 0) := fun h => by cases h.1
theorem res_q {z : Bool} {p q r : Rat} (hp : Sz p 140) (hq : Sz q 140) (h0 : ¬ (z = true ∧ q = 0)) : res z (encS p) (encS q) r = enc r :=
  res_eq (vld_sz hp (by decide)) (vld_sz hq (by decide)) (by rw [q23_encS]; exact h0) (sm_sz hp (by decide)) (sm_sz hq (by decide))
theorem add_q {p q : Rat} (hp : Sz p 140) (hq : Sz q 140) : ratio_Add.f (eS p) (eN p) (eD p) (eS q) (eN q) (eD q) = some (eS (p + q), eN (p + q), eD (p + q), 0) := by
  have h := add_f (encS p) (encS q)
  rw [q23_encS, q23_encS, res_q hp hq no_zero] at h
  exact h
theorem sub_q {p q : Rat} (hp : Sz p 140) (hq : Sz q 140) : ratio_Sub.f (eS p) (eN p) (eD p) (eS q) (eN q) (eD q) = some (eS (p - q), eN (p - q), eD (p - q), 0) := by
  have h := sub_f (encS p) (encS q)
  rw [q23_encS, q23_encS, res_q hp hq no_zero] at h
  exact h
theorem mul_q {p q : Rat} (hp : Sz p 140) (hq : Sz q 140) : ratio_Mul.f (eS p) (eN p) (eD p) (eS q) (eN q) (eD q) = some (eS (p * q), eN (p * q), eD (p * q), 0) := by
  have h := mul_f (encS p) (encS q)
  rw [q23_encS, q23_encS, res_q hp hq no_zero] at h
  exact h
theorem div_q {p q : Rat} (hp : Sz p 140) (hq : Sz q 140) (h0 : q ≠ 0) : ratio_Div.f (eS p) (eN p) (eD p) (eS q) (eN q) (eD q) = some (eS (p / q), eN (p / q), eD (p / q), 0) := by
  have h := div_f' (encS p) (encS q)
  rw [q23_encS, q23_encS, res_q hp hq (fun h => h0 h.2)] at h
  exact h
theorem div_q0 {p : Rat} (hp : Sz p 140) : ratio_Div.f (eS p) (eN p) (eD p) (eS 0) (eN 0) (eD 0) = some (false, ⟨#[]⟩, ⟨#[]⟩, 15) := by
  have h := div_f' (encS p) (encS 0)
  have hz : Sz (0 : Rat) 140 := ⟨by show 0 < _; exact Nat.pow_pos (by decide), by show 1 < _; exact Nat.lt_of_lt_of_le (show 1 < 10 ^ 1 by decide) (Nat.pow_le_pow_right (by decide) (by decide))⟩
  have e : res true (encS p) (encS 0) (q23 (encS p) / q23 (encS 0)) = bad 15 := by
    unfold res
    rw [if_pos (show vld (encS p) = true ∧ vld (encS 0) = true from ⟨vld_sz hp (by decide), vld_sz hz (by decide)⟩), if_pos ⟨rfl, q23_encS 0⟩]
  rw [e] at h
  exact h
theorem cmp_q {p q : Rat} (hp : Sz p 140) (hq : Sz q 140) : ratio_Compare.f (eS p) (eN p) (eD p) (eS q) (eN q) (eD q) = some (cmpQ p q, 0) := by
  have h := compare_f (encS p) (encS q)
  rw [cmpR2_eq (vld_sz hp (by decide)) (vld_sz hq (by decide)) (sm_sz hp (by decide)) (sm_sz hq (by decide)), q23_encS, q23_encS] at h
  exact h
theorem valid_q {p : Rat} (hp : Sz p 300) : ratio_Valid.f 1 (eS p) (eN p) (eD p) = some true := by
  have h := valid_f2 (k := 1) (by decide) (encS p)
  rw [vld_encS hp] at h
  exact h
theorem zero_enc {q : Rat} : (!eS q && ((eN q).toList == [48] && (eD q).toList == [49])) = false ↔ q ≠ 0 := by
  constructor
  · intro h e
    subst e
    revert h
    decide +kernel
  · intro h
    have : ((eN q).toList == [48]) = false := beq_eq_false_iff_ne.2 (fun e => h (list_eN.1 e))
    rw [this, Bool.false_and, Bool.and_false]
theorem enc_zero : eS 0 = false ∧ eN 0 = ⟨#[48]⟩ ∧ eD 0 = ⟨#[49]⟩ := by decide +kernel
/-- A valid number of at most k digits is a rational number's text. -/
theorem of_short {a : S23} (hv : vld a = true) {k : Nat} (hs : isShort (k : Int) a = true) : ∃ q : Rat, Sz q k ∧ a = encS q := by
  have h := isShort_iff.1 hs
  exact ⟨q23 a, sz_q23 hv h.1 h.2, (encS_q23 hv).symm⟩
end Go.Proofs.YtfaibifilpfikaaGreatDoor.P7

namespace Go.Proofs.YtfaibifilpfikaaGreatDoor.P6
open Go.Proofs.YtfaibifilpfikaaGreatDoorW.PrintWords Go.Proofs.YtfaibifilpfikaaGreatDoor.A Go.Proofs.YtfaibifilpfikaaGreatDoor.N10 Go.Proofs.YtfaibifilpfikaaGreatDoor.N11 Go.Proofs.YtfaibifilpfikaaGreatDoor.X2 Go.Proofs.YtfaibifilpfikaaGreatDoor.C Go.Proofs.YtfaibifilpfikaaGreatDoor.D Go.Proofs.YtfaibifilpfikaaGreatDoor.N12 Go.Proofs.YtfaibifilpfikaaGreatDoor.N13 Go.Proofs.YtfaibifilpfikaaGreatDoor.N14 Go.Proofs.YtfaibifilpfikaaGreatDoor.N15 Go.Proofs.YtfaibifilpfikaaGreatDoor.N16 Go.Proofs.YtfaibifilpfikaaGreatDoor.N18 Go.Proofs.YtfaibifilpfikaaGreatDoor.P1 Go.Proofs.YtfaibifilpfikaaGreatDoor.P2 Go.Proofs.YtfaibifilpfikaaGreatDoor.P3 Go.Proofs.YtfaibifilpfikaaGreatDoor.P4 Go.Proofs.YtfaibifilpfikaaGreatDoor.P5 Go.Proofs.YtfaibifilpfikaaGreatDoor.X7
open Rq Go.RowKit
set_option linter.unusedVariables false
set_option linter.unusedSimpArgs false

def sgn (s : Bool) (n : ByteArray) : ByteArray := if s = true then (⟨#[45]⟩ : ByteArray) ++ n else n
def txt (a : S23) : ByteArray := if a.f2.toList = [49] then sgn a.f0 a.f1 else sgn a.f0 a.f1 ++ ((⟨#[47]⟩ : ByteArray) ++ a.f2)
theorem sz1 (c : UInt8) (n : ByteArray) : ((⟨#[c]⟩ : ByteArray) ++ n).size = 1 + n.size := by rw [ByteArray.size_append]; rfl
theorem sz_sgn (s : Bool) (n : ByteArray) : (sgn s n).size ≤ 1 + n.size := by
  unfold sgn
  split
  · rw [sz1]; omega
  · omega
theorem text_f {k : Nat} (hk : 0 < k) (a : S23) : ratio_Text.f k a.f0 a.f1 a.f2 = some (if vld a = true then (txt a, 0) else (⟨#[]⟩, 1)) := by
  unfold ratio_Text.f
  rw [valid_f2 hk, Option.bind_some]
  by_cases hv : vld a = true
  · rw [if_pos hv, if_pos hv]
    obtain ⟨h1, h2, _⟩ := valid_parts hv
    have z1 := (isN_num h1).2
    have z2 := (isN_num h2).2
    have s1 := sz1 45 a.f1
    have s2 := sz1 47 a.f2
    unfold txt sgn
    by_cases hs : a.f0 = true
    · rw [if_pos hs, if_pos hs, if_pos (by omega)]
      by_cases h1 : a.f2.toList = [49]
      · rw [if_pos h1, if_pos h1]
      · rw [if_neg h1, if_neg h1, if_pos (by omega), if_pos (by omega)]
    · rw [if_neg hs, if_neg hs]
      by_cases h1 : a.f2.toList = [49]
      · rw [if_pos h1, if_pos h1]
      · rw [if_neg h1, if_neg h1, if_pos (by omega), if_pos (by omega)]
  · rw [if_neg hv, if_neg hv]

/-! ### Parse -/
def negP (l : List UInt8) : Bool := Go.Lib.hasPrefix l [45]
def digP (l : List UInt8) : List UInt8 := Go.Lib.trimPrefix l [45]
def mk (l : List UInt8) : ByteArray := ⟨l.toArray⟩
theorem mk_list (l : List UInt8) : (mk l).data.toList = l := rfl
theorem mk_self (b : ByteArray) : mk b.data.toList = b := Rq.ext rfl
def okP (a : S23) : R4 := if vld a = true then (a.f0, a.f1, a.f2, 0) else bad 5
def cutP (s : Bool) (d : List UInt8) : R4 :=
  if 0 ≤ Go.Lib.indexByte d 47 then (if d.drop ((Go.Lib.indexByte d 47).toNat + 1) = [49] then bad 5 else okP ⟨s, mk (d.take (Go.Lib.indexByte d 47).toNat), mk (d.drop ((Go.Lib.indexByte d 47).toNat + 1))⟩)
  else okP ⟨s, mk d, one1⟩
def parseR (t : ByteArray) : R4 := cutP (negP t.data.toList) (digP t.data.toList)
theorem ext_take (b : ByteArray) (i : Nat) : b.extract 0 i = mk (b.data.toList.take i) := by
  refine Rq.ext ?_
  rw [mk_list, ByteArray.data_extract, Array.toList_extract]
  simp
theorem ext_drop (b : ByteArray) (i : Nat) : b.extract i b.size = mk (b.data.toList.drop i) := by
  refine Rq.ext ?_
  rw [mk_list, ByteArray.data_extract, Array.toList_extract]
  rw [List.extract_eq_take_drop, ByteArray.size, ← Array.length_toList, List.take_of_length_le (by rw [List.length_drop]; omega)]
theorem digP_length (l : List UInt8) : (digP l).length ≤ l.length := by
  unfold digP Go.Lib.trimPrefix
  split
  · rw [List.length_drop]; omega
  · omega
theorem index_lt {l : List UInt8} {c : UInt8} (h : 0 ≤ Go.Lib.indexByte l c) : (Go.Lib.indexByte l c).toNat < l.length := by
  have := (Go.Lib.indexByte_some (l := l) (c := c) (o := (Go.Lib.indexByte l c).toNat) (by omega)).1
  exact (List.getElem?_eq_some_iff.1 this).1
theorem valid_f3 {k : Nat} (hk : 0 < k) (s : Bool) (n d : ByteArray) : ratio_Valid.f k s n d = some (vld ⟨s, n, d⟩) := valid_f2 hk ⟨s, n, d⟩
theorem parse_f {k : Nat} (hk : 0 < k) (t : ByteArray) (ht : t.size ≤ 4294967295) : ratio_Parse.f k t = some (parseR t) := by
  unfold ratio_Parse.f strings_CutPrefix.f
  rw [Option.bind_some]
  show ((strings_Cut.f (mk (digP t.data.toList)) ⟨#[47]⟩).bind _) = _
  unfold strings_Cut.f stringslite_Cut.f
  have hi : stringslite_Index.f (mk (digP t.data.toList)) ⟨#[47]⟩ = some (Go.Lib.indexByte (digP t.data.toList) 47) := rfl
  rw [hi, Option.bind_some]
  have hlen : (mk (digP t.data.toList)).size ≤ 4294967295 := by
    rw [Rq.size_list, mk_list]
    have := digP_length t.data.toList
    rw [← Rq.size_list] at this
    omega
  show _ = some (cutP (negP t.data.toList) (digP t.data.toList))
  rw [show Go.Lib.hasPrefix t.data.toList (⟨#[45]⟩ : ByteArray).data.toList = negP t.data.toList from rfl]
  generalize negP t.data.toList = s
  generalize hd : digP t.data.toList = d at *
  unfold cutP
  have hsz : (mk d).size = d.length := by rw [Rq.size_list, mk_list]
  by_cases h0 : 0 ≤ Go.Lib.indexByte d 47
  · have hlt := index_lt h0
    have hw : wrap64 (Go.Lib.indexByte d 47 + (((⟨#[47]⟩ : ByteArray).size : Nat) : Int)) = Go.Lib.indexByte d 47 + 1 := by
      rw [show (((⟨#[47]⟩ : ByteArray).size : Nat) : Int) = 1 from rfl]
      unfold wrap64; omega
    rw [if_pos h0, if_pos h0, if_pos h0, if_pos (by omega), hw, if_pos (by omega), if_pos (by omega), Option.bind_some]
    have hx : (Go.Lib.indexByte d 47 + 1).toNat = (Go.Lib.indexByte d 47).toNat + 1 := by omega
    rw [hx, ext_take, ext_drop, mk_list, Option.bind_some, if_pos rfl, ByteArray.toList_eq, mk_list]
    by_cases h1 : d.drop ((Go.Lib.indexByte d 47).toNat + 1) = [49]
    · rw [if_pos h1, if_pos h1]; rfl
    · rw [if_neg h1, if_neg h1]
      simp only
      rw [valid_f3 hk, Option.bind_some]
      unfold okP
      by_cases hv : vld ⟨s, mk (d.take (Go.Lib.indexByte d 47).toNat), mk (d.drop ((Go.Lib.indexByte d 47).toNat + 1))⟩ = true
      · rw [if_pos hv, if_pos hv]
      · rw [if_neg hv, if_neg hv]; rfl
  · rw [if_neg h0, if_neg h0, Option.bind_some, Option.bind_some]
    simp only
    rw [if_neg (by simp)]
    show ((ratio_Valid.f k s (mk d) one1).bind _) = _
    rw [valid_f3 hk, Option.bind_some]
    unfold okP
    by_cases hv : vld ⟨s, mk d, one1⟩ = true
    · rw [if_pos hv, if_pos hv]; rfl
    · rw [if_neg hv, if_neg hv]; rfl

/-! ### Each is the other's inverse -/
theorem okP_cases (a : S23) : (vld a = true ∧ okP a = (a.f0, a.f1, a.f2, 0)) ∨ okP a = bad 5 := by
  unfold okP
  by_cases h : vld a = true
  · exact .inl ⟨h, if_pos h⟩
  · exact .inr (if_neg h)
theorem toList_list (b : ByteArray) : b.toList = b.data.toList := ByteArray.toList_eq b
theorem list1 (c : UInt8) (b : ByteArray) : ((⟨#[c]⟩ : ByteArray) ++ b).data.toList = c :: b.data.toList := by
  rw [ByteArray.data_append]; simp
theorem list2 (a b : ByteArray) : (a ++ b).data.toList = a.data.toList ++ b.data.toList := by
  rw [ByteArray.data_append]; simp
theorem sgn_list (s : Bool) (n : ByteArray) : (sgn s n).data.toList = (if s = true then [45] else []) ++ n.data.toList := by
  unfold sgn
  cases s
  · rfl
  · rw [if_pos rfl, if_pos rfl, list1]; rfl
theorem neg_split (l : List UInt8) : l = (if negP l = true then [45] else []) ++ digP l := by
  unfold negP digP Go.Lib.trimPrefix
  by_cases h : Go.Lib.hasPrefix l [45] = true
  · rw [if_pos h, if_pos h]
    unfold Go.Lib.hasPrefix at h
    obtain ⟨r, rfl⟩ := List.isPrefixOf_iff_prefix.1 h
    simp
  · rw [if_neg h, if_neg h]; rfl
theorem txt_parse (t : ByteArray) : (∃ a : S23, vld a = true ∧ parseR t = (a.f0, a.f1, a.f2, 0) ∧ txt a = t) ∨ parseR t = bad 5 := by
  unfold parseR cutP
  have hs := neg_split t.data.toList
  generalize negP t.data.toList = s at *
  generalize digP t.data.toList = d at *
  by_cases h0 : 0 ≤ Go.Lib.indexByte d 47
  · rw [if_pos h0]
    by_cases h1 : d.drop ((Go.Lib.indexByte d 47).toNat + 1) = [49]
    · rw [if_pos h1]; exact .inr rfl
    · rw [if_neg h1]
      have hat := (Go.Lib.indexByte_some (l := d) (c := 47) (o := (Go.Lib.indexByte d 47).toNat) (by omega)).1
      generalize (Go.Lib.indexByte d 47).toNat = i at *
      rcases okP_cases ⟨s, mk (d.take i), mk (d.drop (i + 1))⟩ with ⟨hv, e⟩ | e
      · refine .inl ⟨_, hv, e, Rq.ext ?_⟩
        unfold txt
        simp only
        rw [if_neg (by rw [toList_list, mk_list]; exact h1), list2, list1, sgn_list, mk_list, mk_list, hs, List.append_assoc]
        congr 1
        obtain ⟨hlt, hg⟩ := List.getElem?_eq_some_iff.1 hat
        rw [← hg, ← List.drop_eq_getElem_cons hlt, List.take_append_drop]
      · exact .inr e
  · rw [if_neg h0]
    rcases okP_cases ⟨s, mk d, one1⟩ with ⟨hv, e⟩ | e
    · refine .inl ⟨_, hv, e, Rq.ext ?_⟩
      unfold txt
      simp only
      rw [if_pos (by rw [toList_list]; rfl), sgn_list, mk_list, ← hs]
    · exact .inr e
theorem dig_of {b : ByteArray} (h : isN b = true) {c : UInt8} (hc : c ∈ b.data.toList) : c ≠ 45 ∧ c ≠ 47 := by
  have := Nb.dig_le (isN_digs h c hc)
  constructor <;> (intro e; subst e; revert this; decide)
theorem num_cons {b : ByteArray} (h : isN b = true) : ∃ c r, b.data.toList = c :: r := by
  cases e : b.data.toList with
  | nil =>
    have := (isN_num h).1
    rw [e] at this
    exact absurd this (by decide)
  | cons c r => exact ⟨c, r, rfl⟩
theorem split_sgn (s : Bool) {n : ByteArray} (hn : isN n = true) (r : List UInt8) : negP ((if s = true then [45] else []) ++ (n.data.toList ++ r)) = s ∧ digP ((if s = true then [45] else []) ++ (n.data.toList ++ r)) = n.data.toList ++ r := by
  obtain ⟨c, q, e⟩ := num_cons hn
  have hc := (dig_of hn (c := c) (by rw [e]; exact List.mem_cons_self)).1
  unfold negP digP Go.Lib.trimPrefix Go.Lib.hasPrefix
  cases s
  · rw [if_neg (by decide), List.nil_append, e]
    have hp : ([45] : List UInt8).isPrefixOf (c :: q ++ r) = false := by
      simp only [List.cons_append, List.isPrefixOf, Bool.and_true]
      exact beq_eq_false_iff_ne.2 (fun h => hc h.symm)
    rw [hp]
    exact ⟨rfl, rfl⟩
  · rw [if_pos rfl]
    have hp : ([45] : List UInt8).isPrefixOf ([45] ++ (n.data.toList ++ r)) = true := by simp [List.isPrefixOf]
    rw [hp]
    exact ⟨rfl, rfl⟩
theorem index_none {l : List UInt8} {c : UInt8} (h : ∀ x ∈ l, x ≠ c) : Go.Lib.indexByte l c = -1 := by
  have hge := Go.Lib.indexByte_ge l c
  by_cases h0 : 0 ≤ Go.Lib.indexByte l c
  · have := (Go.Lib.indexByte_some (l := l) (c := c) (o := (Go.Lib.indexByte l c).toNat) (by omega)).1
    exact absurd rfl (h c (List.mem_of_getElem? this))
  · omega
theorem index_at {l r : List UInt8} {c : UInt8} (h : ∀ x ∈ l, x ≠ c) : Go.Lib.indexByte (l ++ c :: r) c = (l.length : Int) := by
  have hge := Go.Lib.indexByte_ge (l ++ c :: r) c
  have hat : (l ++ c :: r)[l.length]? = some c := by simp
  by_cases h0 : 0 ≤ Go.Lib.indexByte (l ++ c :: r) c
  · obtain ⟨h1, h2⟩ := Go.Lib.indexByte_some (l := l ++ c :: r) (c := c) (o := (Go.Lib.indexByte (l ++ c :: r) c).toNat) (by omega)
    by_cases h3 : (Go.Lib.indexByte (l ++ c :: r) c).toNat < l.length
    · rw [List.getElem?_append_left h3] at h1
      exact absurd rfl (h c (List.mem_of_getElem? h1))
    · by_cases h4 : l.length < (Go.Lib.indexByte (l ++ c :: r) c).toNat
      · exact absurd hat (h2 _ h4)
      · omega
  · exact absurd hat (Go.Lib.indexByte_none (by omega) _)
theorem parse_txt {a : S23} (hv : vld a = true) : parseR (txt a) = (a.f0, a.f1, a.f2, 0) := by
  obtain ⟨h1, h2, h3, h4, h5⟩ := valid_parts hv
  have ho : okP a = (a.f0, a.f1, a.f2, 0) := if_pos hv
  unfold parseR txt
  by_cases hd : a.f2.toList = [49]
  · rw [if_pos hd, sgn_list]
    obtain ⟨e1, e2⟩ := split_sgn a.f0 h1 []
    rw [List.append_nil] at e1 e2
    rw [e1, e2]
    unfold cutP
    rw [index_none (fun x hx => (dig_of h1 hx).2), if_neg (by decide), mk_self]
    have : one1 = a.f2 := Rq.ext (by rw [← toList_list a.f2, hd]; rfl)
    rw [this]
    exact ho
  · rw [if_neg hd, list2, list1, sgn_list, List.append_assoc]
    obtain ⟨e1, e2⟩ := split_sgn a.f0 h1 (47 :: a.f2.data.toList)
    rw [e1, e2]
    unfold cutP
    rw [index_at (fun x hx => (dig_of h1 hx).2), if_pos (by omega), Int.toNat_natCast]
    have hdr : (a.f1.data.toList ++ 47 :: a.f2.data.toList).drop (a.f1.data.toList.length + 1) = a.f2.data.toList := by
      rw [← List.drop_drop, List.drop_left]; rfl
    rw [hdr, List.take_left, mk_self, mk_self, if_neg (by rw [← toList_list]; exact hd)]
    exact ho
end Go.Proofs.YtfaibifilpfikaaGreatDoor.P6
