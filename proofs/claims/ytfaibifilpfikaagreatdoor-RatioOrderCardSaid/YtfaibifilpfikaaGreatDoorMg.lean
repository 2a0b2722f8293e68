/- Package ratio's operations at rational numbers of at most 140 digits, as the walks ask for them. -/
import Derived.Test.YtfaibifilpfikaaGreatDoorD
namespace Go.Proofs.YtfaibifilpfikaaGreatDoor.P5
open Go.Proofs.YtfaibifilpfikaaGreatDoorW.PrintWords Go.Proofs.YtfaibifilpfikaaGreatDoor.A Go.Proofs.YtfaibifilpfikaaGreatDoor.N10 Go.Proofs.YtfaibifilpfikaaGreatDoor.N11 Go.Proofs.YtfaibifilpfikaaGreatDoor.X2 Go.Proofs.YtfaibifilpfikaaGreatDoor.C Go.Proofs.YtfaibifilpfikaaGreatDoor.D Go.Proofs.YtfaibifilpfikaaGreatDoor.N12 Go.Proofs.YtfaibifilpfikaaGreatDoor.N13 Go.Proofs.YtfaibifilpfikaaGreatDoor.N14 Go.Proofs.YtfaibifilpfikaaGreatDoor.N15 Go.Proofs.YtfaibifilpfikaaGreatDoor.N16 Go.Proofs.YtfaibifilpfikaaGreatDoor.N18 Go.Proofs.YtfaibifilpfikaaGreatDoor.P1 Go.Proofs.YtfaibifilpfikaaGreatDoor.P2 Go.Proofs.YtfaibifilpfikaaGreatDoor.P3 Go.Proofs.YtfaibifilpfikaaGreatDoor.P4
open Rq Go.RowKit
set_option linter.unusedVariables false
set_option linter.unusedSimpArgs false

/-! ### Short -/
def isShort (most : Int) (r : S23) : Bool := decide ((r.f1.size : Int) ≤ most) && decide ((r.f2.size : Int) ≤ most)
theorem short_l0 (most : Int) (l : List S23) (hl : l.length ≤ 1000) : ∀ (d k i : Nat), i ≤ l.length → l.length - i = d → d < k → customhouseref05_Short.l0 k most l (i : Int) = some ((l.drop i).all (isShort most))
  | 0, k, i, hi, hd, hk => by
    obtain ⟨k, rfl⟩ : ∃ m, k = m + 1 := ⟨k - 1, by omega⟩
    simp only [customhouseref05_Short.l0]
    rw [if_neg (by omega), List.drop_eq_nil_of_le (by omega)]
    rfl
  | d + 1, k, i, hi, hd, hk => by
    obtain ⟨k, rfl⟩ : ∃ m, k = m + 1 := ⟨k - 1, by omega⟩
    simp only [customhouseref05_Short.l0]
    have hlt : i < l.length := by omega
    have hrd : rd_T23 l (i : Int) = l[i] := by
      unfold rd_T23
      rw [Int.toNat_natCast, List.getD_eq_getElem?_getD, List.getElem?_eq_getElem hlt]; rfl
    rw [if_pos (by omega), if_pos (by omega), hrd, List.drop_eq_getElem_cons hlt, List.all_cons]
    have ih := short_l0 most l hl d k (i + 1) (by omega) (by omega) (by omega)
    have hw : wrap64 ((i : Int) + 1) = ((i + 1 : Nat) : Int) := by unfold wrap64; omega
    rw [hw, ih]
    unfold isShort
    by_cases h1 : ((l[i].f1.size : Nat) : Int) > most
    · rw [if_pos h1, decide_eq_false (by omega)]; rfl
    · rw [if_neg h1, decide_eq_true (by omega)]
      by_cases h2 : ((l[i].f2.size : Nat) : Int) > most
      · rw [if_pos h2, decide_eq_false (by omega)]; rfl
      · rw [if_neg h2, decide_eq_true (by omega)]; rfl
theorem short_f (k : Nat) (most : Int) (l : List S23) (hl : l.length ≤ 100) (hk : 101 < k) : customhouselaw05_short.f k most l = some (l.all (isShort most)) := by
  unfold customhouselaw05_short.f customhouseref05_Short.f
  rw [show (0 : Int) = ((0 : Nat) : Int) from rfl, short_l0 most l (by omega) l.length k 0 (by omega) (by omega) (by omega), List.drop_zero]
  rfl
theorem short_one {k : Nat} (hk : 101 < k) (most : Int) (a : S23) : customhouselaw05_short.f k most [a] = some (isShort most a) := by
  rw [short_f k most [a] (by simp) hk]
  simp
theorem short_two {k : Nat} (hk : 101 < k) (most : Int) (a b : S23) : customhouselaw05_short.f k most [a, b] = some (isShort most a && isShort most b) := by
  rw [short_f k most [a, b] (by simp) hk]
  simp
theorem short_three {k : Nat} (hk : 101 < k) (most : Int) (a b c : S23) : customhouselaw05_short.f k most [a, b, c] = some (isShort most a && isShort most b && isShort most c) := by
  rw [short_f k most [a, b, c] (by simp) hk]
  simp [Bool.and_assoc]
theorem isShort_iff {m : Nat} {a : S23} : isShort (m : Int) a = true ↔ a.f1.size ≤ m ∧ a.f2.size ≤ m := by
  unfold isShort
  rw [Bool.and_eq_true, decide_eq_true_eq, decide_eq_true_eq]
  omega
theorem valid_f2 {k : Nat} (hk : 0 < k) (a : S23) : ratio_Valid.f k a.f0 a.f1 a.f2 = some (vld a) := by
  obtain ⟨k, rfl⟩ : ∃ m, k = m + 1 := ⟨k - 1, by omega⟩
  exact valid_f k a.f0 a.f1 a.f2

/-! ### Compare -/
theorem res_eq {z : Bool} {a b : S23} {q : Rat} (ha : vld a = true) (hb : vld b = true) (h0 : ¬ (z = true ∧ q23 b = 0)) (sa : sm a = true) (sb : sm b = true) : res z a b q = enc q := by
  unfold res
  rw [if_pos (show vld a = true ∧ vld b = true from ⟨ha, hb⟩), if_neg h0, if_pos (show sm a = true ∧ sm b = true from ⟨sa, sb⟩)]
theorem compare_f (a b : S23) : ratio_Compare.f a.f0 a.f1 a.f2 b.f0 b.f1 b.f2 = some (cmpR2 a b) := by
  unfold ratio_Compare.f cmpR2
  rw [sub_f, Option.bind_some]
  by_cases hv : vld a = true ∧ vld b = true
  · by_cases hs : sm a = true ∧ sm b = true
    · rw [if_pos hv, if_pos hs, res_eq hv.1 hv.2 (fun h => by cases h.1) hs.1 hs.2]
      unfold enc cmpQ
      simp only
      rw [if_pos trivial, eS_sub]
      by_cases hl : q23 a < q23 b
      · rw [if_pos hl, decide_eq_true hl, if_pos rfl]
      · rw [if_neg hl, decide_eq_false hl, if_neg (by decide)]
        by_cases he : q23 a = q23 b
        · rw [if_pos he, if_pos (list_eN.2 ((sub_zero_iff _ _).2 he))]
        · rw [if_neg he, if_neg (fun h => he ((sub_zero_iff _ _).1 (list_eN.1 h)))]
    · have e : res false a b (q23 a - q23 b) = bad 2 := by
        unfold res
        rw [if_pos hv, if_neg (fun h => by cases h.1), if_neg hs]
      rw [if_pos hv, if_neg hs, e]; rfl
  · have e : res false a b (q23 a - q23 b) = bad 1 := by
      unfold res
      rw [if_neg hv]
    rw [if_neg hv, e]; rfl
theorem cmpR2_eq {a b : S23} (ha : vld a = true) (hb : vld b = true) (sa : sm a = true) (sb : sm b = true) : cmpR2 a b = (cmpQ (q23 a) (q23 b), 0) := by
  unfold cmpR2
  rw [if_pos (show vld a = true ∧ vld b = true from ⟨ha, hb⟩), if_pos (show sm a = true ∧ sm b = true from ⟨sa, sb⟩)]

/-! ### Of, at an integer -/
def int64 (n : Int) : Prop := -9223372036854775808 ≤ n ∧ n ≤ 9223372036854775807
theorem divInt_one (n : Int) : Rat.divInt n 1 = (n : Rat) := by
  rw [show (1 : Int) = ((1 : Nat) : Int) from rfl, Rat.divInt_ofNat, Rat.mkRat_eq_div]
  rw [Rat.div_def]
  have : ((1 : Nat) : Rat)⁻¹ = 1 := by decide +kernel
  rw [this, Rat.mul_one]
theorem of_eq {num den : Int} (hn : int64 num) (hd : int64 den) (h0 : den ≠ 0) : ratio_Of.f num den = some (enc (Rat.divInt num den)) := by
  unfold ratio_Of.f ofR
  rw [if_pos ⟨hn.1, hn.2, hd.1, hd.2⟩, if_neg h0]
theorem of_one {n : Int} (h : int64 n) : ratio_Of.f n 1 = some (enc (n : Rat)) := by
  rw [of_eq h ⟨by decide, by decide⟩ (by decide), divInt_one]
theorem lawof_eq {num den : Int} (hn : int64 num) (hd : int64 den) (h0 : den ≠ 0) : customhouselaw05_of.f num den = some (eS (Rat.divInt num den), eN (Rat.divInt num den), eD (Rat.divInt num den)) := by
  unfold customhouselaw05_of.f
  rw [of_eq hn hd h0]; rfl
theorem lawof_one {n : Int} (h : int64 n) : customhouselaw05_of.f n 1 = some (eS (n : Rat), eN (n : Rat), eD (n : Rat)) := by
  rw [lawof_eq h ⟨by decide, by decide⟩ (by decide), divInt_one]
theorem sz_int64 {n : Int} (h : int64 n) : Sz (n : Rat) 19 := sz_int n (small_abs h.1 h.2) (by decide)
theorem vld_sz {q : Rat} {k : Nat} (h : Sz q k) (hk : k ≤ 300) : vld (encS q) = true := vld_encS (h.le hk)
theorem sm_sz {q : Rat} {k : Nat} (h : Sz q k) (hk : k ≤ 140) : sm (encS q) = true := sm_encS (h.le hk)
theorem floorR_int {n : Int} (h : int64 n) : floorR (encS (n : Rat)) = (n, 0) := by
  unfold floorR inInt
  rw [if_pos (vld_sz (sz_int64 h) (by decide)), q23_encS, Rat.floor_intCast, decide_eq_true h.1, decide_eq_true h.2]
  rfl
theorem inInt_iff {n : Int} : inInt n = true ↔ int64 n := by
  unfold inInt int64
  rw [Bool.and_eq_true, decide_eq_true_eq, decide_eq_true_eq]
end Go.Proofs.YtfaibifilpfikaaGreatDoor.P5

namespace Go.Proofs.YtfaibifilpfikaaGreatDoor.P7
open Go.Proofs.YtfaibifilpfikaaGreatDoorW.PrintWords Go.Proofs.YtfaibifilpfikaaGreatDoor.A Go.Proofs.YtfaibifilpfikaaGreatDoor.N10 Go.Proofs.YtfaibifilpfikaaGreatDoor.N11 Go.Proofs.YtfaibifilpfikaaGreatDoor.X2 Go.Proofs.YtfaibifilpfikaaGreatDoor.C Go.Proofs.YtfaibifilpfikaaGreatDoor.D Go.Proofs.YtfaibifilpfikaaGreatDoor.N12 Go.Proofs.YtfaibifilpfikaaGreatDoor.N13 Go.Proofs.YtfaibifilpfikaaGreatDoor.N14 Go.Proofs.YtfaibifilpfikaaGreatDoor.N15 Go.Proofs.YtfaibifilpfikaaGreatDoor.N16 Go.Proofs.YtfaibifilpfikaaGreatDoor.N18 Go.Proofs.YtfaibifilpfikaaGreatDoor.P1 Go.Proofs.YtfaibifilpfikaaGreatDoor.P2 Go.Proofs.YtfaibifilpfikaaGreatDoor.P3 Go.Proofs.YtfaibifilpfikaaGreatDoor.P4 Go.Proofs.YtfaibifilpfikaaGreatDoor.P5
open Rq Go.RowKit
set_option linter.unusedVariables false
set_option linter.unusedSimpArgs false

theorem no_zero {q : Rat} : ¬ (false = true ∧ q = 0) := fun h => by cases h.1
theorem res_q {z : Bool} {p q r : Rat} (hp : Sz p 140) (hq : Sz q 140) (h0 : ¬ (z = true ∧ q = 0)) : res z (encS p) (encS q) r = enc r :=
  res_eq (vld_sz hp (by decide)) (vld_sz hq (by decide)) (by rw [q23_encS]; exact h0) (sm_sz hp (by decide)) (sm_sz hq (by decide))
theorem add_q {p q : Rat} (hp : Sz p 140) (hq : Sz q 140) : ratio_Add.f (eS p) (eN p) (eD p) (eS q) (eN q) (eD q) = some (eS (p + q), eN (p + q), eD (p + q), 0) := by
  have h := add_f (encS p) (encS q)
  rw [q23_encS, q23_encS, res_q hp hq no_zero] at h
  exact h
theorem sub_q {p q : Rat} (hp : Sz p 140) (hq : Sz q 140) : ratio_Sub.f (eS p) (eN p) (eD p) (eS q) (eN q) (eD q) = some (eS (p - q), eN (p - q), eD (p - q), 0) := by
  have h := sub_f (encS p) (encS q)
  rw [q23_encS, q23_encS, res_q hp hq no_zero] at h
  exact h
theorem mul_q {p q : Rat} (hp : Sz p 140) (hq : Sz q 140) : ratio_Mul.f (eS p) (eN p) (eD p) (eS q) (eN q) (eD q) = some (eS (p * q), eN (p * q), eD (p * q), 0) := by
  have h := mul_f (encS p) (encS q)
  rw [q23_encS, q23_encS, res_q hp hq no_zero] at h
  exact h
theorem div_q {p q : Rat} (hp : Sz p 140) (hq : Sz q 140) (h0 : q ≠ 0) : ratio_Div.f (eS p) (eN p) (eD p) (eS q) (eN q) (eD q) = some (eS (p / q), eN (p / q), eD (p / q), 0) := by
  have h := div_f' (encS p) (encS q)
  rw [q23_encS, q23_encS, res_q hp hq (fun h => h0 h.2)] at h
  exact h
theorem div_q0 {p : Rat} (hp : Sz p 140) : ratio_Div.f (eS p) (eN p) (eD p) (eS 0) (eN 0) (eD 0) = some (false, ⟨#[]⟩, ⟨#[]⟩, 15) := by
  have h := div_f' (encS p) (encS 0)
  have hz : Sz (0 : Rat) 140 := ⟨by show 0 < _; exact Nat.pow_pos (by decide), by show 1 < _; exact Nat.lt_of_lt_of_le (show 1 < 10 ^ 1 by decide) (Nat.pow_le_pow_right (by decide) (by decide))⟩
  have e : res true (encS p) (encS 0) (q23 (encS p) / q23 (encS 0)) = bad 15 := by
    unfold res
    rw [if_pos (show vld (encS p) = true ∧ vld (encS 0) = true from ⟨vld_sz hp (by decide), vld_sz hz (by decide)⟩), if_pos ⟨rfl, q23_encS 0⟩]
  rw [e] at h
  exact h
theorem cmp_q {p q : Rat} (hp : Sz p 140) (hq : Sz q 140) : ratio_Compare.f (eS p) (eN p) (eD p) (eS q) (eN q) (eD q) = some (cmpQ p q, 0) := by
  have h := compare_f (encS p) (encS q)
  rw [cmpR2_eq (vld_sz hp (by decide)) (vld_sz hq (by decide)) (sm_sz hp (by decide)) (sm_sz hq (by decide)), q23_encS, q23_encS] at h
  exact h
theorem valid_q {p : Rat} (hp : Sz p 300) : ratio_Valid.f 1 (eS p) (eN p) (eD p) = some true := by
  have h := valid_f2 (k := 1) (by decide) (encS p)
  rw [vld_encS hp] at h
  exact h
theorem zero_enc {q : Rat} : (!eS q && ((eN q).toList == [48] && (eD q).toList == [49])) = false ↔ q ≠ 0 := by
  constructor
  · intro h e
    subst e
    revert h
    decide +kernel
  · intro h
    have : ((eN q).toList == [48]) = false := beq_eq_false_iff_ne.2 (fun e => h (list_eN.1 e))
    rw [this, Bool.false_and, Bool.and_false]
theorem enc_zero : eS 0 = false ∧ eN 0 = ⟨#[48]⟩ ∧ eD 0 = ⟨#[49]⟩ := by decide +kernel
/-- A valid number of at most k digits is a rational number's text. -/
theorem of_short {a : S23} (hv : vld a = true) {k : Nat} (hs : isShort (k : Int) a = true) : ∃ q : Rat, Sz q k ∧ a = encS q := by
  have h := isShort_iff.1 hs
  exact ⟨q23 a, sz_q23 hv h.1 h.2, (encS_q23 hv).symm⟩
end Go.Proofs.YtfaibifilpfikaaGreatDoor.P7
