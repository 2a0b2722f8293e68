/- Rational numbers as they are written: a sign and two numerals; plain, no program in sight. -/
import Derived.Lib.ItoaNum
set_option linter.unusedVariables false
set_option linter.unusedSimpArgs false
namespace Nb
open Go.Lib

/-! ### Limbs, the least significant one first -/
def val : List Nat → Nat
  | [] => 0
  | a :: r => a + 1000000000 * val r
def Ok (l : List Nat) : Prop := ∀ x ∈ l, x < 1000000000
def trim : List Nat → List Nat
  | [] => []
  | a :: r => if trim r = [] ∧ a = 0 then [] else a :: trim r
def limbs (n : Nat) : List Nat := if h : n = 0 then [] else n % 1000000000 :: limbs (n / 1000000000)
termination_by n
decreasing_by omega
theorem limbs_zero : limbs 0 = [] := by rw [limbs, dif_pos rfl]
theorem limbs_pos {n : Nat} (h : n ≠ 0) : limbs n = n % 1000000000 :: limbs (n / 1000000000) := by rw [limbs, dif_neg h]
theorem limbs_cons {a v : Nat} (ha : a < 1000000000) (h : a + 1000000000 * v ≠ 0) : limbs (a + 1000000000 * v) = a :: limbs v := by
  rw [limbs_pos h, show (a + 1000000000 * v) % 1000000000 = a by omega, show (a + 1000000000 * v) / 1000000000 = v by omega]
theorem val_limbs (n : Nat) : val (limbs n) = n := by
  induction n using Nat.strongRecOn with
  | _ n ih =>
    by_cases h : n = 0
    · subst h; rw [limbs_zero]; rfl
    · rw [limbs_pos h, val, ih (n / 1000000000) (by omega)]; omega
theorem ok_limbs (n : Nat) : Ok (limbs n) := by
  induction n using Nat.strongRecOn with
  | _ n ih =>
    by_cases h : n = 0
    · subst h; rw [limbs_zero]; intro x hx; cases hx
    · rw [limbs_pos h]
      intro x hx
      rcases List.mem_cons.1 hx with rfl | hx
      · omega
      · exact ih (n / 1000000000) (by omega) x hx
theorem limbs_nil {n : Nat} : limbs n = [] ↔ n = 0 := by
  constructor
  · intro h
    have := val_limbs n
    rw [h] at this
    exact this.symm
  · rintro rfl; exact limbs_zero
theorem Ok.tail {a : Nat} {r : List Nat} (h : Ok (a :: r)) : Ok r := fun x hx => h x (List.mem_cons_of_mem _ hx)
theorem Ok.head {a : Nat} {r : List Nat} (h : Ok (a :: r)) : a < 1000000000 := h a List.mem_cons_self
theorem Ok.append {l m : List Nat} (h : Ok l) (k : Ok m) : Ok (l ++ m) := fun x hx => (List.mem_append.1 hx).elim (h x) (k x)
theorem trim_limbs {l : List Nat} (h : Ok l) : trim l = limbs (val l) := by
  induction l with
  | nil => exact limbs_zero.symm
  | cons a r ih =>
    have ha := h.head
    rw [trim, ih h.tail, val]
    by_cases hv : val r = 0
    · rw [hv, limbs_zero, Nat.mul_zero, Nat.add_zero]
      by_cases h0 : a = 0
      · subst h0; rw [if_pos ⟨rfl, rfl⟩, limbs_zero]
      · rw [if_neg (fun e => h0 e.2), limbs_pos h0, Nat.mod_eq_of_lt ha, Nat.div_eq_of_lt ha, limbs_zero]
    · have hl : limbs (val r) ≠ [] := fun e => hv (limbs_nil.1 e)
      rw [if_neg (fun e => hl e.1), limbs_cons ha (by omega)]
theorem limbs_val {l : List Nat} (h : Ok l) (hl : l.getLast? ≠ some 0) : limbs (val l) = l := by
  induction l with
  | nil => exact limbs_zero
  | cons a r ih =>
    have ha := h.head
    rw [val]
    cases r with
    | nil =>
      have h0 : a ≠ 0 := fun e => hl (by rw [e]; rfl)
      rw [show val [] = 0 from rfl, Nat.mul_zero, Nat.add_zero, limbs_pos h0, Nat.mod_eq_of_lt ha, Nat.div_eq_of_lt ha, limbs_zero]
    | cons b t =>
      have ih' := ih h.tail (by rw [List.getLast?_cons_cons] at hl; exact hl)
      have hv : val (b :: t) ≠ 0 := fun e => by rw [e, limbs_zero] at ih'; cases ih'
      rw [limbs_cons ha (by omega), ih']
theorem limbs_last (n : Nat) : (limbs n).getLast? ≠ some 0 := by
  induction n using Nat.strongRecOn with
  | _ n ih =>
    by_cases h : n = 0
    · subst h; rw [limbs_zero]; intro e; cases e
    · rw [limbs_pos h]
      by_cases h2 : n / 1000000000 = 0
      · rw [h2, limbs_zero]
        intro e
        have : n % 1000000000 = 0 := by simpa using e
        omega
      · have := ih (n / 1000000000) (by omega)
        rw [limbs_pos h2, List.getLast?_cons_cons, ← limbs_pos h2]
        exact this
theorem val_lt {l : List Nat} (h : Ok l) : val l < 1000000000 ^ l.length := by
  induction l with
  | nil => simp [val]
  | cons a r ih =>
    have := ih h.tail
    have ha := h.head
    rw [val, List.length_cons, Nat.pow_succ]
    omega
theorem limbs_length_le {n k : Nat} (h : n < 1000000000 ^ k) : (limbs n).length ≤ k := by
  induction k generalizing n with
  | zero =>
    have : n = 0 := by simpa using h
    subst this; rw [limbs_zero]; exact Nat.le_refl _
  | succ k ih =>
    by_cases h0 : n = 0
    · subst h0; rw [limbs_zero]; exact Nat.zero_le _
    · rw [limbs_pos h0, List.length_cons]
      rw [Nat.pow_succ] at h
      have := ih (n := n / 1000000000) (by omega)
      omega
theorem pow_le_of_limbs {n k : Nat} (h : k < (limbs n).length) : 1000000000 ^ k ≤ n := by
  refine Nat.le_of_not_lt fun hlt => ?_
  have := limbs_length_le hlt
  omega
theorem val_append (l m : List Nat) : val (l ++ m) = val l + 1000000000 ^ l.length * val m := by
  induction l with
  | nil => simp [val]
  | cons a r ih => rw [List.cons_append, val, ih, val, List.length_cons, Nat.pow_succ, Nat.mul_add, Nat.mul_assoc, Nat.add_assoc, Nat.mul_left_comm]

/-! ### Decimal numerals -/
def dig (c : UInt8) : Bool := decide (48 ≤ c.toNat) && decide (c.toNat ≤ 57)
def dv (l : List UInt8) : Nat := l.foldl (fun a c => a * 10 + (c.toNat - 48)) 0
theorem foldl_dv (l : List UInt8) : ∀ a : Nat, l.foldl (fun a c => a * 10 + (c.toNat - 48)) a = a * 10 ^ l.length + dv l := by
  unfold dv
  induction l with
  | nil => intro a; simp
  | cons c r ih =>
    intro a
    rw [List.foldl_cons, ih, List.foldl_cons, ih (0 * 10 + (c.toNat - 48)), List.length_cons, Nat.pow_succ, Nat.zero_mul, Nat.zero_add, Nat.add_mul, Nat.mul_assoc, Nat.mul_comm 10, Nat.add_assoc]
theorem dv_append (l m : List UInt8) : dv (l ++ m) = dv l * 10 ^ m.length + dv m := by
  conv => lhs; unfold dv
  rw [List.foldl_append, foldl_dv]
  rfl
theorem dv_snoc (l : List UInt8) (c : UInt8) : dv (l ++ [c]) = dv l * 10 + (c.toNat - 48) := by
  rw [dv_append]
  show dv l * 10 ^ 1 + (0 * 10 + (c.toNat - 48)) = _
  omega
theorem snoc_ind {α : Type} {P : List α → Prop} (h0 : P []) (h1 : ∀ r c, P r → P (r ++ [c])) (l : List α) : P l := by
  have : ∀ m : List α, P m.reverse := fun m => by
    induction m with
    | nil => exact h0
    | cons c r ih => rw [List.reverse_cons]; exact h1 _ c ih
  have := this l.reverse
  rwa [List.reverse_reverse] at this
theorem dv_lt {l : List UInt8} (h : ∀ c ∈ l, dig c = true) : dv l < 10 ^ l.length := by
  revert h
  refine snoc_ind (P := fun l => (∀ c ∈ l, dig c = true) → dv l < 10 ^ l.length) (fun _ => by decide) ?_ l
  intro r c ih h
  have hc : c.toNat ≤ 57 := by
    have := h c (by simp)
    unfold dig at this
    simp only [Bool.and_eq_true, decide_eq_true_eq] at this
    exact this.2
  have := ih (fun x hx => h x (by simp [hx]))
  rw [dv_snoc, List.length_append, List.length_singleton, Nat.pow_succ]
  omega
/-- A natural number as it is written. -/
def num (l : List UInt8) : Bool := l.all dig && (decide (l.length = 1) || (decide (1 < l.length) && decide (l.head? ≠ some 48)))
theorem digit_toNat {u : Nat} (h : u < 10) : (UInt8.ofNat (48 + u)).toNat = 48 + u := by
  rw [UInt8.toNat_ofNat']; omega
theorem dig_of {u : Nat} (h : u < 10) : dig (UInt8.ofNat (48 + u)) = true := by
  unfold dig; rw [digit_toNat h]; simp; omega
theorem dec_small {u : Nat} (h : u < 10) : decDigits u = [UInt8.ofNat (48 + u)] := by rw [decDigits, dif_pos h]
theorem dec_big {u : Nat} (h : ¬ u < 10) : decDigits u = decDigits (u / 10) ++ [UInt8.ofNat (48 + u % 10)] := by rw [decDigits, dif_neg h]
theorem dv_dec (u : Nat) : dv (decDigits u) = u := by
  induction u using Nat.strongRecOn with
  | _ u ih =>
    by_cases h : u < 10
    · rw [dec_small h]
      show 0 * 10 + ((UInt8.ofNat (48 + u)).toNat - 48) = u
      rw [digit_toNat h]; omega
    · rw [dec_big h, dv_snoc, ih (u / 10) (by omega), digit_toNat (by omega)]; omega
theorem dec_digs (u : Nat) : ∀ c ∈ decDigits u, dig c = true := by
  induction u using Nat.strongRecOn with
  | _ u ih =>
    by_cases h : u < 10
    · rw [dec_small h]
      intro c hc
      obtain rfl := List.mem_singleton.1 hc
      exact dig_of h
    · rw [dec_big h]
      intro c hc
      rcases List.mem_append.1 hc with hc | hc
      · exact ih (u / 10) (by omega) c hc
      · obtain rfl := List.mem_singleton.1 hc
        exact dig_of (by omega)
theorem dec_ne (u : Nat) : decDigits u ≠ [] := by
  intro e
  have := decDigits_length u
  rw [e] at this
  have := nDigits_pos u
  simp at *
  omega
theorem dec_head (u : Nat) (h : u ≠ 0) : (decDigits u).head? ≠ some 48 := by
  induction u using Nat.strongRecOn with
  | _ u ih =>
    by_cases h1 : u < 10
    · rw [dec_small h1]
      intro e
      have e1 : UInt8.ofNat (48 + u) = 48 := by simpa using e
      have := congrArg UInt8.toNat e1
      rw [digit_toNat h1] at this
      have h48 : (48 : UInt8).toNat = 48 := rfl
      omega
    · rw [dec_big h1, List.head?_append]
      have := ih (u / 10) (by omega) (by omega)
      cases hh : (decDigits (u / 10)).head? with
      | none => exact absurd (List.head?_eq_none_iff.1 hh) (dec_ne _)
      | some x => rw [hh] at this; simpa using this
theorem num_dec (u : Nat) : num (decDigits u) = true := by
  unfold num
  rw [Bool.and_eq_true]
  refine ⟨List.all_eq_true.2 (dec_digs u), ?_⟩
  by_cases h : u < 10
  · rw [dec_small h]; rfl
  · have hl := decDigits_length u
    rw [nDigits_big h] at hl
    have := nDigits_pos (u / 10)
    have hh := dec_head u (by omega)
    simp only [Bool.or_eq_true, Bool.and_eq_true, decide_eq_true_eq]
    exact .inr ⟨by omega, hh⟩
theorem num_parts {l : List UInt8} (h : num l = true) : (∀ c ∈ l, dig c = true) ∧ l ≠ [] ∧ (l.length = 1 ∨ l.head? ≠ some 48) := by
  unfold num at h
  simp only [Bool.and_eq_true, Bool.or_eq_true, decide_eq_true_eq, List.all_eq_true] at h
  refine ⟨h.1, ?_, ?_⟩
  · rintro rfl
    simp at h
  · rcases h.2 with h2 | h2
    · exact .inl h2
    · exact .inr h2.2
theorem num_of {l : List UInt8} (h : ∀ c ∈ l, dig c = true) (hn : l ≠ []) (hh : l.length = 1 ∨ l.head? ≠ some 48) : num l = true := by
  unfold num
  simp only [Bool.and_eq_true, Bool.or_eq_true, decide_eq_true_eq, List.all_eq_true]
  refine ⟨h, ?_⟩
  have : 0 < l.length := List.length_pos_iff.2 hn
  rcases hh with hh | hh
  · exact .inl hh
  · by_cases h1 : l.length = 1
    · exact .inl h1
    · exact .inr ⟨by omega, hh⟩
theorem dig_le {c : UInt8} (h : dig c = true) : 48 ≤ c.toNat ∧ c.toNat ≤ 57 := by
  unfold dig at h
  simpa only [Bool.and_eq_true, decide_eq_true_eq] using h
theorem dig_back {c : UInt8} (h : dig c = true) : UInt8.ofNat (48 + (c.toNat - 48)) = c := by
  have := dig_le h
  rw [show 48 + (c.toNat - 48) = c.toNat by omega, UInt8.ofNat_toNat]
theorem dv_pos {l : List UInt8} (h : ∀ c ∈ l, dig c = true) (hn : l ≠ []) (hh : l.head? ≠ some 48) : 10 ^ (l.length - 1) ≤ dv l := by
  cases l with
  | nil => exact absurd rfl hn
  | cons c r =>
    have hc := dig_le (h c List.mem_cons_self)
    have h48 : c.toNat ≠ 48 := fun e => hh (by rw [List.head?_cons]; exact congrArg some (UInt8.toNat_inj.1 e))
    rw [show c :: r = [c] ++ r from rfl, dv_append, List.length_append, List.length_singleton, show 1 + r.length - 1 = r.length by omega]
    have h1 : 1 ≤ dv [c] := by
      show 1 ≤ 0 * 10 + (c.toNat - 48)
      omega
    have := Nat.mul_le_mul_right (10 ^ r.length) h1
    omega
theorem dec_dv {l : List UInt8} (h : num l = true) : decDigits (dv l) = l := by
  obtain ⟨h1, h2, h3⟩ := num_parts h
  clear h
  revert h1 h2 h3
  refine snoc_ind (P := fun l => (∀ c ∈ l, dig c = true) → l ≠ [] → (l.length = 1 ∨ l.head? ≠ some 48) → decDigits (dv l) = l) (fun _ h2 => absurd rfl h2) ?_ l
  · intro r c ih h1 h2 h3
    have hc := h1 c (by simp)
    have hcl := dig_le hc
    rw [dv_snoc]
    by_cases hr : r = []
    · subst hr
      rw [show dv [] = 0 from rfl, dec_small (by omega), Nat.zero_mul, Nat.zero_add, dig_back hc]
      rfl
    · have hh : r.head? ≠ some 48 := by
        rcases h3 with h3 | h3
        · rw [List.length_append, List.length_singleton] at h3
          have := List.length_pos_iff.2 hr
          omega
        · rw [List.head?_append] at h3
          cases hx : r.head? with
          | none => exact absurd (List.head?_eq_none_iff.1 hx) hr
          | some x => rw [hx] at h3; simpa using h3
      have hp := dv_pos (fun x hx => h1 x (by simp [hx])) hr hh
      have hp1 : 1 ≤ 10 ^ (r.length - 1) := Nat.one_le_pow _ _ (by decide)
      have ih' := ih (fun x hx => h1 x (by simp [hx])) hr (.inr hh)
      rw [dec_big (by omega), show (dv r * 10 + (c.toNat - 48)) / 10 = dv r by omega, show (dv r * 10 + (c.toNat - 48)) % 10 = c.toNat - 48 by omega, ih', dig_back hc]
theorem dv_inj {l m : List UInt8} (h : num l = true) (k : num m = true) (e : dv l = dv m) : l = m := by
  rw [← dec_dv h, ← dec_dv k, e]
theorem nDigits_le {u k : Nat} (h : u < 10 ^ (k + 1)) : nDigits u ≤ k + 1 := by
  induction k generalizing u with
  | zero => rw [nDigits_small (by simpa using h)]; exact Nat.le_refl _
  | succ k ih =>
    by_cases h1 : u < 10
    · rw [nDigits_small h1]; omega
    · rw [nDigits_big h1]
      rw [Nat.pow_succ] at h
      have := ih (u := u / 10) (by omega)
      omega
theorem nDigits_le_iff {u k : Nat} : nDigits u ≤ k + 1 ↔ u < 10 ^ (k + 1) := by
  constructor
  · intro h
    exact Nat.lt_of_lt_of_le (lt_pow_nDigits u) (Nat.pow_le_pow_right (by decide) h)
  · exact nDigits_le
/-! ### Nine digits at a time -/
def pad (u : Nat) : List UInt8 := List.replicate (9 - (decDigits u).length) 48 ++ decDigits u
theorem dv_zeros (k : Nat) : dv (List.replicate k 48) = 0 := by
  induction k with
  | zero => rfl
  | succ k ih => rw [List.replicate_succ', dv_snoc, ih]; rfl
theorem dv_pad (u : Nat) : dv (pad u) = u := by
  unfold pad
  rw [dv_append, dv_zeros, dv_dec]; omega
theorem dec_len9 {u : Nat} (h : u < 1000000000) : (decDigits u).length ≤ 9 := by
  rw [decDigits_length]; exact nDigits_le (k := 8) (by omega)
theorem pad_length {u : Nat} (h : u < 1000000000) : (pad u).length = 9 := by
  have := dec_len9 h
  unfold pad
  rw [List.length_append, List.length_replicate]; omega
theorem pad_digs (u : Nat) : ∀ c ∈ pad u, dig c = true := by
  unfold pad
  intro c hc
  rcases List.mem_append.1 hc with hc | hc
  · obtain rfl := List.eq_of_mem_replicate hc; rfl
  · exact dec_digs u c hc
theorem dec_pad {a v : Nat} (ha : a < 1000000000) (hv : v ≠ 0) : decDigits (a + 1000000000 * v) = decDigits v ++ pad a := by
  have hn : num (decDigits v ++ pad a) = true := by
    refine num_of ?_ ?_ (.inr ?_)
    · intro c hc
      exact (List.mem_append.1 hc).elim (dec_digs v c) (pad_digs a c)
    · intro e
      exact dec_ne v (List.append_eq_nil_iff.1 e).1
    · rw [List.head?_append]
      cases hh : (decDigits v).head? with
      | none => exact absurd (List.head?_eq_none_iff.1 hh) (dec_ne v)
      | some x => have := dec_head v hv; rw [hh] at this; simpa using this
  have hd : dv (decDigits v ++ pad a) = a + 1000000000 * v := by
    rw [dv_append, dv_dec, dv_pad, pad_length ha]; omega
  rw [← hd, dec_dv hn]
/-! ### Order, by the limbs -/
theorem val_split (l : List Nat) (i : Nat) (h : i < l.length) : val l = val (l.take i) + 1000000000 ^ i * (l[i] + 1000000000 * val (l.drop (i + 1))) := by
  conv => lhs; rw [← List.take_append_drop i l, List.drop_eq_getElem_cons h, val_append, val, List.length_take, Nat.min_eq_left (by omega)]
theorem Ok.take {l : List Nat} (h : Ok l) (i : Nat) : Ok (l.take i) := fun x hx => h x (List.mem_of_mem_take hx)
theorem Ok.drop {l : List Nat} (h : Ok l) (i : Nat) : Ok (l.drop i) := fun x hx => h x (List.mem_of_mem_drop hx)
theorem val_lt_at {l m : List Nat} (hl : Ok l) {i : Nat} (h : i < l.length) (k : i < m.length) (hd : l.drop (i + 1) = m.drop (i + 1)) (hlt : l[i] < m[i]) : val l < val m := by
  rw [val_split l i h, val_split m i k, hd]
  have h1 := val_lt (hl.take i)
  rw [List.length_take, Nat.min_eq_left (by omega)] at h1
  have h2 : 1000000000 ^ i * (l[i] + 1000000000 * val (m.drop (i + 1)) + 1) ≤ 1000000000 ^ i * (m[i] + 1000000000 * val (m.drop (i + 1))) := Nat.mul_le_mul_left _ (by omega)
  rw [Nat.mul_add] at h2
  omega
theorem limbs_len_lt {a b : Nat} (h : (limbs a).length < (limbs b).length) : a < b := by
  have h1 := val_lt (ok_limbs a)
  rw [val_limbs] at h1
  have h2 := pow_le_of_limbs h
  omega
/-! ### Division, limb by limb -/
theorem div_step (a v M : Nat) : (a + 1000000000 * v) / M = (a + 1000000000 * (v % M)) / M + 1000000000 * (v / M) ∧ (a + 1000000000 * v) % M = (a + 1000000000 * (v % M)) % M := by
  by_cases hM : M = 0
  · subst hM; simp
  have e : a + 1000000000 * v = (a + 1000000000 * (v % M)) + M * (1000000000 * (v / M)) := by
    have := Nat.div_add_mod v M
    conv => lhs; rw [← this]
    rw [Nat.mul_add, Nat.mul_left_comm]; omega
  rw [e, Nat.add_mul_div_left _ _ (by omega), Nat.add_mul_mod_self_left]
  have : a + 1000000000 * (v % M) + M * (1000000000 * (v / M)) = a + 1000000000 * v := e.symm
  exact ⟨rfl, rfl⟩
theorem div_small {a r M : Nat} (ha : a < 1000000000) (hr : r < M) : (a + 1000000000 * r) / M < 1000000000 := by
  rw [Nat.div_lt_iff_lt_mul (by omega)]
  have : 1000000000 * (r + 1) ≤ 1000000000 * M := Nat.mul_le_mul_left _ hr
  omega
/-! ### Nine digits at a time, from the end -/
def chunks (l : List UInt8) (e : Nat) : List Nat := if h : e = 0 then [] else dv ((l.take e).drop (e - 9)) :: chunks l (e - 9)
termination_by e
decreasing_by omega
theorem chunks_zero (l : List UInt8) : chunks l 0 = [] := by rw [chunks, dif_pos rfl]
theorem chunks_pos (l : List UInt8) {e : Nat} (h : e ≠ 0) : chunks l e = dv ((l.take e).drop (e - 9)) :: chunks l (e - 9) := by rw [chunks, dif_neg h]
theorem val_chunks (l : List UInt8) : ∀ e : Nat, e ≤ l.length → val (chunks l e) = dv (l.take e) := by
  intro e
  induction e using Nat.strongRecOn with
  | _ e ih =>
    intro he
    by_cases h : e = 0
    · subst h; rw [chunks_zero]; rfl
    · rw [chunks_pos l h, val, ih (e - 9) (by omega) (by omega)]
      have hs : l.take e = l.take (e - 9) ++ (l.take e).drop (e - 9) := by
        conv => lhs; rw [← List.take_append_drop (e - 9) (l.take e), List.take_take, Nat.min_eq_left (by omega)]
      conv => rhs; rw [hs, dv_append]
      rw [List.length_drop, List.length_take, Nat.min_eq_left he]
      by_cases h9 : 9 ≤ e
      · rw [show e - (e - 9) = 9 by omega]; omega
      · rw [show e - 9 = 0 by omega, List.take_zero]
        show _ + 1000000000 * 0 = 0 * _ + _
        omega
theorem ok_chunks (l : List UInt8) (hl : ∀ c ∈ l, dig c = true) : ∀ e : Nat, e ≤ l.length → Ok (chunks l e) := by
  intro e
  induction e using Nat.strongRecOn with
  | _ e ih =>
    intro he
    by_cases h : e = 0
    · subst h; rw [chunks_zero]; intro x hx; cases hx
    · rw [chunks_pos l h]
      intro x hx
      rcases List.mem_cons.1 hx with rfl | hx
      · have hd := dv_lt (l := (l.take e).drop (e - 9)) (fun c hc => hl c (List.mem_of_mem_take (List.mem_of_mem_drop hc)))
        have hlen : ((l.take e).drop (e - 9)).length ≤ 9 := by rw [List.length_drop, List.length_take]; omega
        exact Nat.lt_of_lt_of_le hd (Nat.pow_le_pow_right (by decide) hlen)
      · exact ih (e - 9) (by omega) (by omega) x hx
theorem trim_chunks (l : List UInt8) (hl : ∀ c ∈ l, dig c = true) : trim (chunks l l.length) = limbs (dv l) := by
  rw [trim_limbs (ok_chunks l hl _ (Nat.le_refl _)), val_chunks l _ (Nat.le_refl _), List.take_length]
end Nb

set_option linter.unusedVariables false
set_option linter.unusedSimpArgs false
namespace Nb

def addL : Nat → List Nat → List Nat → List Nat
  | c, [], _ => [c]
  | c, x :: xs, ys => (x + c + ys.headD 0) % 1000000000 :: addL ((x + c + ys.headD 0) / 1000000000) xs ys.tail
theorem val_headD (ys : List Nat) : val ys = ys.headD 0 + 1000000000 * val ys.tail := by cases ys <;> rfl
theorem Ok.headD {ys : List Nat} (h : Ok ys) : ys.headD 0 < 1000000000 := by
  cases ys with
  | nil => decide
  | cons y r => exact h.head
theorem Ok.tl {ys : List Nat} (h : Ok ys) : Ok ys.tail := by
  cases ys with
  | nil => exact h
  | cons y r => exact h.tail
theorem val_addL : ∀ (xs ys : List Nat) (c : Nat), ys.length ≤ xs.length → val (addL c xs ys) = c + val xs + val ys
  | [], ys, c, h => by
    have : ys = [] := List.eq_nil_of_length_eq_zero (by simpa using h)
    subst this
    simp [addL, val]
  | x :: xs, ys, c, h => by
    have hl : ys.tail.length ≤ xs.length := by rw [List.length_tail]; rw [List.length_cons] at h; omega
    rw [addL, val, val_addL xs ys.tail _ hl, val, val_headD ys]
    omega
theorem ok_addL : ∀ (xs ys : List Nat) (c : Nat), c ≤ 1 → Ok xs → Ok ys → Ok (addL c xs ys)
  | [], ys, c, hc, _, _ => by
    intro x hx
    obtain rfl := List.mem_singleton.1 hx
    omega
  | x :: xs, ys, c, hc, hx, hy => by
    have h1 := hx.head
    have h2 := hy.headD
    intro z hz
    rw [addL] at hz
    rcases List.mem_cons.1 hz with rfl | hz
    · omega
    · exact ok_addL xs ys.tail _ (by omega) hx.tail hy.tl z hz
theorem add_limbs (a b : Nat) (h : (limbs b).length ≤ (limbs a).length) : trim (addL 0 (limbs a) (limbs b)) = limbs (a + b) := by
  rw [trim_limbs (ok_addL _ _ 0 (by omega) (ok_limbs a) (ok_limbs b)), val_addL _ _ 0 h, val_limbs, val_limbs, Nat.zero_add]

def subL : Nat → List Nat → List Nat → List Nat
  | _, [], _ => []
  | b, x :: xs, ys => (if x < b + ys.headD 0 then x + 1000000000 - (b + ys.headD 0) else x - (b + ys.headD 0)) :: subL (if x < b + ys.headD 0 then 1 else 0) xs ys.tail
theorem val_subL : ∀ (xs ys : List Nat) (b : Nat), b ≤ 1 → Ok xs → Ok ys → ys.length ≤ xs.length → b + val ys ≤ val xs → val (subL b xs ys) + (b + val ys) = val xs
  | [], ys, b, _, _, _, h, hle => by
    have : ys = [] := List.eq_nil_of_length_eq_zero (by simpa using h)
    subst this
    simp [subL, val] at *
    omega
  | x :: xs, ys, b, hb, hx, hy, h, hle => by
    have hl : ys.tail.length ≤ xs.length := by rw [List.length_tail]; rw [List.length_cons] at h; omega
    have h1 := hx.head
    have h2 := hy.headD
    rw [val, val_headD ys] at hle
    rw [subL, val, val, val_headD ys]
    by_cases hc : x < b + ys.headD 0
    · rw [if_pos hc, if_pos hc]
      have := val_subL xs ys.tail 1 (by omega) hx.tail hy.tl hl (by omega)
      omega
    · rw [if_neg hc, if_neg hc]
      have := val_subL xs ys.tail 0 (by omega) hx.tail hy.tl hl (by omega)
      omega
theorem ok_subL : ∀ (xs ys : List Nat) (b : Nat), Ok xs → Ok ys → Ok (subL b xs ys)
  | [], ys, b, _, _ => fun x hx => by cases hx
  | x :: xs, ys, b, hx, hy => by
    have h1 := hx.head
    have h2 := hy.headD
    intro z hz
    rw [subL] at hz
    rcases List.mem_cons.1 hz with rfl | hz
    · split <;> omega
    · exact ok_subL xs ys.tail _ hx.tail hy.tl z hz
theorem length_subL : ∀ (xs ys : List Nat) (b : Nat), (subL b xs ys).length = xs.length
  | [], _, _ => rfl
  | x :: xs, ys, b => by rw [subL, List.length_cons, length_subL xs, List.length_cons]
theorem limbs_len_le {a b : Nat} (h : b ≤ a) : (limbs b).length ≤ (limbs a).length := by
  refine Nat.le_of_not_lt fun hlt => ?_
  have := limbs_len_lt hlt
  omega
theorem sub_limbs (a b : Nat) (h : b ≤ a) : trim (subL 0 (limbs a) (limbs b)) = limbs (a - b) := by
  have := val_subL (limbs a) (limbs b) 0 (by omega) (ok_limbs a) (ok_limbs b) (limbs_len_le h) (by rw [val_limbs, val_limbs]; omega)
  rw [val_limbs, val_limbs] at this
  rw [trim_limbs (ok_subL _ _ 0 (ok_limbs a) (ok_limbs b)), show val (subL 0 (limbs a) (limbs b)) = a - b by omega]

/-- One row of a product: what stands, and a times the limbs, and a carry. -/
def rowL (a : Nat) : Nat → List Nat → List Nat → List Nat
  | c, os, [] => c :: os.tail
  | c, os, b :: bs => (os.headD 0 + a * b + c) % 1000000000 :: rowL a ((os.headD 0 + a * b + c) / 1000000000) os.tail bs
theorem carry_lt {o a b c : Nat} (ho : o < 1000000000) (ha : a < 1000000000) (hb : b < 1000000000) (hc : c < 1000000000) : o + a * b + c < 1000000000000000000 ∧ (o + a * b + c) / 1000000000 < 1000000000 := by
  have h1 : a * b ≤ 999999999 * 999999999 := Nat.mul_le_mul (by omega) (by omega)
  omega
theorem length_rowL (a : Nat) : ∀ (bs os : List Nat) (c : Nat), bs.length < os.length → (rowL a c os bs).length = os.length
  | [], os, c, h => by
    cases os with
    | nil => simp at h
    | cons o r => simp [rowL]
  | b :: bs, os, c, h => by
    cases os with
    | nil => simp at h
    | cons o r =>
      rw [rowL, List.length_cons, List.tail_cons, length_rowL a bs r _ (by simpa using h), List.length_cons]
theorem ok_rowL (a : Nat) (ha : a < 1000000000) : ∀ (bs os : List Nat) (c : Nat), c < 1000000000 → Ok bs → Ok os → Ok (rowL a c os bs)
  | [], os, c, hc, _, ho => by
    intro z hz
    rw [rowL] at hz
    rcases List.mem_cons.1 hz with rfl | hz
    · exact hc
    · exact ho.tl z hz
  | b :: bs, os, c, hc, hb, ho => by
    have := carry_lt ho.headD ha hb.head hc
    intro z hz
    rw [rowL] at hz
    rcases List.mem_cons.1 hz with rfl | hz
    · omega
    · exact ok_rowL a ha bs os.tail _ this.2 hb.tail ho.tl z hz
theorem val_rowL (a : Nat) : ∀ (bs os : List Nat) (c : Nat), (os.drop bs.length).headD 0 = 0 → val (rowL a c os bs) = val os + a * val bs + c
  | [], os, c, h => by
    rw [rowL, val, val_headD os]
    have : os.headD 0 = 0 := by simpa using h
    rw [this]
    simp [val]; omega
  | b :: bs, os, c, h => by
    have h' : (os.tail.drop bs.length).headD 0 = 0 := by
      rw [List.drop_tail]
      simpa using h
    rw [rowL, val, val_rowL a bs os.tail _ h', val_headD os, val, Nat.mul_add a b, Nat.mul_left_comm a 1000000000 (val bs)]
    omega
theorem drop_rowL (a : Nat) : ∀ (bs os : List Nat) (c : Nat), (rowL a c os bs).drop (bs.length + 1) = os.drop (bs.length + 1)
  | [], os, c => by cases os <;> simp [rowL]
  | b :: bs, os, c => by
    rw [rowL, List.length_cons, List.drop_succ_cons, drop_rowL a bs os.tail]
    rw [List.drop_tail]
/-- The product, row by row: what stands when i rows are over. -/
def mulL (ms : List Nat) : List Nat → List Nat → List Nat
  | [], os => os
  | x :: xs, os => match rowL x 0 os ms with
    | [] => []
    | r :: rs => r :: mulL ms xs rs
theorem val_mulL (ms : List Nat) : ∀ (xs os : List Nat), xs.length + ms.length ≤ os.length → os.drop ms.length = List.replicate (os.length - ms.length) 0 → val (mulL ms xs os) = val os + val xs * val ms
  | [], os, _, _ => by simp [mulL, val]
  | x :: xs, os, hl, hz => by
    rw [List.length_cons] at hl
    have h0 : (os.drop ms.length).headD 0 = 0 := by
      rw [hz]
      cases os.length - ms.length <;> rfl
    have hv := val_rowL x ms os 0 h0
    have hlen := length_rowL x ms os 0 (by omega)
    have hdr := drop_rowL x ms os 0
    rw [mulL]
    cases hr : rowL x 0 os ms with
    | nil => rw [hr] at hlen; simp at hlen; omega
    | cons r rs =>
      rw [hr] at hv hlen hdr
      rw [List.length_cons] at hlen
      simp only
      rw [val] at hv ⊢
      rw [val_mulL ms xs rs (by omega) ?_, val, Nat.add_mul, Nat.mul_add, Nat.mul_assoc]
      · omega
      · rw [List.drop_succ_cons] at hdr
        have h2 : os.drop (ms.length + 1) = (os.drop ms.length).drop 1 := by rw [List.drop_drop]
        rw [hdr, h2, hz, List.drop_replicate]
        congr 1
        omega
theorem ok_mulL (ms : List Nat) (hm : Ok ms) : ∀ (xs os : List Nat), Ok xs → Ok os → Ok (mulL ms xs os)
  | [], os, _, ho => ho
  | x :: xs, os, hx, ho => by
    have := ok_rowL x hx.head ms os 0 (by omega) hm ho
    rw [mulL]
    cases hr : rowL x 0 os ms with
    | nil => intro z hz; cases hz
    | cons r rs =>
      rw [hr] at this
      intro z hz
      rcases List.mem_cons.1 hz with rfl | hz
      · exact this.head
      · exact ok_mulL ms hm xs rs hx.tail this.tail z hz
theorem val_zeros (k : Nat) : val (List.replicate k 0) = 0 := by
  induction k with
  | zero => rfl
  | succ k ih => rw [List.replicate_succ, val, ih]
theorem mul_limbs (a b : Nat) : trim (mulL (limbs b) (limbs a) (List.replicate ((limbs a).length + (limbs b).length) 0)) = limbs (a * b) := by
  have hok : Ok (List.replicate ((limbs a).length + (limbs b).length) 0) := fun x hx => by rw [List.eq_of_mem_replicate hx]; decide
  rw [trim_limbs (ok_mulL _ (ok_limbs b) _ _ (ok_limbs a) hok), val_mulL _ _ _ (by simp) (by rw [List.drop_replicate, List.length_replicate]), val_zeros, val_limbs, val_limbs, Nat.zero_add]
/-! ### The search for a digit -/
/-- The least k below which the test fails: halving. -/
def search (p : Nat → Bool) : Nat → Nat → Nat → Nat
  | 0, i, _ => i
  | f + 1, i, j => if i < j then (if p ((i + j) / 2) = false then search p f ((i + j) / 2 + 1) j else search p f i ((i + j) / 2)) else i
end Nb

set_option linter.unusedVariables false
set_option linter.unusedSimpArgs false
namespace Rq
open Nb

def dec (n : Nat) : ByteArray := ⟨(Go.Lib.decDigits n).toArray⟩
def nv (s : ByteArray) : Nat := dv s.data.toList
def isN (s : ByteArray) : Bool := num s.data.toList && decide (s.size ≤ 300)
theorem ext {a b : ByteArray} (h : a.data.toList = b.data.toList) : a = b := by
  cases a; cases b; congr 1; exact Array.toList_inj.1 h
theorem size_list (s : ByteArray) : s.size = s.data.toList.length := by simp
theorem dec_list (n : Nat) : (dec n).data.toList = Go.Lib.decDigits n := rfl
theorem nv_dec (n : Nat) : nv (dec n) = n := dv_dec n
theorem isN_num {s : ByteArray} (h : isN s = true) : num s.data.toList = true ∧ s.size ≤ 300 := by
  unfold isN at h
  simpa only [Bool.and_eq_true, decide_eq_true_eq] using h
theorem dec_nv {s : ByteArray} (h : isN s = true) : dec (nv s) = s := ext (dec_dv (isN_num h).1)
theorem dec_size (n : Nat) : (dec n).size = Go.Lib.nDigits n := by rw [size_list, dec_list, Go.Lib.decDigits_length]
theorem dec_size_le {n k : Nat} (h : n < 10 ^ (k + 1)) : (dec n).size ≤ k + 1 := by rw [dec_size]; exact nDigits_le h
theorem dec_size_m {n k m : Nat} (hm : k + 1 = m) (h : n < 10 ^ m) : (dec n).size ≤ m := by subst hm; exact dec_size_le h
theorem nDigits_m {n k m : Nat} (hm : k + 1 = m) (h : n < 10 ^ m) : Go.Lib.nDigits n ≤ m := by subst hm; exact nDigits_le h
theorem lt_pow {n a b : Nat} (h : n < 10 ^ a) (hab : a ≤ b) : n < 10 ^ b := Nat.lt_of_lt_of_le h (Nat.pow_le_pow_right (by decide) hab)
theorem mul_lt {a b m k n : Nat} (ha : a < 10 ^ m) (hb : b < 10 ^ k) (h : m + k ≤ n) : a * b < 10 ^ n := lt_pow (by rw [Nat.pow_add]; exact Nat.mul_lt_mul'' ha hb) h
theorem add_lt {a b m n : Nat} (ha : a < 10 ^ m) (hb : b < 10 ^ m) (h : m + 1 ≤ n) : a + b < 10 ^ n := lt_pow (by rw [Nat.pow_succ]; omega) h
theorem pow_two {a b : Nat} (h : a + 1 ≤ b) : 10 ^ a * 2 ≤ 10 ^ b := Nat.le_trans (by rw [Nat.pow_succ]; omega : 10 ^ a * 2 ≤ 10 ^ (a + 1)) (Nat.pow_le_pow_right (by decide) h)
theorem lt_of_size {n k : Nat} (h : (dec n).size ≤ k) : n < 10 ^ k := by
  rw [dec_size] at h
  exact Nat.lt_of_lt_of_le (Go.Lib.lt_pow_nDigits n) (Nat.pow_le_pow_right (by decide) h)
theorem isN_dec {n : Nat} (h : n < 10 ^ 300) : isN (dec n) = true := by
  have := dec_size_m (k := 299) (m := 300) rfl h
  unfold isN
  rw [dec_list, num_dec, decide_eq_true this]; rfl
theorem isN_dec_iff {n : Nat} : isN (dec n) = true ↔ (dec n).size ≤ 300 := by
  unfold isN
  rw [dec_list, num_dec, Bool.true_and, decide_eq_true_eq]
theorem nv_lt {s : ByteArray} (h : isN s = true) {k : Nat} (hk : s.size ≤ k) : nv s < 10 ^ k := lt_of_size (by rw [dec_nv h]; exact hk)
theorem dec_inj {a b : Nat} (h : dec a = dec b) : a = b := by
  have := congrArg nv h
  rwa [nv_dec, nv_dec] at this
theorem nv_inj {a b : ByteArray} (ha : isN a = true) (hb : isN b = true) (h : nv a = nv b) : a = b := by rw [← dec_nv ha, ← dec_nv hb, h]

/-- A rational number as it is written is one in lowest terms. -/
def valid (s : Bool) (n d : ByteArray) : Bool := isN n && isN d && decide (nv d ≠ 0) && (if nv n = 0 then !s && decide (nv d = 1) else decide (Nat.gcd (nv n) (nv d) = 1))
def sg (s : Bool) (n : Nat) : Int := if s = true then -(n : Int) else n
def rat (s : Bool) (n d : ByteArray) : Rat := mkRat (sg s (nv n)) (nv d)
theorem natAbs_sg (s : Bool) (n : Nat) : (sg s n).natAbs = n := by cases s <;> simp [sg]
theorem sg_div (s : Bool) (n g : Nat) (h : g ∣ n) : sg s n / (g : Int) = sg s (n / g) := by
  unfold sg
  cases s with
  | false => simp
  | true =>
    obtain ⟨k, rfl⟩ := h
    by_cases hg : g = 0
    · subst hg; simp
    · simp only [if_true]
      rw [Nat.mul_div_cancel_left _ (by omega)]
      push_cast
      rw [← Int.mul_neg, Int.mul_ediv_cancel_left _ (by omega)]
theorem sg_neg {s : Bool} {n : Nat} : sg s n < 0 ↔ s = true ∧ n ≠ 0 := by
  cases s <;> simp [sg] <;> omega
/-- What 'lowest' answers is the quotient. -/
theorem low_num (s : Bool) (n d : Nat) (hd : d ≠ 0) : (mkRat (sg s n) d).num = sg s (n / Nat.gcd n d) := by
  rw [Rat.num_mkRat, if_neg hd, natAbs_sg, Nat.gcd_comm d n]
  exact sg_div s n _ (Nat.gcd_dvd_left n d)
theorem low_den (s : Bool) (n d : Nat) (hd : d ≠ 0) : (mkRat (sg s n) d).den = d / Nat.gcd n d := by
  rw [Rat.den_mkRat, if_neg hd, natAbs_sg, Nat.gcd_comm d n]
def eS (q : Rat) : Bool := decide (q.num < 0)
def eN (q : Rat) : ByteArray := dec q.num.natAbs
def eD (q : Rat) : ByteArray := dec q.den
theorem low_S (s : Bool) (n d : Nat) (hd : d ≠ 0) : eS (mkRat (sg s n) d) = (s && decide (n / Nat.gcd n d ≠ 0)) := by
  unfold eS
  rw [low_num s n d hd]
  generalize n / Nat.gcd n d = m
  cases s with
  | true =>
    show decide (-(m : Int) < 0) = (true && decide (m ≠ 0))
    rw [Bool.true_and]
    exact decide_eq_decide.2 (by omega)
  | false =>
    show decide ((m : Int) < 0) = (false && decide (m ≠ 0))
    rw [Bool.false_and]
    exact decide_eq_false (by omega)
theorem low_N (s : Bool) (n d : Nat) (hd : d ≠ 0) : eN (mkRat (sg s n) d) = dec (n / Nat.gcd n d) := by
  unfold eN
  rw [low_num s n d hd, natAbs_sg]
theorem low_D (s : Bool) (n d : Nat) (hd : d ≠ 0) : eD (mkRat (sg s n) d) = dec (d / Nat.gcd n d) := by
  unfold eD
  rw [low_den s n d hd]
theorem valid_parts {s : Bool} {n d : ByteArray} (h : valid s n d = true) : isN n = true ∧ isN d = true ∧ nv d ≠ 0 ∧ Nat.gcd (nv n) (nv d) = 1 ∧ (nv n = 0 → s = false) := by
  unfold valid at h
  simp only [Bool.and_eq_true, decide_eq_true_eq] at h
  obtain ⟨⟨⟨h1, h2⟩, h3⟩, h4⟩ := h
  refine ⟨h1, h2, h3, ?_, ?_⟩
  · by_cases hn : nv n = 0
    · rw [if_pos hn] at h4
      simp only [Bool.and_eq_true, decide_eq_true_eq] at h4
      rw [h4.2, Nat.gcd_one_right]
    · rw [if_neg hn] at h4
      exact of_decide_eq_true h4
  · intro hn
    rw [if_pos hn] at h4
    simp only [Bool.and_eq_true, Bool.not_eq_true'] at h4
    exact h4.1
theorem valid_of {s : Bool} {n d : ByteArray} (h1 : isN n = true) (h2 : isN d = true) (h3 : nv d ≠ 0) (h4 : Nat.gcd (nv n) (nv d) = 1) (h5 : nv n = 0 → s = false) : valid s n d = true := by
  unfold valid
  rw [h1, h2, decide_eq_true h3]
  by_cases hn : nv n = 0
  · rw [if_pos hn, h5 hn]
    rw [hn, Nat.gcd_zero_left] at h4
    rw [decide_eq_true h4]; rfl
  · rw [if_neg hn, decide_eq_true h4]; rfl
theorem enc_rat {s : Bool} {n d : ByteArray} (h : valid s n d = true) : eS (rat s n d) = s ∧ eN (rat s n d) = n ∧ eD (rat s n d) = d := by
  obtain ⟨h1, h2, h3, h4, h5⟩ := valid_parts h
  unfold rat
  rw [low_S s _ _ h3, low_N s _ _ h3, low_D s _ _ h3, h4, Nat.div_one, Nat.div_one, dec_nv h1, dec_nv h2]
  refine ⟨?_, rfl, rfl⟩
  by_cases hn : nv n = 0
  · rw [h5 hn]; rfl
  · rw [decide_eq_true hn, Bool.and_true]
theorem rat_enc (q : Rat) : rat (eS q) (eN q) (eD q) = q := by
  unfold rat eN eD
  rw [nv_dec, nv_dec]
  have : sg (eS q) q.num.natAbs = q.num := by
    unfold sg eS
    by_cases h : q.num < 0
    · rw [decide_eq_true h, if_pos rfl]; omega
    · rw [decide_eq_false h, if_neg (by decide)]; omega
  rw [this, Rat.mkRat_self]
theorem valid_enc {q : Rat} (h1 : (eN q).size ≤ 300) (h2 : (eD q).size ≤ 300) : valid (eS q) (eN q) (eD q) = true := by
  refine valid_of (isN_dec_iff.2 h1) (isN_dec_iff.2 h2) ?_ ?_ ?_
  · unfold eD; rw [nv_dec]; exact q.den_nz
  · unfold eN eD; rw [nv_dec, nv_dec]; exact q.reduced
  · unfold eN eS; rw [nv_dec]
    intro h
    rw [decide_eq_false]; omega
theorem rat_inj {s t : Bool} {n d m e : ByteArray} (h : valid s n d = true) (k : valid t m e = true) (hq : rat s n d = rat t m e) : s = t ∧ n = m ∧ d = e := by
  obtain ⟨a1, a2, a3⟩ := enc_rat h
  obtain ⟨b1, b2, b3⟩ := enc_rat k
  rw [hq] at a1 a2 a3
  exact ⟨a1.symm.trans b1, a2.symm.trans b2, a3.symm.trans b3⟩
end Rq
