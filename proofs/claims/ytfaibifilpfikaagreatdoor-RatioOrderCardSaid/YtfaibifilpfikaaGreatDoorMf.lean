/- Package ratio's Floor as a Lean function with its contract; conditions: Go's tables. -/
import Derived.Test.YtfaibifilpfikaaGreatDoorMe
import Derived.Lib.AtoiAllCases
set_option linter.unusedVariables false
set_option linter.unusedSimpArgs false
namespace Go.Proofs.YtfaibifilpfikaaGreatDoor.P2
open Go.Lib

theorem mag10 : ∀ (l : List UInt8) (acc : Nat), (∀ c ∈ l, Nb.dig c = true) → acc < 18446744073709551616 → parseUint10 acc l = if acc * 10 ^ l.length + Nb.dv l < 18446744073709551616 then .ok (acc * 10 ^ l.length + Nb.dv l) else .range
  | [], acc, _, ha => by
    rw [parseUint10, List.length_nil, Nat.pow_zero, Nat.mul_one, show Nb.dv [] = 0 from rfl, Nat.add_zero, if_pos ha]
  | c :: r, acc, hd, ha => by
    have hc := Nb.dig_le (hd c List.mem_cons_self)
    have hp : 1 ≤ 10 ^ r.length := Nat.one_le_pow _ _ (by decide)
    have hdv : Nb.dv (c :: r) = (c.toNat - 48) * 10 ^ r.length + Nb.dv r := by
      rw [show c :: r = [c] ++ r from rfl, Nb.dv_append, show Nb.dv [c] = c.toNat - 48 by show 0 * 10 + (c.toNat - 48) = _; omega]
    have htot : acc * 10 ^ (c :: r).length + Nb.dv (c :: r) = (acc * 10 + (c.toNat - 48)) * 10 ^ r.length + Nb.dv r := by
      rw [hdv, List.length_cons, Nat.pow_succ, Nat.add_mul, Nat.mul_assoc, Nat.mul_comm 10, Nat.add_assoc]
    rw [htot]
    have hge : acc * 10 + (c.toNat - 48) ≤ (acc * 10 + (c.toNat - 48)) * 10 ^ r.length := Nat.le_mul_of_pos_right _ hp
    rw [parseUint10, if_pos hc]
    by_cases h1 : 1844674407370955162 ≤ acc
    · rw [if_pos h1, if_neg (by omega)]
    · rw [if_neg h1]
      by_cases h2 : 18446744073709551616 ≤ acc * 10 + (c.toNat - 48)
      · rw [if_pos h2, if_neg (by omega)]
      · rw [if_neg h2, mag10 r _ (fun x hx => hd x (List.mem_cons_of_mem _ hx)) (by omega)]
theorem mag_dec (n : Nat) : parseMag (decDigits n) = if n < 18446744073709551616 then .ok n else .range := by
  unfold parseMag
  rw [if_neg (Nb.dec_ne n), mag10 _ 0 (Nb.dec_digs n) (by decide), Nat.zero_mul, Nat.zero_add, Nb.dv_dec]
theorem dec_cons (n : Nat) : ∃ c r, decDigits n = c :: r ∧ c.toNat ≠ 43 ∧ c.toNat ≠ 45 := by
  cases h : decDigits n with
  | nil => exact absurd h (Nb.dec_ne n)
  | cons c r =>
    have := Nb.dig_le (Nb.dec_digs n c (by rw [h]; exact List.mem_cons_self))
    exact ⟨c, r, rfl, by omega, by omega⟩
theorem atoi_dec (n : Nat) : atoiAll (decDigits n) = if (n : Int) ≤ 9223372036854775807 then .ok (n : Int) else .range := by
  obtain ⟨c, r, h, h1, h2⟩ := dec_cons n
  rw [h, atoiAll_plain c r h1 h2, ← h, mag_dec]
  by_cases h3 : n < 18446744073709551616
  · rw [if_pos h3]
    show (if 9223372036854775808 ≤ n then _ else _) = _
    by_cases h4 : 9223372036854775808 ≤ n
    · rw [if_pos h4, if_neg (by omega)]
    · rw [if_neg h4, if_pos (by omega)]
  · rw [if_neg h3, if_neg (by omega)]; rfl
theorem atoi_neg (n : Nat) : atoiAll (45 :: decDigits n) = if (n : Int) ≤ 9223372036854775808 then .ok (-(n : Int)) else .range := by
  rw [atoiAll_minus, mag_dec]
  by_cases h3 : n < 18446744073709551616
  · rw [if_pos h3]
    show (if 9223372036854775808 < n then _ else _) = _
    by_cases h4 : 9223372036854775808 < n
    · rw [if_pos h4, if_neg (by omega)]
    · rw [if_neg h4, if_pos (by omega)]
  · rw [if_neg h3, if_neg (by omega)]; rfl
theorem atoi_sign : atoiAll [45] = .syntax := by rw [atoiAll_minus]; rfl
theorem trim_itoa (m : Int) : trimPrefix (itoa m) [45] = decDigits m.natAbs := by
  unfold itoa
  by_cases h : m < 0
  · rw [if_pos h]
    unfold trimPrefix hasPrefix
    rw [if_pos (by simp [List.isPrefixOf])]
    rfl
  · rw [if_neg h]
    obtain ⟨c, r, h1, h2, h3⟩ := dec_cons m.toNat
    have : m.toNat = m.natAbs := by omega
    rw [← this]
    unfold trimPrefix hasPrefix
    rw [if_neg]
    rw [h1]
    simp only [List.isPrefixOf, Bool.and_true, beq_iff_eq]
    intro e
    exact h3 (by rw [← e]; rfl)
end Go.Proofs.YtfaibifilpfikaaGreatDoor.P2

namespace Go.Proofs.YtfaibifilpfikaaGreatDoor.N15
open Go.RowKit Go.Shelf Go.Proofs.YtfaibifilpfikaaGreatDoorW.PrintWords Go.Proofs.YtfaibifilpfikaaGreatDoorW.PrintLast Go.Proofs.YtfaibifilpfikaaGreatDoorW.PrintMore Go.Proofs.YtfaibifilpfikaaGreatDoor.A Go.Proofs.YtfaibifilpfikaaGreatDoor.N1 Go.Proofs.YtfaibifilpfikaaGreatDoor.N11 Go.Proofs.YtfaibifilpfikaaGreatDoor.X2 Go.Proofs.YtfaibifilpfikaaGreatDoor.C Go.Proofs.YtfaibifilpfikaaGreatDoor.N12 Go.Proofs.YtfaibifilpfikaaGreatDoor.N13 Go.Proofs.YtfaibifilpfikaaGreatDoor.N14 Go.Proofs.YtfaibifilpfikaaGreatDoor.P1
set_option linter.unusedVariables false
set_option linter.unusedSimpArgs false

def oppS (b : S23) : Bool := if b.f0 = true then false else (b.f1.toList != ([48] : List UInt8))
theorem opp_eq (b : S23) : ratio_opposite.f b.f0 b.f1 b.f2 = some (oppS b, b.f1, b.f2) := by
  unfold ratio_opposite.f oppS
  split <;> rfl
def div1F (a b : S23) : Option R4 := ratio_product.f a.f0 a.f1 a.f2 b.f0 b.f2 b.f1
set_option maxRecDepth 100000 in
set_option maxHeartbeats 2000000 in
theorem div1_calls (a b : S23) (r1 : Bool) (r2 r3 : ByteArray) (r4 : Int) (w : World) (h : div1F a b = some (r1, r2, r3, r4)) (hT : Tabs w) :
    Calls Tryz.prog 84 #[.agg #[.bool a.f0, .string a.f1, .string a.f2], .agg #[.bool b.f0, .string b.f1, .string b.f2]] w fun e w' => e = .returned (.tuple #[.agg #[.bool r1, .string r2, .string r3], .int .i64 r4]) ∧ Below w.heap.size w w' := by
  have hu23 := Tryz.underlying23
  obtain ⟨W0, hW0⟩ : ∃ W0, ((w.alloc (.cells #[.bool a.f0, .string a.f1, .string a.f2] 23)).alloc (.cells #[.bool b.f0, .string b.f1, .string b.f2] 23)).alloc (.cells #[.bool false, .string ⟨#[]⟩, .string ⟨#[]⟩] 23) = W0 := ⟨_, rfl⟩
  have k0 : W0.heap[w.heap.size]? = some (.cells #[.bool a.f0, .string a.f1, .string a.f2] 23 (0, 0)) := by rw [← hW0]; exact blk_alloc (blk_alloc (blk_new _ _) _) _
  have k1 : W0.heap[w.heap.size + 1]? = some (.cells #[.bool b.f0, .string b.f1, .string b.f2] 23 (0, 0)) := by rw [← hW0]; exact blk_alloc (by have := blk_new (w.alloc (.cells #[.bool a.f0, .string a.f1, .string a.f2] 23)) (.cells #[.bool b.f0, .string b.f1, .string b.f2] 23); simpa using this) _
  have k2 : W0.heap[w.heap.size + 1 + 1]? = some (.cells #[.bool false, .string ⟨#[]⟩, .string ⟨#[]⟩] 23 (0, 0)) := by rw [← hW0]; have := blk_new ((w.alloc (.cells #[.bool a.f0, .string a.f1, .string a.f2] 23)).alloc (.cells #[.bool b.f0, .string b.f1, .string b.f2] 23)) (.cells #[.bool false, .string ⟨#[]⟩, .string ⟨#[]⟩] 23); simpa using this
  have hbel : Below w.heap.size w W0 := by rw [← hW0]; exact below_alloc (below_alloc (below_alloc (Below.refl _ _) _) _) _
  have HB0 := Aside0.mk hbel
  have HP := Aside0.mk (ratio_product.calls a.f0 a.f1 a.f2 b.f0 b.f2 b.f1 r1 r2 r3 r4 W0 h (hT.below hbel))
  have K2 := Aside0.mk k2
  have HW := Aside0.mk hW0
  clear k0 k1 k2 hbel hW0 hT h
  go_enter Tryz.func84, Tryz.ntmps84
  go_wp2_with (first
    | (go_at_call 83; rw [HW.out]; refine HP.out.mono ?_; rintro e w1 ⟨rfl, hb⟩; have HB1 := Aside0.mk (below_step HB0.out hb); have J2 := Aside0.mk (blk_below K2.out hb); clear hb HP; have z0 : w1.cell? ⟨w.heap.size + 1 + 1, 0, none⟩ = some (.bool false) := (blk_cell J2.out 0).trans rfl; have z1 : w1.cell? ⟨w.heap.size + 1 + 1, 1, none⟩ = some (.string ⟨#[]⟩) := (blk_cell J2.out 1).trans rfl; have z2 : w1.cell? ⟨w.heap.size + 1 + 1, 2, none⟩ = some (.string ⟨#[]⟩) := (blk_cell J2.out 2).trans rfl; have f0 := blk_frozen J2.out 0; have f1 := blk_frozen J2.out 1; have f2 := blk_frozen J2.out 2))
  have Q1 := Aside0.mk (blk_put (cs := #[.bool r1, .string ⟨#[]⟩, .string ⟨#[]⟩]) (blk_put J2.out 0 (.bool r1) rfl) 1 (.string r2) rfl)
  have Q2 := Aside0.mk (blk_put (cs := #[.bool r1, .string r2, .string ⟨#[]⟩]) Q1.out 2 (.string r3) rfl)
  have Q5 := Aside0.mk (((HB1.out.setCell (p := ⟨w.heap.size + 1 + 1, 0, none⟩) (by show w.heap.size ≤ w.heap.size + 1 + 1; omega) (.bool r1)).setCell (p := ⟨w.heap.size + 1 + 1, 1, none⟩) (by show w.heap.size ≤ w.heap.size + 1 + 1; omega) (.string r2)).setCell (p := ⟨w.heap.size + 1 + 1, 2, none⟩) (by show w.heap.size ≤ w.heap.size + 1 + 1; omega) (.string r3))
  refine bodyPost_ret (results_ct rfl _ _ (w.heap.size + 1 + 1) 23 #[.bool r1, .string r2, .string r3] (0, 0) _ rfl Q2.out Tryz.underlying23 rfl (by kernel_rfl)) rfl ?_
  exact ⟨rfl, Q5.out⟩
def sub1F (a b : S23) : Option R4 := ratio_sum.f a.f0 a.f1 a.f2 (oppS b) b.f1 b.f2
set_option maxRecDepth 100000 in
set_option maxHeartbeats 2000000 in
theorem sub1_calls (a b : S23) (r1 : Bool) (r2 r3 : ByteArray) (r4 : Int) (w : World) (h : sub1F a b = some (r1, r2, r3, r4)) (hT : Tabs w) :
    Calls Tryz.prog 80 #[.agg #[.bool a.f0, .string a.f1, .string a.f2], .agg #[.bool b.f0, .string b.f1, .string b.f2]] w fun e w' => e = .returned (.tuple #[.agg #[.bool r1, .string r2, .string r3], .int .i64 r4]) ∧ Below w.heap.size w w' := by
  have hu23 := Tryz.underlying23
  obtain ⟨W0, hW0⟩ : ∃ W0, ((w.alloc (.cells #[.bool a.f0, .string a.f1, .string a.f2] 23)).alloc (.cells #[.bool b.f0, .string b.f1, .string b.f2] 23)).alloc (.cells #[.bool false, .string ⟨#[]⟩, .string ⟨#[]⟩] 23) = W0 := ⟨_, rfl⟩
  have k0 : W0.heap[w.heap.size]? = some (.cells #[.bool a.f0, .string a.f1, .string a.f2] 23 (0, 0)) := by rw [← hW0]; exact blk_alloc (blk_alloc (blk_new _ _) _) _
  have k1 : W0.heap[w.heap.size + 1]? = some (.cells #[.bool b.f0, .string b.f1, .string b.f2] 23 (0, 0)) := by rw [← hW0]; exact blk_alloc (by have := blk_new (w.alloc (.cells #[.bool a.f0, .string a.f1, .string a.f2] 23)) (.cells #[.bool b.f0, .string b.f1, .string b.f2] 23); simpa using this) _
  have k2 : W0.heap[w.heap.size + 1 + 1]? = some (.cells #[.bool false, .string ⟨#[]⟩, .string ⟨#[]⟩] 23 (0, 0)) := by rw [← hW0]; have := blk_new ((w.alloc (.cells #[.bool a.f0, .string a.f1, .string a.f2] 23)).alloc (.cells #[.bool b.f0, .string b.f1, .string b.f2] 23)) (.cells #[.bool false, .string ⟨#[]⟩, .string ⟨#[]⟩] 23); simpa using this
  have hbel : Below w.heap.size w W0 := by rw [← hW0]; exact below_alloc (below_alloc (below_alloc (Below.refl _ _) _) _) _
  have HB0 := Aside0.mk hbel
  have HT := Aside0.mk hT
  have H := Aside0.mk (show ratio_sum.f a.f0 a.f1 a.f2 (oppS b) b.f1 b.f2 = some (r1, r2, r3, r4) from h)
  have K0 := Aside0.mk k0
  have K1 := Aside0.mk k1
  have K2 := Aside0.mk k2
  have HW := Aside0.mk hW0
  clear k0 k1 k2 hbel hW0 hT h
  go_enter Tryz.func80, Tryz.ntmps80
  go_wp2
  rw [HW.out]
  refine start_ (n := 8) (S := fun w' => w'.cell? ⟨w.heap.size, 0, none⟩ = some (.bool a.f0) ∧ w'.cell? ⟨w.heap.size, 1, none⟩ = some (.string a.f1) ∧ w'.cell? ⟨w.heap.size, 2, none⟩ = some (.string a.f2) ∧ w'.cell? ⟨w.heap.size + 1, 0, none⟩ = some (.bool b.f0) ∧ w'.cell? ⟨w.heap.size + 1, 1, none⟩ = some (.string b.f1) ∧ w'.cell? ⟨w.heap.size + 1, 2, none⟩ = some (.string b.f2)) (ds := []) #[false, false, false, false, false, false, false, false] (by kernel_rfl) rfl rfl ⟨(blk_cell (blk_drew K0.out) 0).trans rfl, (blk_cell (blk_drew K0.out) 1).trans rfl, (blk_cell (blk_drew K0.out) 2).trans rfl, (blk_cell (blk_drew K1.out) 0).trans rfl, (blk_cell (blk_drew K1.out) 1).trans rfl, (blk_cell (blk_drew K1.out) 2).trans rfl⟩ (fun hHeld => ?_)
  have HB2 := Aside0.mk (below_step HB0.out (below_drew (Below.refl _ _)))
  have J0 := Aside0.mk (blk_drew K0.out)
  have J1 := Aside0.mk (blk_drew K1.out)
  have J2 := Aside0.mk (blk_drew K2.out)
  clear HB0 K0 K1 K2 HW
  generalize W0.drew = w2 at *
  refine take_ (i := 0) (N := some 6) (v := ?_) (a' := ?_) #[true, false, false, false, false, false, false, false] rfl rfl (by kernel_rfl) (fun _ _ _ h => h) (Or.inl ⟨by rfl, ?_⟩) hHeld ?_ ?_
  rotate_left
  · rintro w' ⟨s0, s1, s2, s3, s4, s5⟩
    go_simp
    with_reducible rfl
  rotate_left
  · simp only [Act.put, List.setIfInBounds_toArray, List.set_cons_zero, List.set_cons_succ, i64_w, i32_w]
    rfl
  refine take_ (i := 1) (N := some 7) (v := ?_) (a' := ?_) #[true, true, false, false, false, false, false, false] rfl rfl (by kernel_rfl) (fun _ _ _ h => h) (Or.inl ⟨by rfl, ?_⟩) hHeld ?_ ?_
  rotate_left
  · rintro w' ⟨s0, s1, s2, s3, s4, s5⟩
    go_simp
    with_reducible rfl
  rotate_left
  · simp only [Act.put, List.setIfInBounds_toArray, List.set_cons_zero, List.set_cons_succ, i64_w, i32_w]
    rfl
  refine one_ (i := 2) (N := some 8) #[true, true, true, false, false, false, false, false] rfl rfl (by kernel_rfl) (by decide) (fun K hK => ?_)
  refine goes_ Tryz.func81 (by kernel_rfl) rfl #[.agg #[.bool b.f0, .string b.f1, .string b.f2]] (by rfl) rfl rfl (by (try simp only [List.map_toArray, List.map_cons, List.map_nil]); first | done | rfl) ?_
  refine (ratio_opposite.calls b.f0 b.f1 b.f2 _ _ _ _ (opp_eq b)).mono ?_
  rintro e w3 ⟨rfl, hb⟩
  refine ⟨_, rfl, ?_⟩
  have HB3 := Aside0.mk (below_step HB2.out hb)
  have L0 := Aside0.mk (blk_below J0.out hb)
  have L1 := Aside0.mk (blk_below J1.out hb)
  have L2 := Aside0.mk (blk_below J2.out hb)
  clear hb HB2 J0 J1 J2
  refine hK.out _ _ ⟨(blk_cell L0.out 0).trans rfl, (blk_cell L0.out 1).trans rfl, (blk_cell L0.out 2).trans rfl, (blk_cell L1.out 0).trans rfl, (blk_cell L1.out 1).trans rfl, (blk_cell L1.out 2).trans rfl⟩ (fun hHeld => ?_)
  clear hK K
  refine norm_ (a' := ?_) ?_ ?_
  rotate_left
  · show Act.put _ (some 8) _ = _
    simp only [Act.put, List.setIfInBounds_toArray, List.set_cons_zero, List.set_cons_succ, i64_w, i32_w]
    rfl
  refine one_ (i := 3) (N := some 9) #[true, true, true, true, false, false, false, false] rfl rfl (by kernel_rfl) (by decide) (fun K hK => ?_)
  refine goes_ Tryz.func71 (by kernel_rfl) rfl #[.agg #[.bool a.f0, .string a.f1, .string a.f2], .agg #[.bool (oppS b), .string b.f1, .string b.f2]] (by rfl) rfl rfl (by (try simp only [List.map_toArray, List.map_cons, List.map_nil]); first | done | rfl) ?_
  refine (ratio_sum.calls a.f0 a.f1 a.f2 (oppS b) b.f1 b.f2 r1 r2 r3 r4 _ H.out (HT.out.below HB3.out)).mono ?_
  rintro e w4 ⟨rfl, hb⟩
  refine ⟨_, rfl, ?_⟩
  have HB4 := Aside0.mk (below_step HB3.out hb)
  have M0 := Aside0.mk (blk_below L0.out hb)
  have M1 := Aside0.mk (blk_below L1.out hb)
  have M2 := Aside0.mk (blk_below L2.out hb)
  clear hb HB3 L0 L1 L2
  refine hK.out _ _ ⟨(blk_cell M0.out 0).trans rfl, (blk_cell M0.out 1).trans rfl, (blk_cell M0.out 2).trans rfl, (blk_cell M1.out 0).trans rfl, (blk_cell M1.out 1).trans rfl, (blk_cell M1.out 2).trans rfl⟩ (fun hHeld => ?_)
  clear hK K
  refine norm_ (a' := ?_) ?_ ?_
  rotate_left
  · show Act.put _ (some 9) _ = _
    simp only [Act.put, List.setIfInBounds_toArray, List.set_cons_zero, List.set_cons_succ, i64_w, i32_w]
    rfl
  refine pure_ (i := 4) (N := some 10) (v := ?_) (a' := ?_) #[true, true, true, true, true, false, false, false] rfl rfl (by kernel_rfl) (fun _ _ _ h => h) (Or.inl ⟨by rfl, ?_⟩) ?_ ?_
  rotate_left
  · intro w'
    go_simp
    with_reducible rfl
  rotate_left
  · simp only [Act.put, List.setIfInBounds_toArray, List.set_cons_zero, List.set_cons_succ, i64_w, i32_w]
    rfl
  refine pure_ (i := 5) (N := some 11) (v := ?_) (a' := ?_) #[true, true, true, true, true, true, false, false] rfl rfl (by kernel_rfl) (fun _ _ _ h => h) (Or.inl ⟨by rfl, ?_⟩) ?_ ?_
  rotate_left
  · intro w'
    go_simp
    with_reducible rfl
  rotate_left
  · simp only [Act.put, List.setIfInBounds_toArray, List.set_cons_zero, List.set_cons_succ, i64_w, i32_w]
    rfl
  have z0 : w4.cell? ⟨w.heap.size + 1 + 1, 0, none⟩ = some (.bool false) := (blk_cell M2.out 0).trans rfl
  have z1 : w4.cell? ⟨w.heap.size + 1 + 1, 1, none⟩ = some (.string ⟨#[]⟩) := (blk_cell M2.out 1).trans rfl
  have z2 : w4.cell? ⟨w.heap.size + 1 + 1, 2, none⟩ = some (.string ⟨#[]⟩) := (blk_cell M2.out 2).trans rfl
  have f0 := blk_frozen M2.out 0
  have f1 := blk_frozen M2.out 1
  have f2 := blk_frozen M2.out 2
  refine one_ (i := 6) (N := none) #[true, true, true, true, true, true, true, false] rfl rfl (by kernel_rfl) (by decide) (fun K hK => ?_)
  refine skip_ (w1 := ?_) (by rfl) rfl ?_ ?_
  rotate_left
  · go_simp
    rfl
  have Q1 := Aside0.mk (blk_put (cs := #[.bool r1, .string ⟨#[]⟩, .string ⟨#[]⟩]) (blk_put M2.out 0 (.bool r1) rfl) 1 (.string r2) rfl)
  have Q2 := Aside0.mk (blk_put (cs := #[.bool r1, .string r2, .string ⟨#[]⟩]) Q1.out 2 (.string r3) rfl)
  have Q5 := Aside0.mk (((HB4.out.setCell (p := ⟨w.heap.size + 1 + 1, 0, none⟩) (by show w.heap.size ≤ w.heap.size + 1 + 1; omega) (.bool r1)).setCell (p := ⟨w.heap.size + 1 + 1, 1, none⟩) (by show w.heap.size ≤ w.heap.size + 1 + 1; omega) (.string r2)).setCell (p := ⟨w.heap.size + 1 + 1, 2, none⟩) (by show w.heap.size ≤ w.heap.size + 1 + 1; omega) (.string r3))
  refine hK.out _ _ ⟨(blk_cell (blk_far (blk_far (blk_far M0.out (by simp; omega) _) (by simp; omega) _) (by simp; omega) _) 0).trans rfl, (blk_cell (blk_far (blk_far (blk_far M0.out (by simp; omega) _) (by simp; omega) _) (by simp; omega) _) 1).trans rfl, (blk_cell (blk_far (blk_far (blk_far M0.out (by simp; omega) _) (by simp; omega) _) (by simp; omega) _) 2).trans rfl, (blk_cell (blk_far (blk_far (blk_far M1.out (by simp) _) (by simp) _) (by simp) _) 0).trans rfl, (blk_cell (blk_far (blk_far (blk_far M1.out (by simp) _) (by simp) _) (by simp) _) 1).trans rfl, (blk_cell (blk_far (blk_far (blk_far M1.out (by simp) _) (by simp) _) (by simp) _) 2).trans rfl⟩ (fun hHeld => ?_)
  clear hK K
  refine pure_ (i := 7) (N := some 5) (v := ?_) (a' := ?_) #[true, true, true, true, true, true, true, true] rfl rfl (by kernel_rfl) (fun _ _ _ h => h) (Or.inl ⟨by rfl, ?_⟩) ?_ ?_
  rotate_left
  · intro w'
    go_simp
    with_reducible rfl
  rotate_left
  · simp only [Act.put, List.setIfInBounds_toArray, List.set_cons_zero, List.set_cons_succ, i64_w, i32_w]
    rfl
  refine done_ (by kernel_rfl) ?_
  go_wp2
  refine bodyPost_ret (results_ct rfl _ _ (w.heap.size + 1 + 1) 23 #[.bool r1, .string r2, .string r3] (0, 0) _ rfl Q2.out Tryz.underlying23 rfl (by kernel_rfl)) rfl ?_
  exact ⟨rfl, Q5.out⟩
def sumF (a b : S23) : Option R4 := ratio_sum.f a.f0 a.f1 a.f2 b.f0 b.f1 b.f2
def prodF (a b : S23) : Option R4 := ratio_product.f a.f0 a.f1 a.f2 b.f0 b.f1 b.f2
def ratio_Add.f (a0_0 : Bool) (a0_1 a0_2 : ByteArray) (a1_0 : Bool) (a1_1 a1_2 : ByteArray) : Option (Bool × ByteArray × ByteArray × Int) := runF false ⟨a0_0, a0_1, a0_2⟩ ⟨a1_0, a1_1, a1_2⟩ (sumF ⟨a0_0, a0_1, a0_2⟩ ⟨a1_0, a1_1, a1_2⟩)
set_option maxRecDepth 100000 in
set_option maxHeartbeats 2000000 in
theorem Add_calls (a b : S23) (r1 : Bool) (r2 r3 : ByteArray) (r4 : Int) (w : World) (h : runF false a b (sumF a b) = some (r1, r2, r3, r4)) (hT : Tabs w) :
    Calls Tryz.prog 25 #[.agg #[.bool a.f0, .string a.f1, .string a.f2], .agg #[.bool b.f0, .string b.f1, .string b.f2]] w fun e w' => e = .returned (.tuple #[.agg #[.bool r1, .string r2, .string r3], .int .i64 r4]) ∧ Below w.heap.size w w' := by
  have hu23 := Tryz.underlying23
  have hu80 := Tryz.underlying80
  obtain ⟨W0, hW0⟩ : ∃ W0, ((w.alloc (.cells #[.bool a.f0, .string a.f1, .string a.f2] 23)).alloc (.cells #[.bool b.f0, .string b.f1, .string b.f2] 23)).alloc (.cells #[.bool false, .string ⟨#[]⟩, .string ⟨#[]⟩] 23) = W0 := ⟨_, rfl⟩
  have k0 : W0.heap[w.heap.size]? = some (.cells #[.bool a.f0, .string a.f1, .string a.f2] 23 (0, 0)) := by rw [← hW0]; exact blk_alloc (blk_alloc (blk_new _ _) _) _
  have k1 : W0.heap[w.heap.size + 1]? = some (.cells #[.bool b.f0, .string b.f1, .string b.f2] 23 (0, 0)) := by rw [← hW0]; exact blk_alloc (by have := blk_new (w.alloc (.cells #[.bool a.f0, .string a.f1, .string a.f2] 23)) (.cells #[.bool b.f0, .string b.f1, .string b.f2] 23); simpa using this) _
  have k2 : W0.heap[w.heap.size + 1 + 1]? = some (.cells #[.bool false, .string ⟨#[]⟩, .string ⟨#[]⟩] 23 (0, 0)) := by rw [← hW0]; have := blk_new ((w.alloc (.cells #[.bool a.f0, .string a.f1, .string a.f2] 23)).alloc (.cells #[.bool b.f0, .string b.f1, .string b.f2] 23)) (.cells #[.bool false, .string ⟨#[]⟩, .string ⟨#[]⟩] 23); simpa using this
  have hbel : Below w.heap.size w W0 := by rw [← hW0]; exact below_alloc (below_alloc (below_alloc (Below.refl _ _) _) _) _
  have HB0 := Aside0.mk hbel
  have HP := Aside0.mk (run_calls 71 false a b W0 (hT.below hbel) _ (fun s1 s2 s3 s4 W hh hW => ratio_sum.calls _ _ _ _ _ _ s1 s2 s3 s4 W hh hW) r1 r2 r3 r4 h (enters_of (P := Tryz.prog) Tryz.func71 (by kernel_rfl) rfl))
  have K2 := Aside0.mk k2
  have HW := Aside0.mk hW0
  clear k0 k1 k2 hbel hW0 hT h
  go_enter Tryz.func25, Tryz.ntmps25
  go_wp2_with (first
    | (go_at_call 72; rw [HW.out]; refine HP.out.mono ?_; rintro e w1 ⟨rfl, hb⟩; have HB1 := Aside0.mk (below_step HB0.out hb); have J2 := Aside0.mk (blk_below K2.out hb); clear hb HP; have z0 : w1.cell? ⟨w.heap.size + 1 + 1, 0, none⟩ = some (.bool false) := (blk_cell J2.out 0).trans rfl; have z1 : w1.cell? ⟨w.heap.size + 1 + 1, 1, none⟩ = some (.string ⟨#[]⟩) := (blk_cell J2.out 1).trans rfl; have z2 : w1.cell? ⟨w.heap.size + 1 + 1, 2, none⟩ = some (.string ⟨#[]⟩) := (blk_cell J2.out 2).trans rfl; have f0 := blk_frozen J2.out 0; have f1 := blk_frozen J2.out 1; have f2 := blk_frozen J2.out 2))
  have Q1 := Aside0.mk (blk_put (cs := #[.bool r1, .string ⟨#[]⟩, .string ⟨#[]⟩]) (blk_put J2.out 0 (.bool r1) rfl) 1 (.string r2) rfl)
  have Q2 := Aside0.mk (blk_put (cs := #[.bool r1, .string r2, .string ⟨#[]⟩]) Q1.out 2 (.string r3) rfl)
  have Q5 := Aside0.mk (((HB1.out.setCell (p := ⟨w.heap.size + 1 + 1, 0, none⟩) (by show w.heap.size ≤ w.heap.size + 1 + 1; omega) (.bool r1)).setCell (p := ⟨w.heap.size + 1 + 1, 1, none⟩) (by show w.heap.size ≤ w.heap.size + 1 + 1; omega) (.string r2)).setCell (p := ⟨w.heap.size + 1 + 1, 2, none⟩) (by show w.heap.size ≤ w.heap.size + 1 + 1; omega) (.string r3))
  refine bodyPost_ret (results_ct rfl _ _ (w.heap.size + 1 + 1) 23 #[.bool r1, .string r2, .string r3] (0, 0) _ rfl Q2.out Tryz.underlying23 rfl (by kernel_rfl)) rfl ?_
  exact ⟨rfl, Q5.out⟩
theorem ratio_Add.calls (a0_0 : Bool) (a0_1 a0_2 : ByteArray) (a1_0 : Bool) (a1_1 a1_2 : ByteArray) (r1 : Bool) (r2 r3 : ByteArray) (r4 : Int) (w : World) (h : ratio_Add.f a0_0 a0_1 a0_2 a1_0 a1_1 a1_2 = some (r1, r2, r3, r4)) (hT : Tabs w) :
    Calls Tryz.prog 25 #[.agg #[.bool a0_0, .string a0_1, .string a0_2], .agg #[.bool a1_0, .string a1_1, .string a1_2]] w fun e w' => e = .returned (.tuple #[.agg #[.bool r1, .string r2, .string r3], .int .i64 r4]) ∧ Below w.heap.size w w' := Add_calls ⟨a0_0, a0_1, a0_2⟩ ⟨a1_0, a1_1, a1_2⟩ r1 r2 r3 r4 w h hT
def ratio_Sub.f (a0_0 : Bool) (a0_1 a0_2 : ByteArray) (a1_0 : Bool) (a1_1 a1_2 : ByteArray) : Option (Bool × ByteArray × ByteArray × Int) := runF false ⟨a0_0, a0_1, a0_2⟩ ⟨a1_0, a1_1, a1_2⟩ (sub1F ⟨a0_0, a0_1, a0_2⟩ ⟨a1_0, a1_1, a1_2⟩)
set_option maxRecDepth 100000 in
set_option maxHeartbeats 2000000 in
theorem Sub_calls (a b : S23) (r1 : Bool) (r2 r3 : ByteArray) (r4 : Int) (w : World) (h : runF false a b (sub1F a b) = some (r1, r2, r3, r4)) (hT : Tabs w) :
    Calls Tryz.prog 28 #[.agg #[.bool a.f0, .string a.f1, .string a.f2], .agg #[.bool b.f0, .string b.f1, .string b.f2]] w fun e w' => e = .returned (.tuple #[.agg #[.bool r1, .string r2, .string r3], .int .i64 r4]) ∧ Below w.heap.size w w' := by
  have hu23 := Tryz.underlying23
  have hu80 := Tryz.underlying80
  obtain ⟨W0, hW0⟩ : ∃ W0, ((w.alloc (.cells #[.bool a.f0, .string a.f1, .string a.f2] 23)).alloc (.cells #[.bool b.f0, .string b.f1, .string b.f2] 23)).alloc (.cells #[.bool false, .string ⟨#[]⟩, .string ⟨#[]⟩] 23) = W0 := ⟨_, rfl⟩
  have k0 : W0.heap[w.heap.size]? = some (.cells #[.bool a.f0, .string a.f1, .string a.f2] 23 (0, 0)) := by rw [← hW0]; exact blk_alloc (blk_alloc (blk_new _ _) _) _
  have k1 : W0.heap[w.heap.size + 1]? = some (.cells #[.bool b.f0, .string b.f1, .string b.f2] 23 (0, 0)) := by rw [← hW0]; exact blk_alloc (by have := blk_new (w.alloc (.cells #[.bool a.f0, .string a.f1, .string a.f2] 23)) (.cells #[.bool b.f0, .string b.f1, .string b.f2] 23); simpa using this) _
  have k2 : W0.heap[w.heap.size + 1 + 1]? = some (.cells #[.bool false, .string ⟨#[]⟩, .string ⟨#[]⟩] 23 (0, 0)) := by rw [← hW0]; have := blk_new ((w.alloc (.cells #[.bool a.f0, .string a.f1, .string a.f2] 23)).alloc (.cells #[.bool b.f0, .string b.f1, .string b.f2] 23)) (.cells #[.bool false, .string ⟨#[]⟩, .string ⟨#[]⟩] 23); simpa using this
  have hbel : Below w.heap.size w W0 := by rw [← hW0]; exact below_alloc (below_alloc (below_alloc (Below.refl _ _) _) _) _
  have HB0 := Aside0.mk hbel
  have HP := Aside0.mk (run_calls 80 false a b W0 (hT.below hbel) _ (fun s1 s2 s3 s4 W hh hW => sub1_calls a b s1 s2 s3 s4 W hh hW) r1 r2 r3 r4 h (enters_of (P := Tryz.prog) Tryz.func80 (by kernel_rfl) rfl))
  have K2 := Aside0.mk k2
  have HW := Aside0.mk hW0
  clear k0 k1 k2 hbel hW0 hT h
  go_enter Tryz.func28, Tryz.ntmps28
  go_wp2_with (first
    | (go_at_call 72; rw [HW.out]; refine HP.out.mono ?_; rintro e w1 ⟨rfl, hb⟩; have HB1 := Aside0.mk (below_step HB0.out hb); have J2 := Aside0.mk (blk_below K2.out hb); clear hb HP; have z0 : w1.cell? ⟨w.heap.size + 1 + 1, 0, none⟩ = some (.bool false) := (blk_cell J2.out 0).trans rfl; have z1 : w1.cell? ⟨w.heap.size + 1 + 1, 1, none⟩ = some (.string ⟨#[]⟩) := (blk_cell J2.out 1).trans rfl; have z2 : w1.cell? ⟨w.heap.size + 1 + 1, 2, none⟩ = some (.string ⟨#[]⟩) := (blk_cell J2.out 2).trans rfl; have f0 := blk_frozen J2.out 0; have f1 := blk_frozen J2.out 1; have f2 := blk_frozen J2.out 2))
  have Q1 := Aside0.mk (blk_put (cs := #[.bool r1, .string ⟨#[]⟩, .string ⟨#[]⟩]) (blk_put J2.out 0 (.bool r1) rfl) 1 (.string r2) rfl)
  have Q2 := Aside0.mk (blk_put (cs := #[.bool r1, .string r2, .string ⟨#[]⟩]) Q1.out 2 (.string r3) rfl)
  have Q5 := Aside0.mk (((HB1.out.setCell (p := ⟨w.heap.size + 1 + 1, 0, none⟩) (by show w.heap.size ≤ w.heap.size + 1 + 1; omega) (.bool r1)).setCell (p := ⟨w.heap.size + 1 + 1, 1, none⟩) (by show w.heap.size ≤ w.heap.size + 1 + 1; omega) (.string r2)).setCell (p := ⟨w.heap.size + 1 + 1, 2, none⟩) (by show w.heap.size ≤ w.heap.size + 1 + 1; omega) (.string r3))
  refine bodyPost_ret (results_ct rfl _ _ (w.heap.size + 1 + 1) 23 #[.bool r1, .string r2, .string r3] (0, 0) _ rfl Q2.out Tryz.underlying23 rfl (by kernel_rfl)) rfl ?_
  exact ⟨rfl, Q5.out⟩
theorem ratio_Sub.calls (a0_0 : Bool) (a0_1 a0_2 : ByteArray) (a1_0 : Bool) (a1_1 a1_2 : ByteArray) (r1 : Bool) (r2 r3 : ByteArray) (r4 : Int) (w : World) (h : ratio_Sub.f a0_0 a0_1 a0_2 a1_0 a1_1 a1_2 = some (r1, r2, r3, r4)) (hT : Tabs w) :
    Calls Tryz.prog 28 #[.agg #[.bool a0_0, .string a0_1, .string a0_2], .agg #[.bool a1_0, .string a1_1, .string a1_2]] w fun e w' => e = .returned (.tuple #[.agg #[.bool r1, .string r2, .string r3], .int .i64 r4]) ∧ Below w.heap.size w w' := Sub_calls ⟨a0_0, a0_1, a0_2⟩ ⟨a1_0, a1_1, a1_2⟩ r1 r2 r3 r4 w h hT
def ratio_Mul.f (a0_0 : Bool) (a0_1 a0_2 : ByteArray) (a1_0 : Bool) (a1_1 a1_2 : ByteArray) : Option (Bool × ByteArray × ByteArray × Int) := runF false ⟨a0_0, a0_1, a0_2⟩ ⟨a1_0, a1_1, a1_2⟩ (prodF ⟨a0_0, a0_1, a0_2⟩ ⟨a1_0, a1_1, a1_2⟩)
set_option maxRecDepth 100000 in
set_option maxHeartbeats 2000000 in
theorem Mul_calls (a b : S23) (r1 : Bool) (r2 r3 : ByteArray) (r4 : Int) (w : World) (h : runF false a b (prodF a b) = some (r1, r2, r3, r4)) (hT : Tabs w) :
    Calls Tryz.prog 30 #[.agg #[.bool a.f0, .string a.f1, .string a.f2], .agg #[.bool b.f0, .string b.f1, .string b.f2]] w fun e w' => e = .returned (.tuple #[.agg #[.bool r1, .string r2, .string r3], .int .i64 r4]) ∧ Below w.heap.size w w' := by
  have hu23 := Tryz.underlying23
  have hu80 := Tryz.underlying80
  obtain ⟨W0, hW0⟩ : ∃ W0, ((w.alloc (.cells #[.bool a.f0, .string a.f1, .string a.f2] 23)).alloc (.cells #[.bool b.f0, .string b.f1, .string b.f2] 23)).alloc (.cells #[.bool false, .string ⟨#[]⟩, .string ⟨#[]⟩] 23) = W0 := ⟨_, rfl⟩
  have k0 : W0.heap[w.heap.size]? = some (.cells #[.bool a.f0, .string a.f1, .string a.f2] 23 (0, 0)) := by rw [← hW0]; exact blk_alloc (blk_alloc (blk_new _ _) _) _
  have k1 : W0.heap[w.heap.size + 1]? = some (.cells #[.bool b.f0, .string b.f1, .string b.f2] 23 (0, 0)) := by rw [← hW0]; exact blk_alloc (by have := blk_new (w.alloc (.cells #[.bool a.f0, .string a.f1, .string a.f2] 23)) (.cells #[.bool b.f0, .string b.f1, .string b.f2] 23); simpa using this) _
  have k2 : W0.heap[w.heap.size + 1 + 1]? = some (.cells #[.bool false, .string ⟨#[]⟩, .string ⟨#[]⟩] 23 (0, 0)) := by rw [← hW0]; have := blk_new ((w.alloc (.cells #[.bool a.f0, .string a.f1, .string a.f2] 23)).alloc (.cells #[.bool b.f0, .string b.f1, .string b.f2] 23)) (.cells #[.bool false, .string ⟨#[]⟩, .string ⟨#[]⟩] 23); simpa using this
  have hbel : Below w.heap.size w W0 := by rw [← hW0]; exact below_alloc (below_alloc (below_alloc (Below.refl _ _) _) _) _
  have HB0 := Aside0.mk hbel
  have HP := Aside0.mk (run_calls 83 false a b W0 (hT.below hbel) _ (fun s1 s2 s3 s4 W hh hW => ratio_product.calls _ _ _ _ _ _ s1 s2 s3 s4 W hh hW) r1 r2 r3 r4 h (enters_of (P := Tryz.prog) Tryz.func83 (by kernel_rfl) rfl))
  have K2 := Aside0.mk k2
  have HW := Aside0.mk hW0
  clear k0 k1 k2 hbel hW0 hT h
  go_enter Tryz.func30, Tryz.ntmps30
  go_wp2_with (first
    | (go_at_call 72; rw [HW.out]; refine HP.out.mono ?_; rintro e w1 ⟨rfl, hb⟩; have HB1 := Aside0.mk (below_step HB0.out hb); have J2 := Aside0.mk (blk_below K2.out hb); clear hb HP; have z0 : w1.cell? ⟨w.heap.size + 1 + 1, 0, none⟩ = some (.bool false) := (blk_cell J2.out 0).trans rfl; have z1 : w1.cell? ⟨w.heap.size + 1 + 1, 1, none⟩ = some (.string ⟨#[]⟩) := (blk_cell J2.out 1).trans rfl; have z2 : w1.cell? ⟨w.heap.size + 1 + 1, 2, none⟩ = some (.string ⟨#[]⟩) := (blk_cell J2.out 2).trans rfl; have f0 := blk_frozen J2.out 0; have f1 := blk_frozen J2.out 1; have f2 := blk_frozen J2.out 2))
  have Q1 := Aside0.mk (blk_put (cs := #[.bool r1, .string ⟨#[]⟩, .string ⟨#[]⟩]) (blk_put J2.out 0 (.bool r1) rfl) 1 (.string r2) rfl)
  have Q2 := Aside0.mk (blk_put (cs := #[.bool r1, .string r2, .string ⟨#[]⟩]) Q1.out 2 (.string r3) rfl)
  have Q5 := Aside0.mk (((HB1.out.setCell (p := ⟨w.heap.size + 1 + 1, 0, none⟩) (by show w.heap.size ≤ w.heap.size + 1 + 1; omega) (.bool r1)).setCell (p := ⟨w.heap.size + 1 + 1, 1, none⟩) (by show w.heap.size ≤ w.heap.size + 1 + 1; omega) (.string r2)).setCell (p := ⟨w.heap.size + 1 + 1, 2, none⟩) (by show w.heap.size ≤ w.heap.size + 1 + 1; omega) (.string r3))
  refine bodyPost_ret (results_ct rfl _ _ (w.heap.size + 1 + 1) 23 #[.bool r1, .string r2, .string r3] (0, 0) _ rfl Q2.out Tryz.underlying23 rfl (by kernel_rfl)) rfl ?_
  exact ⟨rfl, Q5.out⟩
theorem ratio_Mul.calls (a0_0 : Bool) (a0_1 a0_2 : ByteArray) (a1_0 : Bool) (a1_1 a1_2 : ByteArray) (r1 : Bool) (r2 r3 : ByteArray) (r4 : Int) (w : World) (h : ratio_Mul.f a0_0 a0_1 a0_2 a1_0 a1_1 a1_2 = some (r1, r2, r3, r4)) (hT : Tabs w) :
    Calls Tryz.prog 30 #[.agg #[.bool a0_0, .string a0_1, .string a0_2], .agg #[.bool a1_0, .string a1_1, .string a1_2]] w fun e w' => e = .returned (.tuple #[.agg #[.bool r1, .string r2, .string r3], .int .i64 r4]) ∧ Below w.heap.size w w' := Mul_calls ⟨a0_0, a0_1, a0_2⟩ ⟨a1_0, a1_1, a1_2⟩ r1 r2 r3 r4 w h hT
def ratio_Div.f (a0_0 : Bool) (a0_1 a0_2 : ByteArray) (a1_0 : Bool) (a1_1 a1_2 : ByteArray) : Option (Bool × ByteArray × ByteArray × Int) := runF true ⟨a0_0, a0_1, a0_2⟩ ⟨a1_0, a1_1, a1_2⟩ (div1F ⟨a0_0, a0_1, a0_2⟩ ⟨a1_0, a1_1, a1_2⟩)
set_option maxRecDepth 100000 in
set_option maxHeartbeats 2000000 in
theorem Div_calls (a b : S23) (r1 : Bool) (r2 r3 : ByteArray) (r4 : Int) (w : World) (h : runF true a b (div1F a b) = some (r1, r2, r3, r4)) (hT : Tabs w) :
    Calls Tryz.prog 32 #[.agg #[.bool a.f0, .string a.f1, .string a.f2], .agg #[.bool b.f0, .string b.f1, .string b.f2]] w fun e w' => e = .returned (.tuple #[.agg #[.bool r1, .string r2, .string r3], .int .i64 r4]) ∧ Below w.heap.size w w' := by
  have hu23 := Tryz.underlying23
  have hu80 := Tryz.underlying80
  obtain ⟨W0, hW0⟩ : ∃ W0, ((w.alloc (.cells #[.bool a.f0, .string a.f1, .string a.f2] 23)).alloc (.cells #[.bool b.f0, .string b.f1, .string b.f2] 23)).alloc (.cells #[.bool false, .string ⟨#[]⟩, .string ⟨#[]⟩] 23) = W0 := ⟨_, rfl⟩
  have k0 : W0.heap[w.heap.size]? = some (.cells #[.bool a.f0, .string a.f1, .string a.f2] 23 (0, 0)) := by rw [← hW0]; exact blk_alloc (blk_alloc (blk_new _ _) _) _
  have k1 : W0.heap[w.heap.size + 1]? = some (.cells #[.bool b.f0, .string b.f1, .string b.f2] 23 (0, 0)) := by rw [← hW0]; exact blk_alloc (by have := blk_new (w.alloc (.cells #[.bool a.f0, .string a.f1, .string a.f2] 23)) (.cells #[.bool b.f0, .string b.f1, .string b.f2] 23); simpa using this) _
  have k2 : W0.heap[w.heap.size + 1 + 1]? = some (.cells #[.bool false, .string ⟨#[]⟩, .string ⟨#[]⟩] 23 (0, 0)) := by rw [← hW0]; have := blk_new ((w.alloc (.cells #[.bool a.f0, .string a.f1, .string a.f2] 23)).alloc (.cells #[.bool b.f0, .string b.f1, .string b.f2] 23)) (.cells #[.bool false, .string ⟨#[]⟩, .string ⟨#[]⟩] 23); simpa using this
  have hbel : Below w.heap.size w W0 := by rw [← hW0]; exact below_alloc (below_alloc (below_alloc (Below.refl _ _) _) _) _
  have HB0 := Aside0.mk hbel
  have HP := Aside0.mk (run_calls 84 true a b W0 (hT.below hbel) _ (fun s1 s2 s3 s4 W hh hW => div1_calls a b s1 s2 s3 s4 W hh hW) r1 r2 r3 r4 h (enters_of (P := Tryz.prog) Tryz.func84 (by kernel_rfl) rfl))
  have K2 := Aside0.mk k2
  have HW := Aside0.mk hW0
  clear k0 k1 k2 hbel hW0 hT h
  go_enter Tryz.func32, Tryz.ntmps32
  go_wp2_with (first
    | (go_at_call 72; rw [HW.out]; refine HP.out.mono ?_; rintro e w1 ⟨rfl, hb⟩; have HB1 := Aside0.mk (below_step HB0.out hb); have J2 := Aside0.mk (blk_below K2.out hb); clear hb HP; have z0 : w1.cell? ⟨w.heap.size + 1 + 1, 0, none⟩ = some (.bool false) := (blk_cell J2.out 0).trans rfl; have z1 : w1.cell? ⟨w.heap.size + 1 + 1, 1, none⟩ = some (.string ⟨#[]⟩) := (blk_cell J2.out 1).trans rfl; have z2 : w1.cell? ⟨w.heap.size + 1 + 1, 2, none⟩ = some (.string ⟨#[]⟩) := (blk_cell J2.out 2).trans rfl; have f0 := blk_frozen J2.out 0; have f1 := blk_frozen J2.out 1; have f2 := blk_frozen J2.out 2))
  have Q1 := Aside0.mk (blk_put (cs := #[.bool r1, .string ⟨#[]⟩, .string ⟨#[]⟩]) (blk_put J2.out 0 (.bool r1) rfl) 1 (.string r2) rfl)
  have Q2 := Aside0.mk (blk_put (cs := #[.bool r1, .string r2, .string ⟨#[]⟩]) Q1.out 2 (.string r3) rfl)
  have Q5 := Aside0.mk (((HB1.out.setCell (p := ⟨w.heap.size + 1 + 1, 0, none⟩) (by show w.heap.size ≤ w.heap.size + 1 + 1; omega) (.bool r1)).setCell (p := ⟨w.heap.size + 1 + 1, 1, none⟩) (by show w.heap.size ≤ w.heap.size + 1 + 1; omega) (.string r2)).setCell (p := ⟨w.heap.size + 1 + 1, 2, none⟩) (by show w.heap.size ≤ w.heap.size + 1 + 1; omega) (.string r3))
  refine bodyPost_ret (results_ct rfl _ _ (w.heap.size + 1 + 1) 23 #[.bool r1, .string r2, .string r3] (0, 0) _ rfl Q2.out Tryz.underlying23 rfl (by kernel_rfl)) rfl ?_
  exact ⟨rfl, Q5.out⟩
theorem ratio_Div.calls (a0_0 : Bool) (a0_1 a0_2 : ByteArray) (a1_0 : Bool) (a1_1 a1_2 : ByteArray) (r1 : Bool) (r2 r3 : ByteArray) (r4 : Int) (w : World) (h : ratio_Div.f a0_0 a0_1 a0_2 a1_0 a1_1 a1_2 = some (r1, r2, r3, r4)) (hT : Tabs w) :
    Calls Tryz.prog 32 #[.agg #[.bool a0_0, .string a0_1, .string a0_2], .agg #[.bool a1_0, .string a1_1, .string a1_2]] w fun e w' => e = .returned (.tuple #[.agg #[.bool r1, .string r2, .string r3], .int .i64 r4]) ∧ Below w.heap.size w w' := Div_calls ⟨a0_0, a0_1, a0_2⟩ ⟨a1_0, a1_1, a1_2⟩ r1 r2 r3 r4 w h hT
end Go.Proofs.YtfaibifilpfikaaGreatDoor.N15

namespace Go.Proofs.YtfaibifilpfikaaGreatDoor.P3
open Go.Proofs.YtfaibifilpfikaaGreatDoorW.PrintWords Go.Proofs.YtfaibifilpfikaaGreatDoor.A Go.Proofs.YtfaibifilpfikaaGreatDoor.B Go.Proofs.YtfaibifilpfikaaGreatDoor.N10 Go.Proofs.YtfaibifilpfikaaGreatDoor.N11 Go.Proofs.YtfaibifilpfikaaGreatDoor.X1 Go.Proofs.YtfaibifilpfikaaGreatDoor.X2 Go.Proofs.YtfaibifilpfikaaGreatDoor.C Go.Proofs.YtfaibifilpfikaaGreatDoor.N12 Go.Proofs.YtfaibifilpfikaaGreatDoor.N13 Go.Proofs.YtfaibifilpfikaaGreatDoor.P1 Go.Proofs.YtfaibifilpfikaaGreatDoor.N14 Go.Proofs.YtfaibifilpfikaaGreatDoor.N15
open Rq
set_option linter.unusedVariables false
set_option linter.unusedSimpArgs false

/-! ### Signs -/
theorem sg_mul (s t : Bool) (n m : Nat) : sg s n * sg t m = sg (s != t) (n * m) := by
  cases s <;> cases t <;> simp [sg, Int.neg_mul, Int.mul_neg]
theorem sg_same (s : Bool) (n m : Nat) : sg s n + sg s m = sg s (n + m) := by
  cases s <;> simp [sg] <;> omega
theorem sg_less {s t : Bool} (h : s ≠ t) {n m : Nat} (hl : n < m) : sg s n + sg t m = sg t (m - n) := by
  cases s <;> cases t <;> simp_all [sg] <;> omega
theorem sg_more {s t : Bool} (h : s ≠ t) {n m : Nat} (hl : ¬ n < m) : sg s n + sg t m = sg s (n - m) := by
  cases s <;> cases t <;> simp_all [sg] <;> omega
theorem sg_nat (s : Bool) (n m : Nat) : sg s n * (m : Int) = sg s (n * m) := by
  cases s <;> simp [sg, Int.neg_mul]
theorem sg_zero (s : Bool) : sg s 0 = 0 := by cases s <;> simp [sg]
theorem sg_not (s : Bool) (n : Nat) : sg (!s) n = - sg s n := by cases s <;> simp [sg]
theorem mk_mul (s t : Bool) (n m d e : Nat) : mkRat (sg s n) d * mkRat (sg t m) e = mkRat (sg (s != t) (n * m)) (d * e) := by
  rw [Rat.mkRat_mul_mkRat, sg_mul]
theorem mk_same (s : Bool) (n m : Nat) {d e : Nat} (hd : d ≠ 0) (he : e ≠ 0) : mkRat (sg s n) d + mkRat (sg s m) e = mkRat (sg s (n * e + m * d)) (d * e) := by
  rw [Rat.mkRat_add_mkRat _ _ hd he, sg_nat, sg_nat, sg_same]
theorem mk_less {s t : Bool} (h : s ≠ t) {n m d e : Nat} (hd : d ≠ 0) (he : e ≠ 0) (hl : n * e < m * d) : mkRat (sg s n) d + mkRat (sg t m) e = mkRat (sg t (m * d - n * e)) (d * e) := by
  rw [Rat.mkRat_add_mkRat _ _ hd he, sg_nat, sg_nat, sg_less h hl]
theorem mk_more {s t : Bool} (h : s ≠ t) {n m d e : Nat} (hd : d ≠ 0) (he : e ≠ 0) (hl : ¬ n * e < m * d) : mkRat (sg s n) d + mkRat (sg t m) e = mkRat (sg s (n * e - m * d)) (d * e) := by
  rw [Rat.mkRat_add_mkRat _ _ hd he, sg_nat, sg_nat, sg_more h hl]
theorem mk_inv (s : Bool) (n d : Nat) : (mkRat (sg s n) d)⁻¹ = mkRat (sg s d) n := by
  rw [← Rat.divInt_ofNat, Rat.inv_divInt]
  cases s with
  | false => rw [← Rat.divInt_ofNat]; rfl
  | true =>
    show Rat.divInt (d : Int) (-(n : Int)) = mkRat (-(d : Int)) n
    rw [Rat.divInt_neg', Rat.divInt_ofNat]

/-! ### Sizes -/
/-- Numerator and denominator have at most k digits. -/
def Sz (q : Rat) (k : Nat) : Prop := q.num.natAbs < 10 ^ k ∧ q.den < 10 ^ k
theorem Sz.le {q : Rat} {k l : Nat} (h : Sz q k) (hl : k ≤ l) : Sz q l :=
  ⟨Nat.lt_of_lt_of_le h.1 (Nat.pow_le_pow_right (by decide) hl), Nat.lt_of_lt_of_le h.2 (Nat.pow_le_pow_right (by decide) hl)⟩
theorem sz_mk {s : Bool} {n d k : Nat} (hd : d ≠ 0) (hn : n < 10 ^ k) (he : d < 10 ^ k) : Sz (mkRat (sg s n) d) k := by
  refine ⟨?_, ?_⟩
  · rw [low_num s n d hd, natAbs_sg]
    exact Nat.lt_of_le_of_lt (Nat.div_le_self _ _) hn
  · rw [low_den s n d hd]
    exact Nat.lt_of_le_of_lt (Nat.div_le_self _ _) he
theorem q_eq (q : Rat) : mkRat (sg (eS q) q.num.natAbs) q.den = q := by
  have h := rat_enc q
  unfold rat eN eD at h
  rwa [nv_dec, nv_dec] at h
theorem sz_mul {p q : Rat} {k l : Nat} (hp : Sz p k) (hq : Sz q l) : Sz (p * q) (k + l) := by
  rw [← q_eq p, ← q_eq q, mk_mul]
  refine sz_mk (Nat.mul_ne_zero p.den_nz q.den_nz) ?_ ?_
  · rw [Nat.pow_add]; exact Nat.mul_lt_mul'' hp.1 hq.1
  · rw [Nat.pow_add]; exact Nat.mul_lt_mul'' hp.2 hq.2
theorem sz_add {p q : Rat} {k l : Nat} (hp : Sz p k) (hq : Sz q l) : Sz (p + q) (k + l + 1) := by
  have h1 : p.num.natAbs * q.den < 10 ^ (k + l) := by rw [Nat.pow_add]; exact Nat.mul_lt_mul'' hp.1 hq.2
  have h2 : q.num.natAbs * p.den < 10 ^ (k + l) := by rw [Nat.pow_add, Nat.mul_comm (10 ^ k)]; exact Nat.mul_lt_mul'' hq.1 hp.2
  have h3 : p.den * q.den < 10 ^ (k + l) := by rw [Nat.pow_add]; exact Nat.mul_lt_mul'' hp.2 hq.2
  have h0 := Nat.mul_ne_zero p.den_nz q.den_nz
  rw [← q_eq p, ← q_eq q]
  have hp10 : 10 ^ (k + l + 1) = 10 ^ (k + l) * 10 := Nat.pow_succ ..
  by_cases hs : eS p = eS q
  · rw [hs, mk_same _ _ _ p.den_nz q.den_nz]
    exact sz_mk h0 (by omega) (by omega)
  · by_cases hl : p.num.natAbs * q.den < q.num.natAbs * p.den
    · rw [mk_less hs p.den_nz q.den_nz hl]
      exact sz_mk h0 (by omega) (by omega)
    · rw [mk_more hs p.den_nz q.den_nz hl]
      exact sz_mk h0 (by omega) (by omega)
theorem sz_neg {q : Rat} {k : Nat} (h : Sz q k) : Sz (-q) k := by
  unfold Sz
  rw [Rat.neg_num, Rat.neg_den, Int.natAbs_neg]
  exact h
theorem sz_sub {p q : Rat} {k l : Nat} (hp : Sz p k) (hq : Sz q l) : Sz (p - q) (k + l + 1) := by
  rw [Rat.sub_eq_add_neg]
  exact sz_add hp (sz_neg hq)
theorem sz_inv {q : Rat} {k : Nat} (h0 : q ≠ 0) (h : Sz q k) : Sz q⁻¹ k := by
  have hn : q.num.natAbs ≠ 0 := fun e => h0 (by rw [← Rat.num_eq_zero]; omega)
  rw [← q_eq q, mk_inv]
  exact sz_mk hn h.2 h.1
theorem sz_div {p q : Rat} {k l : Nat} (h0 : q ≠ 0) (hp : Sz p k) (hq : Sz q l) : Sz (p / q) (k + l) := by
  rw [Rat.div_def]
  exact sz_mul hp (sz_inv h0 hq)
theorem sz_int (n : Int) {k : Nat} (h : n.natAbs < 10 ^ k) (hk : 1 ≤ k) : Sz (n : Rat) k := by
  refine ⟨by rw [Rat.num_intCast]; exact h, ?_⟩
  rw [Rat.den_intCast]
  exact Nat.lt_of_lt_of_le (by decide) (Nat.pow_le_pow_right (by decide) hk)

/-! ### Numbers as they are written -/
def q23 (a : S23) : Rat := rat a.f0 a.f1 a.f2
def enc (q : Rat) : R4 := (eS q, eN q, eD q, 0)
def encS (q : Rat) : S23 := ⟨eS q, eN q, eD q⟩
theorem q23_encS (q : Rat) : q23 (encS q) = q := rat_enc q
theorem encS_q23 {a : S23} (h : vld a = true) : encS (q23 a) = a := by
  obtain ⟨h1, h2, h3⟩ := enc_rat h
  unfold encS q23
  rw [h1, h2, h3]
theorem size_eN {q : Rat} {k : Nat} (h : q.num.natAbs < 10 ^ (k + 1)) : (eN q).size ≤ k + 1 := dec_size_le h
theorem size_eD {q : Rat} {k : Nat} (h : q.den < 10 ^ (k + 1)) : (eD q).size ≤ k + 1 := dec_size_le h
theorem vld_encS {q : Rat} (h : Sz q 300) : vld (encS q) = true := valid_enc (dec_size_m (k := 299) (m := 300) rfl h.1) (dec_size_m (k := 299) (m := 300) rfl h.2)
theorem sz_q23 {a : S23} (h : vld a = true) {k : Nat} (h1 : a.f1.size ≤ k) (h2 : a.f2.size ≤ k) : Sz (q23 a) k := by
  obtain ⟨a1, a2, a3, a4, a5⟩ := valid_parts h
  exact sz_mk a3 (nv_lt a1 h1) (nv_lt a2 h2)
/-- Both parts have at most 140 digits. -/
def sm (a : S23) : Bool := decide (a.f1.size ≤ 140) && decide (a.f2.size ≤ 140)
theorem sm_iff {a : S23} : sm a = true ↔ a.f1.size ≤ 140 ∧ a.f2.size ≤ 140 := by unfold sm; rw [Bool.and_eq_true, decide_eq_true_eq, decide_eq_true_eq]
theorem sm_encS {q : Rat} (h : Sz q 140) : sm (encS q) = true := sm_iff.2 ⟨size_eN (k := 139) h.1, size_eD (k := 139) h.2⟩
theorem mulS_small {a b : ByteArray} (ha : isN a = true) (hb : isN b = true) (sa : a.size ≤ 140) (sb : b.size ≤ 140) : mulS a b = dec (nv a * nv b) ∧ isN (mulS a b) = true ∧ nv (mulS a b) = nv a * nv b ∧ nv a * nv b < 10 ^ 280 := by
  have h : nv a * nv b < 10 ^ 280 := mul_lt (m := 140) (k := 140) (n := 280) (nv_lt ha sa) (nv_lt hb sb) (by decide)
  have h3 : nv a * nv b < 10 ^ 300 := lt_pow (a := 280) (b := 300) h (by decide)
  have e : mulS a b = dec (nv a * nv b) := by
    unfold mulS resS
    rw [if_pos (ok2_iff.2 ⟨ha, hb⟩), txS_small h3]
  exact ⟨e, by rw [e]; exact Rq.isN_dec h3, by rw [e, nv_dec], h⟩
theorem prod_f (s t : Bool) {n d m e : ByteArray} (hn : isN n = true) (hd : isN d = true) (hm : isN m = true) (he : isN e = true) (d0 : nv d ≠ 0) (e0 : nv e ≠ 0)
    (sn : n.size ≤ 140) (sd : d.size ≤ 140) (sm : m.size ≤ 140) (se : e.size ≤ 140) : ratio_product.f s n d t m e = some (enc (rat s n d * rat t m e)) := by
  obtain ⟨a1, a2, a3, a4⟩ := mulS_small hn hm sn sm
  obtain ⟨b1, b2, b3, b4⟩ := mulS_small hd he sd se
  unfold ratio_product.f
  rw [lowest_f _ a2 b2 (by rw [b3]; exact Nat.mul_ne_zero d0 e0), a3, b3]
  unfold rat
  rw [mk_mul]
  rfl
theorem dec_ok {n : Nat} (h : n < 10 ^ 300) : isN (dec n) = true ∧ nv (dec n) = n := ⟨Rq.isN_dec h, nv_dec n⟩
theorem sum_f (s t : Bool) {n d m e : ByteArray} (hn : isN n = true) (hd : isN d = true) (hm : isN m = true) (he : isN e = true) (d0 : nv d ≠ 0) (e0 : nv e ≠ 0)
    (sn : n.size ≤ 140) (sd : d.size ≤ 140) (sm : m.size ≤ 140) (se : e.size ≤ 140) : ratio_sum.f s n d t m e = some (enc (rat s n d + rat t m e)) := by
  obtain ⟨a1, a2, a3, a4⟩ := mulS_small hn he sn se
  obtain ⟨b1, b2, b3, b4⟩ := mulS_small hm hd sm sd
  obtain ⟨c1, c2, c3, c4⟩ := mulS_small hd he sd se
  have c0 : nv (mulS d e) ≠ 0 := by rw [c3]; exact Nat.mul_ne_zero d0 e0
  have hpow : (10 : Nat) ^ 280 * 2 ≤ 10 ^ 300 := pow_two (a := 280) (b := 300) (by decide)
  have ok : ok2 (mulS n e) (mulS m d) = true := ok2_iff.2 ⟨a2, b2⟩
  have ok' : ok2 (mulS m d) (mulS n e) = true := ok2_iff.2 ⟨b2, a2⟩
  unfold ratio_sum.f rat
  by_cases hs : s = t
  · subst hs
    rw [if_pos rfl]
    have h3 : nv n * nv e + nv m * nv d < 10 ^ 300 := by omega
    have : addS (mulS n e) (mulS m d) = dec (nv n * nv e + nv m * nv d) := by
      unfold addS resS
      rw [if_pos ok, a3, b3, txS_small h3]
    rw [this, lowest_f _ (dec_ok h3).1 c2 c0, (dec_ok h3).2, c3, mk_same _ _ _ d0 e0]
    rfl
  · rw [if_neg hs]
    have hc : cmpR (mulS n e) (mulS m d) = N4.cmpN (nv n * nv e) (nv m * nv d) := by
      unfold cmpR
      rw [if_pos ok, a3, b3]
    rw [hc]
    by_cases hl : nv n * nv e < nv m * nv d
    · rw [if_pos ((cmpN_neg _ _).2 hl)]
      have h3 : nv m * nv d - nv n * nv e < 10 ^ 300 := by omega
      have : subS (mulS m d) (mulS n e) = dec (nv m * nv d - nv n * nv e) := by
        unfold subS
        rw [if_pos ok', a3, b3, if_neg (by omega), txS_small h3]
      rw [this, lowest_f _ (dec_ok h3).1 c2 c0, (dec_ok h3).2, c3, mk_less hs d0 e0 hl]
      rfl
    · rw [if_neg (fun h => hl ((cmpN_neg _ _).1 h))]
      have h3 : nv n * nv e - nv m * nv d < 10 ^ 300 := by omega
      have : subS (mulS n e) (mulS m d) = dec (nv n * nv e - nv m * nv d) := by
        unfold subS
        rw [if_pos ok, a3, b3, if_neg hl, txS_small h3]
      rw [this, lowest_f _ (dec_ok h3).1 c2 c0, (dec_ok h3).2, c3, mk_more hs d0 e0 hl]
      rfl
def bad (e : Int) : R4 := (false, ⟨#[]⟩, ⟨#[]⟩, e)
/-- What an operation answers whose value is q. -/
def res (z : Bool) (a b : S23) (q : Rat) : R4 :=
  if vld a = true ∧ vld b = true then (if z = true ∧ q23 b = 0 then bad 15 else if sm a = true ∧ sm b = true then enc q else bad 2) else bad 1
theorem q23_zero {b : S23} (h : vld b = true) : q23 b = 0 ↔ nv b.f1 = 0 := by
  obtain ⟨h1, h2, h3, h4, h5⟩ := valid_parts h
  unfold q23 rat
  rw [Rat.mkRat_eq_zero h3]
  unfold sg
  split <;> omega
theorem run_res (z : Bool) (a b : S23) (o : Option R4) (q : Rat) (ho : vld a = true → vld b = true → ¬ (z = true ∧ q23 b = 0) → sm a = true → sm b = true → o = some (enc q)) : runF z a b o = some (res z a b q) := by
  unfold runF res
  by_cases ha : vld a = true
  · rw [if_pos ha]
    by_cases hb : vld b = true
    · rw [if_pos hb, if_pos (show vld a = true ∧ vld b = true from ⟨ha, hb⟩)]
      have hz : ((z && (b.f1.toList == [48])) = true) ↔ (z = true ∧ q23 b = 0) := by
        rw [beq_zero (valid_parts hb).1, Bool.and_eq_true, decide_eq_true_eq, q23_zero hb]
      by_cases h0 : z = true ∧ q23 b = 0
      · rw [if_pos (hz.2 h0), if_pos h0]; rfl
      · rw [if_neg (fun h => h0 (hz.1 h)), if_neg h0]
        by_cases hs : sm a = true ∧ sm b = true
        · rw [if_pos hs]
          have h1 := sm_iff.1 hs.1
          have h2 := sm_iff.1 hs.2
          rw [if_pos h1.1, if_pos h1.2, if_pos h2.1, if_pos h2.2]
          exact ho ha hb h0 hs.1 hs.2
        · rw [if_neg hs]
          rw [sm_iff, sm_iff] at hs
          by_cases g1 : a.f1.size ≤ 140
          · rw [if_pos g1]
            by_cases g2 : a.f2.size ≤ 140
            · rw [if_pos g2]
              by_cases g3 : b.f1.size ≤ 140
              · rw [if_pos g3]
                by_cases g4 : b.f2.size ≤ 140
                · exact absurd ⟨⟨g1, g2⟩, g3, g4⟩ hs
                · rw [if_neg g4]; rfl
              · rw [if_neg g3]; rfl
            · rw [if_neg g2]; rfl
          · rw [if_neg g1]; rfl
    · rw [if_neg hb, if_neg (fun h => hb h.2)]; rfl
  · rw [if_neg ha, if_neg (fun h => ha h.1)]; rfl
theorem add_f (a b : S23) : ratio_Add.f a.f0 a.f1 a.f2 b.f0 b.f1 b.f2 = some (res false a b (q23 a + q23 b)) := by
  refine run_res false a b _ _ (fun ha hb _ sa sb => ?_)
  obtain ⟨a1, a2, a3, a4, a5⟩ := valid_parts ha
  obtain ⟨b1, b2, b3, b4, b5⟩ := valid_parts hb
  exact sum_f _ _ a1 a2 b1 b2 a3 b3 (sm_iff.1 sa).1 (sm_iff.1 sa).2 (sm_iff.1 sb).1 (sm_iff.1 sb).2
theorem opp_rat {b : S23} (hb : vld b = true) : rat (oppS b) b.f1 b.f2 = - q23 b := by
  obtain ⟨b1, b2, b3, b4, b5⟩ := valid_parts hb
  unfold q23 rat
  rw [Rat.neg_mkRat, ← sg_not]
  by_cases h0 : nv b.f1 = 0
  · rw [h0, sg_zero, sg_zero]
  · congr 2
    unfold oppS
    cases hs : b.f0 with
    | true => rfl
    | false =>
      rw [if_neg (by decide)]
      show (!(b.f1.toList == [48])) = true
      rw [beq_zero b1, decide_eq_false h0]
      rfl
theorem sub_f (a b : S23) : ratio_Sub.f a.f0 a.f1 a.f2 b.f0 b.f1 b.f2 = some (res false a b (q23 a - q23 b)) := by
  refine run_res false a b _ _ (fun ha hb _ sa sb => ?_)
  obtain ⟨a1, a2, a3, a4, a5⟩ := valid_parts ha
  obtain ⟨b1, b2, b3, b4, b5⟩ := valid_parts hb
  have h := sum_f a.f0 (oppS b) a1 a2 b1 b2 a3 b3 (sm_iff.1 sa).1 (sm_iff.1 sa).2 (sm_iff.1 sb).1 (sm_iff.1 sb).2
  rw [opp_rat hb] at h
  rw [Rat.sub_eq_add_neg]
  exact h
theorem mul_f (a b : S23) : ratio_Mul.f a.f0 a.f1 a.f2 b.f0 b.f1 b.f2 = some (res false a b (q23 a * q23 b)) := by
  refine run_res false a b _ _ (fun ha hb _ sa sb => ?_)
  obtain ⟨a1, a2, a3, a4, a5⟩ := valid_parts ha
  obtain ⟨b1, b2, b3, b4, b5⟩ := valid_parts hb
  exact prod_f _ _ a1 a2 b1 b2 a3 b3 (sm_iff.1 sa).1 (sm_iff.1 sa).2 (sm_iff.1 sb).1 (sm_iff.1 sb).2
theorem div_f' (a b : S23) : ratio_Div.f a.f0 a.f1 a.f2 b.f0 b.f1 b.f2 = some (res true a b (q23 a / q23 b)) := by
  refine run_res true a b _ _ (fun ha hb h0 sa sb => ?_)
  obtain ⟨a1, a2, a3, a4, a5⟩ := valid_parts ha
  obtain ⟨b1, b2, b3, b4, b5⟩ := valid_parts hb
  have hn : nv b.f1 ≠ 0 := fun h => h0 ⟨rfl, (q23_zero hb).2 h⟩
  have h := prod_f a.f0 b.f0 a1 a2 b2 b1 a3 hn (sm_iff.1 sa).1 (sm_iff.1 sa).2 (sm_iff.1 sb).2 (sm_iff.1 sb).1
  have e : rat b.f0 b.f2 b.f1 = (q23 b)⁻¹ := by
    unfold q23 rat
    rw [mk_inv]
  rw [e] at h
  rw [Rat.div_def]
  exact h
end Go.Proofs.YtfaibifilpfikaaGreatDoor.P3

namespace Go.Proofs.YtfaibifilpfikaaGreatDoor.P4
open Go.Proofs.YtfaibifilpfikaaGreatDoorW.PrintWords Go.Proofs.YtfaibifilpfikaaGreatDoor.A Go.Proofs.YtfaibifilpfikaaGreatDoor.N10 Go.Proofs.YtfaibifilpfikaaGreatDoor.N11 Go.Proofs.YtfaibifilpfikaaGreatDoor.X2 Go.Proofs.YtfaibifilpfikaaGreatDoor.C Go.Proofs.YtfaibifilpfikaaGreatDoor.N12 Go.Proofs.YtfaibifilpfikaaGreatDoor.N13 Go.Proofs.YtfaibifilpfikaaGreatDoor.P1 Go.Proofs.YtfaibifilpfikaaGreatDoor.P2 Go.Proofs.YtfaibifilpfikaaGreatDoor.N14 Go.Proofs.YtfaibifilpfikaaGreatDoor.N15 Go.Proofs.YtfaibifilpfikaaGreatDoor.P3
open Rq
set_option linter.unusedVariables false
set_option linter.unusedSimpArgs false

/-! ### Of -/
theorem of_rat {num den : Int} (h : den ≠ 0) : mkRat (sg (decide (num < 0) != decide (den < 0)) num.natAbs) den.natAbs = Rat.divInt num den := by
  by_cases hd : den < 0
  · obtain ⟨d, rfl⟩ : ∃ d : Nat, den = -(d : Int) := ⟨den.natAbs, by omega⟩
    rw [decide_eq_true hd, Rat.divInt_neg', Rat.divInt_ofNat, Int.natAbs_neg, Int.natAbs_natCast]
    congr 1
    by_cases hn : num < 0
    · rw [decide_eq_true hn]; show (num.natAbs : Int) = _; omega
    · rw [decide_eq_false hn]; show -(num.natAbs : Int) = _; omega
  · obtain ⟨d, rfl⟩ : ∃ d : Nat, den = (d : Int) := ⟨den.natAbs, by omega⟩
    rw [decide_eq_false hd, Rat.divInt_ofNat, Int.natAbs_natCast]
    congr 1
    by_cases hn : num < 0
    · rw [decide_eq_true hn]; show -(num.natAbs : Int) = _; omega
    · rw [decide_eq_false hn]; show (num.natAbs : Int) = _; omega
theorem small_abs {n : Int} (h1 : -9223372036854775808 ≤ n) (h2 : n ≤ 9223372036854775807) : n.natAbs < 10 ^ 19 := by
  have : (10 : Nat) ^ 19 = 10000000000000000000 := by decide
  omega
theorem of_f {num den : Int} (h : den ≠ 0) (n1 : -9223372036854775808 ≤ num) (n2 : num ≤ 9223372036854775807) (d1 : -9223372036854775808 ≤ den) (d2 : den ≤ 9223372036854775807) :
    ratio_lowest.f (decide (num < 0) != decide (den < 0)) (dec num.natAbs) (dec den.natAbs) = some (enc (Rat.divInt num den)) := by
  have hN := dec_ok (n := num.natAbs) (lt_pow (a := 19) (b := 300) (small_abs n1 n2) (by decide))
  have hD := dec_ok (n := den.natAbs) (lt_pow (a := 19) (b := 300) (small_abs d1 d2) (by decide))
  rw [lowest_f _ hN.1 hD.1 (by rw [hD.2]; omega), hN.2, hD.2, of_rat h]
  rfl
/-- What Of answers. -/
def ofR (num den : Int) : R4 := if den = 0 then bad 15 else enc (Rat.divInt num den)
theorem sz_of {num den : Int} (h : den ≠ 0) (n1 : -9223372036854775808 ≤ num) (n2 : num ≤ 9223372036854775807) (d1 : -9223372036854775808 ≤ den) (d2 : den ≤ 9223372036854775807) : Sz (Rat.divInt num den) 19 := by
  rw [← of_rat h]
  exact sz_mk (by omega) (small_abs n1 n2) (small_abs d1 d2)

/-! ### Compare -/
def cmpQ (p q : Rat) : Int := if p < q then -1 else if p = q then 0 else 1
theorem eS_sub (p q : Rat) : eS (p - q) = decide (p < q) := by
  unfold eS
  refine decide_eq_decide.2 ?_
  have h1 : (p - q).num < 0 ↔ ¬ 0 ≤ (p - q).num := by omega
  rw [h1, Rat.num_nonneg, ← Rat.le_iff_sub_nonneg, Rat.not_le]
theorem eN_zero (q : Rat) : eN q = zero1 ↔ q = 0 := by
  constructor
  · intro h
    have := congrArg nv h
    unfold eN at this
    rw [nv_dec, nv_zero1] at this
    rw [← Rat.num_eq_zero]; omega
  · intro h
    subst h
    refine Rq.ext ?_
    show Go.Lib.decDigits 0 = _
    decide +kernel
theorem isN_eN {q : Rat} (h : Sz q 300) : isN (eN q) = true := Rq.isN_dec h.1
theorem isN_eD {q : Rat} (h : Sz q 300) : isN (eD q) = true := Rq.isN_dec h.2
theorem list_eN {q : Rat} : (eN q).toList = [48] ↔ q = 0 := by
  rw [← eN_zero q]
  constructor
  · intro h
    refine Rq.ext ?_
    rw [← ByteArray.toList_eq, h]
    rfl
  · intro h; rw [h, ByteArray.toList_eq]; rfl
theorem sub_zero_iff (p q : Rat) : p - q = 0 ↔ p = q := by
  constructor
  · intro h
    have := Rat.sub_add_cancel (a := p) (b := q)
    rw [h, Rat.zero_add] at this
    exact this.symm
  · intro h; subst h; exact Rat.sub_self
/-- What Compare answers. -/
def cmpR2 (a b : S23) : Int × Int := if vld a = true ∧ vld b = true then (if sm a = true ∧ sm b = true then (cmpQ (q23 a) (q23 b), 0) else (0, 2)) else (0, 1)

/-! ### Floor -/
def inInt (n : Int) : Bool := decide (-9223372036854775808 ≤ n) && decide (n ≤ 9223372036854775807)
/-- What Floor answers. -/
def floorR (a : S23) : Int × Int := if vld a = true then (if inInt (q23 a).floor = true then ((q23 a).floor, 0) else (0, 10)) else (0, 1)
theorem floor_pos {n d : ByteArray} (h : valid false n d = true) : (rat false n d).floor = ((nv n / nv d : Nat) : Int) := by
  obtain ⟨h1, h2, h3, h4, h5⟩ := valid_parts h
  unfold rat
  rw [Rat.floor_def, low_num _ _ _ h3, low_den _ _ _ h3, h4, Nat.div_one, Nat.div_one]
  rfl
theorem floor_neg {n d : ByteArray} (h : valid true n d = true) : (rat true n d).floor = -((nv n / nv d + (if nv n % nv d = 0 then 0 else 1) : Nat) : Int) := by
  obtain ⟨h1, h2, h3, h4, h5⟩ := valid_parts h
  unfold rat
  rw [Rat.floor_def, low_num _ _ _ h3, low_den _ _ _ h3, h4, Nat.div_one, Nat.div_one]
  show (-((nv n : Nat) : Int)) / ((nv d : Nat) : Int) = _
  have hpos : 0 < nv d := Nat.pos_of_ne_zero h3
  have hdm := Nat.div_add_mod (nv n) (nv d)
  have hlt := Nat.mod_lt (nv n) hpos
  generalize nv n / nv d = q at *
  generalize nv n % nv d = r at *
  generalize nv d = D at *
  generalize nv n = N at *
  subst hdm
  by_cases hr : r = 0
  · subst hr
    rw [if_pos rfl]
    push_cast
    rw [Int.add_zero, Int.add_zero, ← Int.mul_neg, Int.mul_ediv_cancel_left _ (by omega)]
  · rw [if_neg hr]
    push_cast
    have e : -((D : Int) * (q : Int) + (r : Int)) = ((D : Int) - (r : Int)) + (D : Int) * (-((q : Int) + 1)) := by
      rw [Int.mul_neg, Int.mul_add, Int.mul_one]; omega
    rw [e, Int.add_mul_ediv_left _ _ (by omega), Int.ediv_eq_zero_of_lt (by omega) (by omega)]
    omega
end Go.Proofs.YtfaibifilpfikaaGreatDoor.P4

namespace Go.Proofs.YtfaibifilpfikaaGreatDoor.N16
open Go.RowKit Go.Shelf Go.Proofs.YtfaibifilpfikaaGreatDoorW.PrintWords Go.Proofs.YtfaibifilpfikaaGreatDoorW.PrintLast Go.Proofs.YtfaibifilpfikaaGreatDoorW.PrintMore Go.Proofs.YtfaibifilpfikaaGreatDoor.A Go.Proofs.YtfaibifilpfikaaGreatDoor.N1 Go.Proofs.YtfaibifilpfikaaGreatDoor.N11 Go.Proofs.YtfaibifilpfikaaGreatDoor.X2 Go.Proofs.YtfaibifilpfikaaGreatDoor.C Go.Proofs.YtfaibifilpfikaaGreatDoor.N12 Go.Proofs.YtfaibifilpfikaaGreatDoor.N13 Go.Proofs.YtfaibifilpfikaaGreatDoor.N14 Go.Proofs.YtfaibifilpfikaaGreatDoor.N15 Go.Proofs.YtfaibifilpfikaaGreatDoor.P1 Go.Proofs.YtfaibifilpfikaaGreatDoor.P2 Go.Proofs.YtfaibifilpfikaaGreatDoor.P3 Go.Proofs.YtfaibifilpfikaaGreatDoor.P4
set_option linter.unusedVariables false
set_option linter.unusedSimpArgs false

set_option maxRecDepth 100000 in
theorem size_calls (n : Int) (h0 : -9223372036854775808 ≤ n) (h1 : n ≤ 9223372036854775807) (w : World) (hT : Tabs w) :
    Calls Tryz.prog 59 #[.int .i64 n] w fun e w' => e = .returned (.string (Rq.dec n.natAbs)) ∧ Below w.heap.size w w' := by
  have HI := Aside0.mk (Tryz.strconv_Itoa n h0 h1 w hT.pow)
  have HP : ∀ W, Calls Tryz.prog 60 #[.string ⟨(Lib.itoa n).toArray⟩, .string ⟨#[45]⟩] W fun e w' => e = .returned (.string (Rq.dec n.natAbs)) ∧ w' = W := by
    intro W
    have := Tryz.strings_TrimPrefix ⟨(Lib.itoa n).toArray⟩ ⟨#[45]⟩ W
    simp only at this
    rw [trim_itoa] at this
    exact this
  have HP := Aside0.mk HP
  clear hT
  go_enter Tryz.func59, Tryz.ntmps59
  go_wp2_with (first
    | (go_at_call 61; refine HI.out.mono ?_; rintro e w1 ⟨rfl, k, os, hw⟩; have B1 : Aside0 (Below w.heap.size w w1) := Aside0.mk (by rw [hw]; exact Lib.below_grow _ w (Nat.le_refl _) k os); clear hw HI)
    | (go_at_call 60; refine (HP.out _).mono ?_; rintro e w2 ⟨rfl, hw⟩; have B2 : Aside0 (Below w.heap.size w w2) := Aside0.mk (by rw [hw]; exact B1.out); clear hw HP))
  go_ret
  exact ⟨rfl, B2.out⟩
def ratio_Of.f (a0 a1 : Int) : Option R4 := if -9223372036854775808 ≤ a0 ∧ a0 ≤ 9223372036854775807 ∧ -9223372036854775808 ≤ a1 ∧ a1 ≤ 9223372036854775807 then some (ofR a0 a1) else none
set_option maxRecDepth 100000 in
set_option maxHeartbeats 2000000 in
theorem of_zero (num : Int) (w : World) : Calls Tryz.prog 18 #[.int .i64 num, .int .i64 0] w fun e w' => e = .returned (.tuple #[.agg #[.bool false, .string ⟨#[]⟩, .string ⟨#[]⟩], .int .i64 15]) ∧ Below w.heap.size w w' := by
  have hu23 := Tryz.underlying23
  have K2 := Aside0.mk (blk_new w (.cells #[.bool false, .string ⟨#[]⟩, .string ⟨#[]⟩] 23))
  have HB1 := Aside0.mk (below_alloc (Below.refl w.heap.size w) (.cells #[.bool false, .string ⟨#[]⟩, .string ⟨#[]⟩] 23))
  go_enter Tryz.func18, Tryz.ntmps18
  go_wp2
  refine bodyPost_ret (results_ct rfl _ _ (w.heap.size) 23 #[.bool false, .string ⟨#[]⟩, .string ⟨#[]⟩] (0, 0) _ rfl K2.out Tryz.underlying23 rfl (by kernel_rfl)) rfl ?_
  exact ⟨rfl, HB1.out⟩
set_option maxRecDepth 100000 in
set_option maxHeartbeats 2000000 in
theorem of_some (num den : Int) (hd : (den == 0) = false) (n1 : -9223372036854775808 ≤ num) (n2 : num ≤ 9223372036854775807) (d1 : -9223372036854775808 ≤ den) (d2 : den ≤ 9223372036854775807) (r1 : Bool) (r2 r3 : ByteArray) (r4 : Int) (w : World) (hT : Tabs w)
    (h : ratio_lowest.f (decide (num < 0) != decide (den < 0)) (Rq.dec num.natAbs) (Rq.dec den.natAbs) = some (r1, r2, r3, r4)) :
    Calls Tryz.prog 18 #[.int .i64 num, .int .i64 den] w fun e w' => e = .returned (.tuple #[.agg #[.bool r1, .string r2, .string r3], .int .i64 r4]) ∧ Below w.heap.size w w' := by
  have hu23 := Tryz.underlying23
  obtain ⟨W0, hW0⟩ : ∃ W0, w.alloc (.cells #[.bool false, .string ⟨#[]⟩, .string ⟨#[]⟩] 23) = W0 := ⟨_, rfl⟩
  have k2 : W0.heap[w.heap.size]? = some (.cells #[.bool false, .string ⟨#[]⟩, .string ⟨#[]⟩] 23 (0, 0)) := by rw [← hW0]; exact blk_new _ _
  have hbel : Below w.heap.size w W0 := by rw [← hW0]; exact below_alloc (Below.refl _ _) _
  have HB0 := Aside0.mk hbel
  have K2 := Aside0.mk k2
  have HW := Aside0.mk hW0
  have HT := Aside0.mk hT
  have HP := Aside0.mk (size_calls num n1 n2 W0 (hT.below hbel))
  have HQ := Aside0.mk (fun W (hW : Tabs W) => size_calls den d1 d2 W hW)
  have H := Aside0.mk h
  clear k2 hbel hW0 hT h n1 n2 d1 d2
  rw [show (decide (num < 0) != decide (den < 0)) = !(decide (num < 0) == decide (den < 0)) from rfl] at H
  generalize hs : (!(decide (num < 0) == decide (den < 0))) = s at H
  have HS := Aside0.mk hs
  clear hs
  generalize Rq.dec num.natAbs = N at H HP
  generalize Rq.dec den.natAbs = D at H HQ
  go_enter Tryz.func18, Tryz.ntmps18
  go_wp2_with (first
    | (have _ := B2.out; go_at_call 62; rw [HS.out]; refine (ratio_lowest.calls s N D r1 r2 r3 r4 _ H.out (HT.out.below B2.out)).mono ?_; rintro e w3 ⟨rfl, hb⟩; have HB1 := Aside0.mk (below_step B2.out hb); have J2 := Aside0.mk (blk_below M2.out hb); clear hb H; have z0 : w3.cell? ⟨w.heap.size, 0, none⟩ = some (.bool false) := (blk_cell J2.out 0).trans rfl; have z1 : w3.cell? ⟨w.heap.size, 1, none⟩ = some (.string ⟨#[]⟩) := (blk_cell J2.out 1).trans rfl; have z2 : w3.cell? ⟨w.heap.size, 2, none⟩ = some (.string ⟨#[]⟩) := (blk_cell J2.out 2).trans rfl; have f0 := blk_frozen J2.out 0; have f1 := blk_frozen J2.out 1; have f2 := blk_frozen J2.out 2)
    | (have _ := B1.out; go_at_call 59; refine (HQ.out _ (HT.out.below B1.out)).mono ?_; rintro e w2 ⟨rfl, hb⟩; have B2 := Aside0.mk (below_step B1.out hb); have M2 := Aside0.mk (blk_below L2.out hb); clear hb HQ)
    | (go_at_call 59; rw [HW.out]; refine HP.out.mono ?_; rintro e w1 ⟨rfl, hb⟩; have B1 := Aside0.mk (below_step HB0.out hb); have L2 := Aside0.mk (blk_below K2.out hb); clear hb HP))
  have Q1 := Aside0.mk (blk_put (cs := #[.bool r1, .string ⟨#[]⟩, .string ⟨#[]⟩]) (blk_put J2.out 0 (.bool r1) rfl) 1 (.string r2) rfl)
  have Q2 := Aside0.mk (blk_put (cs := #[.bool r1, .string r2, .string ⟨#[]⟩]) Q1.out 2 (.string r3) rfl)
  have Q5 := Aside0.mk (((HB1.out.setCell (p := ⟨w.heap.size, 0, none⟩) (Nat.le_refl _) (.bool r1)).setCell (p := ⟨w.heap.size, 1, none⟩) (Nat.le_refl _) (.string r2)).setCell (p := ⟨w.heap.size, 2, none⟩) (Nat.le_refl _) (.string r3))
  refine bodyPost_ret (results_ct rfl _ _ (w.heap.size) 23 #[.bool r1, .string r2, .string r3] (0, 0) _ rfl Q2.out Tryz.underlying23 rfl (by kernel_rfl)) rfl ?_
  exact ⟨rfl, Q5.out⟩
theorem ratio_Of.calls (a0 a1 : Int) (r1 : Bool) (r2 r3 : ByteArray) (r4 : Int) (w : World) (h : ratio_Of.f a0 a1 = some (r1, r2, r3, r4)) (hT : Tabs w) :
    Calls Tryz.prog 18 #[.int .i64 a0, .int .i64 a1] w fun e w' => e = .returned (.tuple #[.agg #[.bool r1, .string r2, .string r3], .int .i64 r4]) ∧ Below w.heap.size w w' := by
  unfold ratio_Of.f at h
  split at h
  · rename_i hb
    obtain ⟨n1, n2, d1, d2⟩ := hb
    have h := Option.some.inj h
    by_cases hd : a1 = 0
    · subst hd
      obtain ⟨rfl, rfl, rfl, rfl⟩ := by unfold ofR bad at h; rw [if_pos rfl] at h; simpa only [Prod.mk.injEq] using h
      exact of_zero a0 w
    · refine of_some a0 a1 (beq_eq_false_iff_ne.2 hd) n1 n2 d1 d2 r1 r2 r3 r4 w hT ?_
      rw [of_f hd n1 n2 d1 d2, ← h]
      unfold ofR
      rw [if_neg hd]
  · cases h
end Go.Proofs.YtfaibifilpfikaaGreatDoor.N16

namespace Go.Proofs.YtfaibifilpfikaaGreatDoor.N17
open Go.RowKit Go.Shelf Go.Proofs.YtfaibifilpfikaaGreatDoorW.PrintWords Go.Proofs.YtfaibifilpfikaaGreatDoorW.PrintLast Go.Proofs.YtfaibifilpfikaaGreatDoorW.PrintMore Go.Proofs.YtfaibifilpfikaaGreatDoor.A Go.Proofs.YtfaibifilpfikaaGreatDoor.N1 Go.Proofs.YtfaibifilpfikaaGreatDoor.N10 Go.Proofs.YtfaibifilpfikaaGreatDoor.N11 Go.Proofs.YtfaibifilpfikaaGreatDoor.X2 Go.Proofs.YtfaibifilpfikaaGreatDoor.C Go.Proofs.YtfaibifilpfikaaGreatDoor.N12 Go.Proofs.YtfaibifilpfikaaGreatDoor.N13 Go.Proofs.YtfaibifilpfikaaGreatDoor.N14 Go.Proofs.YtfaibifilpfikaaGreatDoor.N15 Go.Proofs.YtfaibifilpfikaaGreatDoor.P1 Go.Proofs.YtfaibifilpfikaaGreatDoor.P2 Go.Proofs.YtfaibifilpfikaaGreatDoor.P3 Go.Proofs.YtfaibifilpfikaaGreatDoor.P4
set_option linter.unusedVariables false
set_option linter.unusedSimpArgs false

/-- What strconv.Atoi reads. -/
def atoiV (s : ByteArray) : Option Int := match Lib.atoiAll s.data.toList with | .ok v => some v | _ => none
theorem atoi_ok (s : ByteArray) (hs : s.size ≤ 281474976710656) (v : Int) (h : atoiV s = some v) (w : World) :
    Calls Tryz.prog 65 #[.string s] w fun e w' => e = .returned (.tuple #[.int .i64 v, .nilIface]) ∧ Below w.heap.size w w' := by
  have h2 : Lib.atoiAll s.data.toList = .ok v := by
    unfold atoiV at h
    split at h
    · rename_i x hx; rw [hx]; exact congrArg _ (Option.some.inj h)
    · cases h
  exact (Tryz.strconv_Atoi_ok s (by omega) v h2 w).mono fun e w' ⟨he, hw⟩ => ⟨he, by
    rcases hw with rfl | ⟨t, rfl⟩
    · exact Below.refl _ _
    · exact Lib.bytesWorld_below w 5 t⟩
theorem atoi_err (s : ByteArray) (hs : s.size ≤ 281474976710656) (h : atoiV s = none) (w : World) (hT : Tabs w) :
    Calls Tryz.prog 65 #[.string s] w fun e w' => ∃ (x : Int) (t : TypeId) (n : Nat), e = .returned (.tuple #[.int .i64 x, .iface t (.pointer (some ⟨n, 0, none⟩))]) ∧ Below w.heap.size w w' := by
  cases hr : Lib.atoiAll s.data.toList with
  | ok v => unfold atoiV at h; rw [hr] at h; cases h
  | «syntax» =>
    obtain ⟨tp, p, hv⟩ := hT.errS
    exact (Tryz.strconv_Atoi_syntax s hs hr tp p w hv).mono fun e w' ⟨n, h1, h2⟩ => ⟨_, _, n, h1, h2⟩
  | range =>
    obtain ⟨tp, p, hv⟩ := hT.errR
    exact (Tryz.strconv_Atoi_range s hs hr tp p w hv).mono fun e w' ⟨n, h1, h2⟩ => ⟨_, _, n, h1, h2⟩
set_option maxRecDepth 100000 in
set_option maxHeartbeats 2000000 in
theorem floor_bad (a : S23) (hv : vld a = false) (w : World) (hT : Tabs w) : Calls Tryz.prog 19 #[.agg #[.bool a.f0, .string a.f1, .string a.f2]] w fun e w' => e = .returned (.tuple #[.int .i64 0, .int .i64 1]) ∧ Below w.heap.size w w' := by
  have hu23 := Tryz.underlying23
  obtain ⟨W0, hW0⟩ : ∃ W0, w.alloc (.cells #[.bool a.f0, .string a.f1, .string a.f2] 23) = W0 := ⟨_, rfl⟩
  have k0 : W0.heap[w.heap.size]? = some (.cells #[.bool a.f0, .string a.f1, .string a.f2] 23 (0, 0)) := by rw [← hW0]; exact blk_new _ _
  have hbel : Below w.heap.size w W0 := by rw [← hW0]; exact below_alloc (Below.refl _ _) _
  have HB0 := Aside0.mk hbel
  have K0 := Aside0.mk k0
  have HW := Aside0.mk hW0
  have HT := Aside0.mk hT
  have HP := Aside0.mk (valid_calls a W0 (hT.below hbel))
  have HV := Aside0.mk hv
  clear k0 hbel hW0 hT hv
  go_enter Tryz.func19, Tryz.ntmps19
  go_wp2_with (first
    | (go_at_call 21; rw [HW.out]; refine HP.out.mono ?_; rintro e w1 ⟨rfl, hb⟩; rw [HV.out]; have HB1 := Aside0.mk (below_step HB0.out hb); clear hb HP))
  go_ret2
  exact ⟨rfl, HB1.out⟩
set_option maxRecDepth 100000 in
set_option maxHeartbeats 2000000 in
theorem floor_p_ok (n d : ByteArray) (hv : vld ⟨false, n, d⟩ = true) (q r : ByteArray) (hd : natural_Div.f n d = some (q, r, 0)) (hz : q.size ≤ 400) (v : Int) (ha : atoiV q = some v) (w : World) (hT : Tabs w) :
    Calls Tryz.prog 19 #[.agg #[.bool false, .string n, .string d]] w fun e w' => e = .returned (.tuple #[.int .i64 v, .int .i64 0]) ∧ Below w.heap.size w w' := by
  have hu23 := Tryz.underlying23
  obtain ⟨W0, hW0⟩ : ∃ W0, w.alloc (.cells #[.bool false, .string n, .string d] 23) = W0 := ⟨_, rfl⟩
  have k0 : W0.heap[w.heap.size]? = some (.cells #[.bool false, .string n, .string d] 23 (0, 0)) := by rw [← hW0]; exact blk_new _ _
  have hbel : Below w.heap.size w W0 := by rw [← hW0]; exact below_alloc (Below.refl _ _) _
  have HB0 := Aside0.mk hbel
  have K0 := Aside0.mk k0
  have HW := Aside0.mk hW0
  have HT := Aside0.mk hT
  have HP := Aside0.mk (valid_calls ⟨false, n, d⟩ W0 (hT.below hbel))
  have HV := Aside0.mk hv
  clear k0 hbel hW0 hT hv
  have HZ := Aside0.mk (show q.size ≤ 281474976710656 by omega)
  have HD := Aside0.mk hd
  have HA := Aside0.mk ha
  have hz2 : q.size ≤ 9223372036854775000 := by omega
  clear hd ha
  go_enter Tryz.func19, Tryz.ntmps19
  go_wp2_with (first
    | (have _ := HB2.out; go_at_call 65; refine (atoi_ok _ HZ.out v HA.out _).mono ?_; rintro e w4 ⟨rfl, hb⟩; have HB4 := Aside0.mk (below_step HB2.out hb); clear hb)
    | (have _ := HB1.out; go_at_call 63; refine (natural_Div.calls _ _ q r 0 _ HD.out (HT.out.below HB1.out)).mono ?_; rintro e w2 ⟨rfl, hb⟩; have HB2 := Aside0.mk (below_step HB1.out hb); have L0 := Aside0.mk (blk_below J0.out hb); clear hb; have y0 : w2.cell? ⟨w.heap.size, 0, none⟩ = some (.bool false) := (blk_cell L0.out 0).trans rfl; have y1 : w2.cell? ⟨w.heap.size, 1, none⟩ = some (.string n) := (blk_cell L0.out 1).trans rfl; have y2 : w2.cell? ⟨w.heap.size, 2, none⟩ = some (.string d) := (blk_cell L0.out 2).trans rfl)
    | (go_at_call 21; rw [HW.out]; refine HP.out.mono ?_; rintro e w1 ⟨rfl, hb⟩; rw [HV.out]; have HB1 := Aside0.mk (below_step HB0.out hb); have J0 := Aside0.mk (blk_below K0.out hb); clear hb HP; have z0 : w1.cell? ⟨w.heap.size, 0, none⟩ = some (.bool false) := (blk_cell J0.out 0).trans rfl; have z1 : w1.cell? ⟨w.heap.size, 1, none⟩ = some (.string n) := (blk_cell J0.out 1).trans rfl; have z2 : w1.cell? ⟨w.heap.size, 2, none⟩ = some (.string d) := (blk_cell J0.out 2).trans rfl))
  go_ret2
  exact ⟨rfl, HB4.out⟩
set_option maxRecDepth 100000 in
set_option maxHeartbeats 2000000 in
theorem floor_p_err (n d : ByteArray) (hv : vld ⟨false, n, d⟩ = true) (q r : ByteArray) (hd : natural_Div.f n d = some (q, r, 0)) (hz : q.size ≤ 400) (ha : atoiV q = none) (w : World) (hT : Tabs w) :
    Calls Tryz.prog 19 #[.agg #[.bool false, .string n, .string d]] w fun e w' => e = .returned (.tuple #[.int .i64 0, .int .i64 10]) ∧ Below w.heap.size w w' := by
  have hu23 := Tryz.underlying23
  obtain ⟨W0, hW0⟩ : ∃ W0, w.alloc (.cells #[.bool false, .string n, .string d] 23) = W0 := ⟨_, rfl⟩
  have k0 : W0.heap[w.heap.size]? = some (.cells #[.bool false, .string n, .string d] 23 (0, 0)) := by rw [← hW0]; exact blk_new _ _
  have hbel : Below w.heap.size w W0 := by rw [← hW0]; exact below_alloc (Below.refl _ _) _
  have HB0 := Aside0.mk hbel
  have K0 := Aside0.mk k0
  have HW := Aside0.mk hW0
  have HT := Aside0.mk hT
  have HP := Aside0.mk (valid_calls ⟨false, n, d⟩ W0 (hT.below hbel))
  have HV := Aside0.mk hv
  clear k0 hbel hW0 hT hv
  have HZ := Aside0.mk (show q.size ≤ 281474976710656 by omega)
  have HD := Aside0.mk hd
  have HA := Aside0.mk ha
  have hz2 : q.size ≤ 9223372036854775000 := by omega
  clear hd ha
  go_enter Tryz.func19, Tryz.ntmps19
  go_wp2_with (first
    | (have _ := HB2.out; go_at_call 65; refine (atoi_err _ HZ.out HA.out _ (HT.out.below HB2.out)).mono ?_; rintro e w4 ⟨x, tp, nn, rfl, hb⟩; have HB4 := Aside0.mk (below_step HB2.out hb); clear hb)
    | (have _ := HB1.out; go_at_call 63; refine (natural_Div.calls _ _ q r 0 _ HD.out (HT.out.below HB1.out)).mono ?_; rintro e w2 ⟨rfl, hb⟩; have HB2 := Aside0.mk (below_step HB1.out hb); have L0 := Aside0.mk (blk_below J0.out hb); clear hb; have y0 : w2.cell? ⟨w.heap.size, 0, none⟩ = some (.bool false) := (blk_cell L0.out 0).trans rfl; have y1 : w2.cell? ⟨w.heap.size, 1, none⟩ = some (.string n) := (blk_cell L0.out 1).trans rfl; have y2 : w2.cell? ⟨w.heap.size, 2, none⟩ = some (.string d) := (blk_cell L0.out 2).trans rfl)
    | (go_at_call 21; rw [HW.out]; refine HP.out.mono ?_; rintro e w1 ⟨rfl, hb⟩; rw [HV.out]; have HB1 := Aside0.mk (below_step HB0.out hb); have J0 := Aside0.mk (blk_below K0.out hb); clear hb HP; have z0 : w1.cell? ⟨w.heap.size, 0, none⟩ = some (.bool false) := (blk_cell J0.out 0).trans rfl; have z1 : w1.cell? ⟨w.heap.size, 1, none⟩ = some (.string n) := (blk_cell J0.out 1).trans rfl; have z2 : w1.cell? ⟨w.heap.size, 2, none⟩ = some (.string d) := (blk_cell J0.out 2).trans rfl))
  go_ret2
  exact ⟨rfl, HB4.out⟩
set_option maxRecDepth 100000 in
set_option maxHeartbeats 2000000 in
theorem floor_n0_ok (n d : ByteArray) (hv : vld ⟨true, n, d⟩ = true) (q r : ByteArray) (hd : natural_Div.f n d = some (q, r, 0)) (hr : (r.toList == [48]) = true) (hz : q.size ≤ 400) (v : Int) (ha : atoiV ((⟨#[45]⟩ : ByteArray) ++ q) = some v) (w : World) (hT : Tabs w) :
    Calls Tryz.prog 19 #[.agg #[.bool true, .string n, .string d]] w fun e w' => e = .returned (.tuple #[.int .i64 v, .int .i64 0]) ∧ Below w.heap.size w w' := by
  have hu23 := Tryz.underlying23
  obtain ⟨W0, hW0⟩ : ∃ W0, w.alloc (.cells #[.bool true, .string n, .string d] 23) = W0 := ⟨_, rfl⟩
  have k0 : W0.heap[w.heap.size]? = some (.cells #[.bool true, .string n, .string d] 23 (0, 0)) := by rw [← hW0]; exact blk_new _ _
  have hbel : Below w.heap.size w W0 := by rw [← hW0]; exact below_alloc (Below.refl _ _) _
  have HB0 := Aside0.mk hbel
  have K0 := Aside0.mk k0
  have HW := Aside0.mk hW0
  have HT := Aside0.mk hT
  have HP := Aside0.mk (valid_calls ⟨true, n, d⟩ W0 (hT.below hbel))
  have HV := Aside0.mk hv
  clear k0 hbel hW0 hT hv
  have HZ := Aside0.mk (show ((⟨#[45]⟩ : ByteArray) ++ q).size ≤ 281474976710656 by rw [ByteArray.size_append]; show 1 + _ ≤ _; omega)
  have HD := Aside0.mk hd
  have HA := Aside0.mk ha
  have hz2 : q.size ≤ 9223372036854775000 := by omega
  clear hd ha
  go_enter Tryz.func19, Tryz.ntmps19
  go_wp2_with (first
    | (have _ := HB2.out; go_at_call 65; refine (atoi_ok _ HZ.out v HA.out _).mono ?_; rintro e w4 ⟨rfl, hb⟩; have HB4 := Aside0.mk (below_step HB2.out hb); clear hb)
    | (have _ := HB1.out; go_at_call 63; refine (natural_Div.calls _ _ q r 0 _ HD.out (HT.out.below HB1.out)).mono ?_; rintro e w2 ⟨rfl, hb⟩; have HB2 := Aside0.mk (below_step HB1.out hb); have L0 := Aside0.mk (blk_below J0.out hb); clear hb; have y0 : w2.cell? ⟨w.heap.size, 0, none⟩ = some (.bool true) := (blk_cell L0.out 0).trans rfl; have y1 : w2.cell? ⟨w.heap.size, 1, none⟩ = some (.string n) := (blk_cell L0.out 1).trans rfl; have y2 : w2.cell? ⟨w.heap.size, 2, none⟩ = some (.string d) := (blk_cell L0.out 2).trans rfl)
    | (go_at_call 21; rw [HW.out]; refine HP.out.mono ?_; rintro e w1 ⟨rfl, hb⟩; rw [HV.out]; have HB1 := Aside0.mk (below_step HB0.out hb); have J0 := Aside0.mk (blk_below K0.out hb); clear hb HP; have z0 : w1.cell? ⟨w.heap.size, 0, none⟩ = some (.bool true) := (blk_cell J0.out 0).trans rfl; have z1 : w1.cell? ⟨w.heap.size, 1, none⟩ = some (.string n) := (blk_cell J0.out 1).trans rfl; have z2 : w1.cell? ⟨w.heap.size, 2, none⟩ = some (.string d) := (blk_cell J0.out 2).trans rfl))
  go_ret2
  exact ⟨rfl, HB4.out⟩
set_option maxRecDepth 100000 in
set_option maxHeartbeats 2000000 in
theorem floor_n0_err (n d : ByteArray) (hv : vld ⟨true, n, d⟩ = true) (q r : ByteArray) (hd : natural_Div.f n d = some (q, r, 0)) (hr : (r.toList == [48]) = true) (hz : q.size ≤ 400) (ha : atoiV ((⟨#[45]⟩ : ByteArray) ++ q) = none) (w : World) (hT : Tabs w) :
    Calls Tryz.prog 19 #[.agg #[.bool true, .string n, .string d]] w fun e w' => e = .returned (.tuple #[.int .i64 0, .int .i64 10]) ∧ Below w.heap.size w w' := by
  have hu23 := Tryz.underlying23
  obtain ⟨W0, hW0⟩ : ∃ W0, w.alloc (.cells #[.bool true, .string n, .string d] 23) = W0 := ⟨_, rfl⟩
  have k0 : W0.heap[w.heap.size]? = some (.cells #[.bool true, .string n, .string d] 23 (0, 0)) := by rw [← hW0]; exact blk_new _ _
  have hbel : Below w.heap.size w W0 := by rw [← hW0]; exact below_alloc (Below.refl _ _) _
  have HB0 := Aside0.mk hbel
  have K0 := Aside0.mk k0
  have HW := Aside0.mk hW0
  have HT := Aside0.mk hT
  have HP := Aside0.mk (valid_calls ⟨true, n, d⟩ W0 (hT.below hbel))
  have HV := Aside0.mk hv
  clear k0 hbel hW0 hT hv
  have HZ := Aside0.mk (show ((⟨#[45]⟩ : ByteArray) ++ q).size ≤ 281474976710656 by rw [ByteArray.size_append]; show 1 + _ ≤ _; omega)
  have HD := Aside0.mk hd
  have HA := Aside0.mk ha
  have hz2 : q.size ≤ 9223372036854775000 := by omega
  clear hd ha
  go_enter Tryz.func19, Tryz.ntmps19
  go_wp2_with (first
    | (have _ := HB2.out; go_at_call 65; refine (atoi_err _ HZ.out HA.out _ (HT.out.below HB2.out)).mono ?_; rintro e w4 ⟨x, tp, nn, rfl, hb⟩; have HB4 := Aside0.mk (below_step HB2.out hb); clear hb)
    | (have _ := HB1.out; go_at_call 63; refine (natural_Div.calls _ _ q r 0 _ HD.out (HT.out.below HB1.out)).mono ?_; rintro e w2 ⟨rfl, hb⟩; have HB2 := Aside0.mk (below_step HB1.out hb); have L0 := Aside0.mk (blk_below J0.out hb); clear hb; have y0 : w2.cell? ⟨w.heap.size, 0, none⟩ = some (.bool true) := (blk_cell L0.out 0).trans rfl; have y1 : w2.cell? ⟨w.heap.size, 1, none⟩ = some (.string n) := (blk_cell L0.out 1).trans rfl; have y2 : w2.cell? ⟨w.heap.size, 2, none⟩ = some (.string d) := (blk_cell L0.out 2).trans rfl)
    | (go_at_call 21; rw [HW.out]; refine HP.out.mono ?_; rintro e w1 ⟨rfl, hb⟩; rw [HV.out]; have HB1 := Aside0.mk (below_step HB0.out hb); have J0 := Aside0.mk (blk_below K0.out hb); clear hb HP; have z0 : w1.cell? ⟨w.heap.size, 0, none⟩ = some (.bool true) := (blk_cell J0.out 0).trans rfl; have z1 : w1.cell? ⟨w.heap.size, 1, none⟩ = some (.string n) := (blk_cell J0.out 1).trans rfl; have z2 : w1.cell? ⟨w.heap.size, 2, none⟩ = some (.string d) := (blk_cell J0.out 2).trans rfl))
  go_ret2
  exact ⟨rfl, HB4.out⟩
set_option maxRecDepth 100000 in
set_option maxHeartbeats 2000000 in
theorem floor_n1_ok (n d : ByteArray) (hv : vld ⟨true, n, d⟩ = true) (q r : ByteArray) (hd : natural_Div.f n d = some (q, r, 0)) (hr : (r.toList == [48]) = false) (q1 : ByteArray) (e1 : Int) (hq : natural_Add.f q ⟨#[49]⟩ = some (q1, e1)) (hz : q1.size ≤ 400) (v : Int) (ha : atoiV ((⟨#[45]⟩ : ByteArray) ++ q1) = some v) (w : World) (hT : Tabs w) :
    Calls Tryz.prog 19 #[.agg #[.bool true, .string n, .string d]] w fun e w' => e = .returned (.tuple #[.int .i64 v, .int .i64 0]) ∧ Below w.heap.size w w' := by
  have hu23 := Tryz.underlying23
  obtain ⟨W0, hW0⟩ : ∃ W0, w.alloc (.cells #[.bool true, .string n, .string d] 23) = W0 := ⟨_, rfl⟩
  have k0 : W0.heap[w.heap.size]? = some (.cells #[.bool true, .string n, .string d] 23 (0, 0)) := by rw [← hW0]; exact blk_new _ _
  have hbel : Below w.heap.size w W0 := by rw [← hW0]; exact below_alloc (Below.refl _ _) _
  have HB0 := Aside0.mk hbel
  have K0 := Aside0.mk k0
  have HW := Aside0.mk hW0
  have HT := Aside0.mk hT
  have HP := Aside0.mk (valid_calls ⟨true, n, d⟩ W0 (hT.below hbel))
  have HV := Aside0.mk hv
  clear k0 hbel hW0 hT hv
  have HZ := Aside0.mk (show ((⟨#[45]⟩ : ByteArray) ++ q1).size ≤ 281474976710656 by rw [ByteArray.size_append]; show 1 + _ ≤ _; omega)
  have HD := Aside0.mk hd
  have HA := Aside0.mk ha
  have HQ := Aside0.mk hq
  clear hq
  clear hd ha
  go_enter Tryz.func19, Tryz.ntmps19
  go_wp2_with (first
    | (have _ := HB3.out; go_at_call 65; refine (atoi_ok _ HZ.out v HA.out _).mono ?_; rintro e w4 ⟨rfl, hb⟩; have HB4 := Aside0.mk (below_step HB3.out hb); clear hb)
    | (have _ := HB2.out; go_at_call 64; refine (natural_Add.calls _ _ q1 e1 _ HQ.out (HT.out.below HB2.out)).mono ?_; rintro e w3 ⟨rfl, hb⟩; have HB3 := Aside0.mk (below_step HB2.out hb); clear hb)
    | (have _ := HB1.out; go_at_call 63; refine (natural_Div.calls _ _ q r 0 _ HD.out (HT.out.below HB1.out)).mono ?_; rintro e w2 ⟨rfl, hb⟩; have HB2 := Aside0.mk (below_step HB1.out hb); have L0 := Aside0.mk (blk_below J0.out hb); clear hb; have y0 : w2.cell? ⟨w.heap.size, 0, none⟩ = some (.bool true) := (blk_cell L0.out 0).trans rfl; have y1 : w2.cell? ⟨w.heap.size, 1, none⟩ = some (.string n) := (blk_cell L0.out 1).trans rfl; have y2 : w2.cell? ⟨w.heap.size, 2, none⟩ = some (.string d) := (blk_cell L0.out 2).trans rfl)
    | (go_at_call 21; rw [HW.out]; refine HP.out.mono ?_; rintro e w1 ⟨rfl, hb⟩; rw [HV.out]; have HB1 := Aside0.mk (below_step HB0.out hb); have J0 := Aside0.mk (blk_below K0.out hb); clear hb HP; have z0 : w1.cell? ⟨w.heap.size, 0, none⟩ = some (.bool true) := (blk_cell J0.out 0).trans rfl; have z1 : w1.cell? ⟨w.heap.size, 1, none⟩ = some (.string n) := (blk_cell J0.out 1).trans rfl; have z2 : w1.cell? ⟨w.heap.size, 2, none⟩ = some (.string d) := (blk_cell J0.out 2).trans rfl))
  go_ret2
  exact ⟨rfl, HB4.out⟩
set_option maxRecDepth 100000 in
set_option maxHeartbeats 2000000 in
theorem floor_n1_err (n d : ByteArray) (hv : vld ⟨true, n, d⟩ = true) (q r : ByteArray) (hd : natural_Div.f n d = some (q, r, 0)) (hr : (r.toList == [48]) = false) (q1 : ByteArray) (e1 : Int) (hq : natural_Add.f q ⟨#[49]⟩ = some (q1, e1)) (hz : q1.size ≤ 400) (ha : atoiV ((⟨#[45]⟩ : ByteArray) ++ q1) = none) (w : World) (hT : Tabs w) :
    Calls Tryz.prog 19 #[.agg #[.bool true, .string n, .string d]] w fun e w' => e = .returned (.tuple #[.int .i64 0, .int .i64 10]) ∧ Below w.heap.size w w' := by
  have hu23 := Tryz.underlying23
  obtain ⟨W0, hW0⟩ : ∃ W0, w.alloc (.cells #[.bool true, .string n, .string d] 23) = W0 := ⟨_, rfl⟩
  have k0 : W0.heap[w.heap.size]? = some (.cells #[.bool true, .string n, .string d] 23 (0, 0)) := by rw [← hW0]; exact blk_new _ _
  have hbel : Below w.heap.size w W0 := by rw [← hW0]; exact below_alloc (Below.refl _ _) _
  have HB0 := Aside0.mk hbel
  have K0 := Aside0.mk k0
  have HW := Aside0.mk hW0
  have HT := Aside0.mk hT
  have HP := Aside0.mk (valid_calls ⟨true, n, d⟩ W0 (hT.below hbel))
  have HV := Aside0.mk hv
  clear k0 hbel hW0 hT hv
  have HZ := Aside0.mk (show ((⟨#[45]⟩ : ByteArray) ++ q1).size ≤ 281474976710656 by rw [ByteArray.size_append]; show 1 + _ ≤ _; omega)
  have HD := Aside0.mk hd
  have HA := Aside0.mk ha
  have HQ := Aside0.mk hq
  clear hq
  clear hd ha
  go_enter Tryz.func19, Tryz.ntmps19
  go_wp2_with (first
    | (have _ := HB3.out; go_at_call 65; refine (atoi_err _ HZ.out HA.out _ (HT.out.below HB3.out)).mono ?_; rintro e w4 ⟨x, tp, nn, rfl, hb⟩; have HB4 := Aside0.mk (below_step HB3.out hb); clear hb)
    | (have _ := HB2.out; go_at_call 64; refine (natural_Add.calls _ _ q1 e1 _ HQ.out (HT.out.below HB2.out)).mono ?_; rintro e w3 ⟨rfl, hb⟩; have HB3 := Aside0.mk (below_step HB2.out hb); clear hb)
    | (have _ := HB1.out; go_at_call 63; refine (natural_Div.calls _ _ q r 0 _ HD.out (HT.out.below HB1.out)).mono ?_; rintro e w2 ⟨rfl, hb⟩; have HB2 := Aside0.mk (below_step HB1.out hb); have L0 := Aside0.mk (blk_below J0.out hb); clear hb; have y0 : w2.cell? ⟨w.heap.size, 0, none⟩ = some (.bool true) := (blk_cell L0.out 0).trans rfl; have y1 : w2.cell? ⟨w.heap.size, 1, none⟩ = some (.string n) := (blk_cell L0.out 1).trans rfl; have y2 : w2.cell? ⟨w.heap.size, 2, none⟩ = some (.string d) := (blk_cell L0.out 2).trans rfl)
    | (go_at_call 21; rw [HW.out]; refine HP.out.mono ?_; rintro e w1 ⟨rfl, hb⟩; rw [HV.out]; have HB1 := Aside0.mk (below_step HB0.out hb); have J0 := Aside0.mk (blk_below K0.out hb); clear hb HP; have z0 : w1.cell? ⟨w.heap.size, 0, none⟩ = some (.bool true) := (blk_cell J0.out 0).trans rfl; have z1 : w1.cell? ⟨w.heap.size, 1, none⟩ = some (.string n) := (blk_cell J0.out 1).trans rfl; have z2 : w1.cell? ⟨w.heap.size, 2, none⟩ = some (.string d) := (blk_cell J0.out 2).trans rfl))
  go_ret2
  exact ⟨rfl, HB4.out⟩
end Go.Proofs.YtfaibifilpfikaaGreatDoor.N17

namespace Go.Proofs.YtfaibifilpfikaaGreatDoor.N18
open Go.RowKit Go.Shelf Go.Proofs.YtfaibifilpfikaaGreatDoorW.PrintWords Go.Proofs.YtfaibifilpfikaaGreatDoorW.PrintLast Go.Proofs.YtfaibifilpfikaaGreatDoorW.PrintMore Go.Proofs.YtfaibifilpfikaaGreatDoor.A Go.Proofs.YtfaibifilpfikaaGreatDoor.N1 Go.Proofs.YtfaibifilpfikaaGreatDoor.N10 Go.Proofs.YtfaibifilpfikaaGreatDoor.N11 Go.Proofs.YtfaibifilpfikaaGreatDoor.X2 Go.Proofs.YtfaibifilpfikaaGreatDoor.C Go.Proofs.YtfaibifilpfikaaGreatDoor.N12 Go.Proofs.YtfaibifilpfikaaGreatDoor.N13 Go.Proofs.YtfaibifilpfikaaGreatDoor.N14 Go.Proofs.YtfaibifilpfikaaGreatDoor.N15 Go.Proofs.YtfaibifilpfikaaGreatDoor.P1 Go.Proofs.YtfaibifilpfikaaGreatDoor.P2 Go.Proofs.YtfaibifilpfikaaGreatDoor.P3 Go.Proofs.YtfaibifilpfikaaGreatDoor.P4 Go.Proofs.YtfaibifilpfikaaGreatDoor.N17
set_option linter.unusedVariables false
set_option linter.unusedSimpArgs false

theorem atoiV_dec (m : Nat) : atoiV (Rq.dec m) = if (m : Int) ≤ 9223372036854775807 then some (m : Int) else none := by
  unfold atoiV
  rw [Rq.dec_list, atoi_dec]
  split <;> rename_i h <;> split at h <;> rename_i h2
  · cases h; rw [if_pos h2]
  · cases h
  · exact absurd rfl (h _)
  · rw [if_neg h2]
theorem neg_list (s : ByteArray) : ((⟨#[45]⟩ : ByteArray) ++ s).data.toList = 45 :: s.data.toList := by
  rw [ByteArray.data_append]
  simp
theorem atoiV_neg (m : Nat) : atoiV ((⟨#[45]⟩ : ByteArray) ++ Rq.dec m) = if (m : Int) ≤ 9223372036854775808 then some (-(m : Int)) else none := by
  unfold atoiV
  rw [neg_list, Rq.dec_list, atoi_neg]
  split <;> rename_i h <;> split at h <;> rename_i h2
  · cases h; rw [if_pos h2]
  · cases h
  · exact absurd rfl (h _)
  · rw [if_neg h2]
theorem atoiV_sign : atoiV ((⟨#[45]⟩ : ByteArray) ++ (⟨#[]⟩ : ByteArray)) = none := by
  unfold atoiV
  rw [neg_list]
  show (match Lib.atoiAll [45] with | .ok v => some v | _ => none) = none
  rw [atoi_sign]
theorem floorR_in {a : S23} (hv : vld a = true) {x : Int} (hfl : (q23 a).floor = x) (h1 : -9223372036854775808 ≤ x) (h2 : x ≤ 9223372036854775807) : floorR a = (x, 0) := by
  unfold floorR inInt
  rw [if_pos hv, hfl, decide_eq_true h1, decide_eq_true h2]
  rfl
theorem floorR_out {a : S23} (hv : vld a = true) {x : Int} (hfl : (q23 a).floor = x) (h : x < -9223372036854775808 ∨ 9223372036854775807 < x) : floorR a = (0, 10) := by
  unfold floorR inInt
  rw [if_pos hv, hfl, if_neg]
  intro e
  rw [Bool.and_eq_true, decide_eq_true_eq, decide_eq_true_eq] at e
  omega
def ratio_Floor.f (a0_0 : Bool) (a0_1 a0_2 : ByteArray) : Option (Int × Int) := some (floorR ⟨a0_0, a0_1, a0_2⟩)
theorem floor_calls (a : S23) (w : World) (hT : Tabs w) :
    Calls Tryz.prog 19 #[.agg #[.bool a.f0, .string a.f1, .string a.f2]] w fun e w' => e = .returned (.tuple #[.int .i64 (floorR a).1, .int .i64 (floorR a).2]) ∧ Below w.heap.size w w' := by
  by_cases hv : vld a = true
  · obtain ⟨s, n, d⟩ := a
    obtain ⟨h1, h2, h3, h4, h5⟩ := Rq.valid_parts hv
    simp only at h1 h2 h3
    have hdf := div_f h1 h2 h3
    have hq3 : Rq.nv n / Rq.nv d < 10 ^ 300 := Nat.lt_of_le_of_lt (Nat.div_le_self _ _) (lt300 h1)
    have hr3 : Rq.nv n % Rq.nv d < 10 ^ 300 := Nat.lt_of_le_of_lt (Nat.mod_le _ _) (lt300 h1)
    have hqs : (Rq.dec (Rq.nv n / Rq.nv d)).size ≤ 400 := Nat.le_trans (Rq.dec_size_m (k := 299) (m := 300) rfl hq3) (by decide)
    cases s with
    | false =>
      have hfl : (q23 ⟨false, n, d⟩).floor = ((Rq.nv n / Rq.nv d : Nat) : Int) := floor_pos hv
      generalize Rq.nv n / Rq.nv d = Q at *
      by_cases hi : ((Q : Nat) : Int) ≤ 9223372036854775807
      · have hR : floorR ⟨false, n, d⟩ = (((Q : Nat) : Int), 0) := floorR_in hv hfl (by omega) (by omega)
        rw [hR]
        exact floor_p_ok n d hv _ _ hdf hqs _ (by rw [atoiV_dec, if_pos hi]) w hT
      · have hR : floorR ⟨false, n, d⟩ = (0, 10) := floorR_out hv hfl (by omega)
        rw [hR]
        exact floor_p_err n d hv _ _ hdf hqs (by rw [atoiV_dec, if_neg hi]) w hT
    | true =>
      have hfl : (q23 ⟨true, n, d⟩).floor = -((Rq.nv n / Rq.nv d + (if Rq.nv n % Rq.nv d = 0 then 0 else 1) : Nat) : Int) := floor_neg hv
      generalize Rq.nv n / Rq.nv d = Q at *
      have hz := beq_zero (isN_dec hr3)
      rw [Rq.nv_dec] at hz
      by_cases hr : Rq.nv n % Rq.nv d = 0
      · rw [if_pos hr, Nat.add_zero] at hfl
        rw [decide_eq_true hr] at hz
        by_cases hi : ((Q : Nat) : Int) ≤ 9223372036854775808
        · have hR : floorR ⟨true, n, d⟩ = (-((Q : Nat) : Int), 0) := floorR_in hv hfl (by omega) (by omega)
          rw [hR]
          exact floor_n0_ok n d hv _ _ hdf hz hqs _ (by rw [atoiV_neg, if_pos hi]) w hT
        · have hR : floorR ⟨true, n, d⟩ = (0, 10) := floorR_out hv hfl (by omega)
          rw [hR]
          exact floor_n0_err n d hv _ _ hdf hz hqs (by rw [atoiV_neg, if_neg hi]) w hT
      · rw [if_neg hr] at hfl
        rw [decide_eq_false hr] at hz
        have hok : ok2 (Rq.dec (Q)) ⟨#[49]⟩ = true := ok2_iff.2 ⟨isN_dec hq3, isN_one1⟩
        have hadd : natural_Add.f (Rq.dec (Q)) ⟨#[49]⟩ = some (txS (Q + 1), txE (Q + 1)) := by
          unfold natural_Add.f resS resE
          rw [if_pos hok, if_pos hok, Rq.nv_dec, show Rq.nv ⟨#[49]⟩ = 1 from nv_one1]
        by_cases hl : (Lib.decDigits (Q + 1)).length ≤ 300
        · have htx : txS (Q + 1) = Rq.dec (Q + 1) := if_pos hl
          have hsz : (txS (Q + 1)).size ≤ 400 := by
            rw [htx, Rq.size_list, Rq.dec_list]; omega
          by_cases hi : ((Q + 1 : Nat) : Int) ≤ 9223372036854775808
          · have hR : floorR ⟨true, n, d⟩ = (-((Q + 1 : Nat) : Int), 0) := floorR_in hv hfl (by omega) (by omega)
            rw [hR]
            exact floor_n1_ok n d hv _ _ hdf hz _ _ hadd hsz _ (by rw [htx, atoiV_neg, if_pos hi]) w hT
          · have hR : floorR ⟨true, n, d⟩ = (0, 10) := floorR_out hv hfl (by omega)
            rw [hR]
            exact floor_n1_err n d hv _ _ hdf hz _ _ hadd hsz (by rw [htx, atoiV_neg, if_neg hi]) w hT
        · have htx : txS (Q + 1) = ⟨#[]⟩ := if_neg hl
          have hbig : ¬ ((Q + 1 : Nat) : Int) ≤ 9223372036854775808 := by
            intro h
            apply hl
            rw [Lib.decDigits_length]
            refine Nat.le_trans (Nb.nDigits_le (k := 18) ?_) (by decide)
            have : (10 : Nat) ^ (18 + 1) = 10000000000000000000 := by decide
            omega
          have hR : floorR ⟨true, n, d⟩ = (0, 10) := floorR_out hv hfl (by omega)
          rw [hR]
          exact floor_n1_err n d hv _ _ hdf hz _ _ hadd (by rw [htx]; decide) (by rw [htx]; exact atoiV_sign) w hT
  · have hR : floorR a = (0, 1) := by unfold floorR; rw [if_neg hv]
    rw [hR]
    exact floor_bad a (Bool.eq_false_iff.2 hv) w hT
theorem ratio_Floor.calls (a0_0 : Bool) (a0_1 a0_2 : ByteArray) (r1 r2 : Int) (w : World) (h : ratio_Floor.f a0_0 a0_1 a0_2 = some (r1, r2)) (hT : Tabs w) :
    Calls Tryz.prog 19 #[.agg #[.bool a0_0, .string a0_1, .string a0_2]] w fun e w' => e = .returned (.tuple #[.int .i64 r1, .int .i64 r2]) ∧ Below w.heap.size w w' := by
  have h := Option.some.inj h
  have h1 : r1 = (floorR ⟨a0_0, a0_1, a0_2⟩).1 := by rw [h]
  have h2 : r2 = (floorR ⟨a0_0, a0_1, a0_2⟩).2 := by rw [h]
  subst h1 h2
  exact floor_calls ⟨a0_0, a0_1, a0_2⟩ w hT
end Go.Proofs.YtfaibifilpfikaaGreatDoor.N18
